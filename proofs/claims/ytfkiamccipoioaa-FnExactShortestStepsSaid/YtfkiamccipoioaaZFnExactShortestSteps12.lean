/- Texts of this claim, packed: Px26, H3ShortestSteps. -/
import Derived.Test.YtfkiamccipoioaaZFnExactShortestSteps11
section
-- Written by gprint.py (own program, over the printer of the kit) out of the translation. Lean checks it.
namespace Go.Proofs.Ytfkiamccipoioaa.P
open Go.RowKit Go.Proofs.YtfkiamccipoioaaW.PrintWords Go.Proofs.YtfkiamccipoioaaW.PrintLast Go.Proofs.YtfkiamccipoioaaW.PrintMore Go.Proofs.YtfkiamccipoioaaW.Pk
open Bool renaming true → T_, false → F_
open List renaming setIfInBounds_toArray → sT_, set_cons_zero → s0_, set_cons_succ → sS_
attribute [local go_sem] max2_int min2_int max_two min_two max_three min_three max_four min_four   -- for this text's walks alone
set_option linter.unusedVariables false
set_option linter.unusedSimpArgs false

/-! ### spec_ShortestSteps: function 39 -/
mutual
def spec_ShortestSteps.j0 : Nat → ByteArray → ByteArray → Int → List Int → List (List Int) → Option (List Int × Int)
 | 0, _, _, _, _, _ => none
 | k + 1, x1, x2, x8, x594000, x594001 => if x8 = 0 then ((spec_l20All.f k x594000 x594001 x1).bind fun bt596 => (spec_ShortestSteps.l0 k x2 bt596.1 bt596.2.1 bt596.2.2 0)) else (some (([] : List Int), x8))
def spec_ShortestSteps.l0 : Nat → ByteArray → List ByteArray → List Int → List Int → Int → Option (List Int × Int)
 | 0, _, _, _, _, _ => none
 | k + 1, x2, x9, x10, x11, x12 => if x12 < (x9.length : Int) then (if 0 ≤ x12 then (if (rdOf ByteArray.empty x9 x12).toList = x2.toList then (spec_ShortestSteps.l1 k x10 x11 (([] : List Int)) x12) else (spec_ShortestSteps.l0 k x2 x9 x10 x11 (wrap64 (x12 + 1)))) else (none)) else (some (([] : List Int), 3))
def spec_ShortestSteps.l1 : Nat → List Int → List Int → List Int → Int → Option (List Int × Int)
 | 0, _, _, _, _ => none
 | k + 1, x10, x11, x13, x14 => if x14 > 0 then (if 0 ≤ x14 then (if x14 < (x11.length : Int) then ((some (([rd x11 x14] : List Int) : List Int)).bind fun y610 => (if y610.length + x13.length < 17592186044416 then (if x14 < (x10.length : Int) then (spec_ShortestSteps.l1 k x10 x11 (y610 ++ x13) (rd x10 x14)) else (none)) else (none))) else (none)) else (none)) else (some (x13, 0))
end
def spec_ShortestSteps.f (k : Nat) (l0_0 : List Int) (l0_1 : List (List Int)) (a1 : ByteArray) (a2 : ByteArray) : Option (List Int × Int) := (spec_l20Code.f k l0_0 l0_1 a1).bind fun t594 => (if t594 = 0 then ((spec_l20Code.f k l0_0 l0_1 a2).bind fun t595 => (spec_ShortestSteps.j0 k a1 a2 t595 l0_0 l0_1)) else (spec_ShortestSteps.j0 k a1 a2 t594 l0_0 l0_1))
set_option maxHeartbeats 8000000 in
set_option maxRecDepth 100000 in
theorem spec_ShortestSteps.calls (k : Nat) (A0_0 : Option Addr) (c0_0 : Nat) (l0_0 : List Int) (A0_1 : Option Addr) (c0_1 : Nat) (l0_1 : List (List Int)) (a1 : ByteArray) (a2 : ByteArray) (r1 : List Int) (r2 : Int) (w : World) (hr0_0 : Kd.C (Kd.int .i64) w A0_0 l0_0.length l0_0) (hc0_0 : l0_0.length ≤ c0_0) (hr0_1 : Kd.C (Kd.slice 2 (Kd.int .i64)) w A0_1 l0_1.length l0_1) (hc0_1 : l0_1.length ≤ c0_1) (h : spec_ShortestSteps.f k l0_0 l0_1 a1 a2 = some (r1, r2)) :
  Calls Try.prog 39 #[.agg #[.slice A0_0 l0_0.length c0_0, .slice A0_1 l0_1.length c0_1], .string a1, .string a2] w fun e w' => ∃ v0_ : Value, e = .returned (.tuple #[v0_, .int .i64 r2]) ∧ Kd.R (Kd.int .i64) 2 w' w.heap.size (fun _ => True) v0_ r1 ∧ Below w.heap.size w w' := by
 have hu28 := Try.underlying28
 have HR0_0 := Aside0.mk hr0_0
 have HC0_0 := Aside0.mk hc0_0
 clear hr0_0 hc0_0
 have HR0_1 := Aside0.mk hr0_1
 have HC0_1 := Aside0.mk hc0_1
 clear hr0_1 hc0_1
 have HB := Aside0.mk (Below.refl w.heap.size w)
 have H : ((spec_l20Code.f k l0_0 l0_1 a1).bind fun t594 => (if t594 = 0 then ((spec_l20Code.f k l0_0 l0_1 a2).bind fun t595 => (spec_ShortestSteps.j0 k a1 a2 t595 l0_0 l0_1)) else (spec_ShortestSteps.j0 k a1 a2 t594 l0_0 l0_1))) = some (r1, r2) := h
 clear h
 replace H := Option.bind_eq_some_iff.mp H
 obtain ⟨t594, A40, H⟩ := H
 replace H : (if t594 = 0 then ((spec_l20Code.f k l0_0 l0_1 a2).bind fun t595 => (spec_ShortestSteps.j0 k a1 a2 t595 l0_0 l0_1)) else (spec_ShortestSteps.j0 k a1 a2 t594 l0_0 l0_1)) = some (r1, r2) := H
 have A4 := Aside0.mk A40
 clear A40
 have HC5 := Aside0.mk H
 clear H
 go_enter Try.func39, Try.ntmps39
 go_upto_if 18 with (first | ((with_reducible refine gate_dst (N := 3) rfl ?_); refine box_event ?hg (N := 3) ?hd (cs := #[.slice A0_0 l0_0.length c0_0, .slice A0_1 l0_1.length c0_1]) (t := 28) ?hr ?_; (case hd => rfl); (case hg => rfl); (case hr => first | (go_simp; done) | (go_simp; rfl)); intro gb593 hg w6 hbox hb; have n0_ := Aside0.mk (below_step hb_ hb); have n1_ := Aside0.mk ((show IsS28 w _ gb593 l0_0 l0_1 from ⟨_, _, _, _, hbox, (by rw [hg]; exact (below_size hb_) : w.heap.size ≤ gb593), HR0_0.out, HR0_1.out⟩)); have n2_ := Aside0.mk ((by rw [hg]; exact (below_size hb_) : w.heap.size ≤ gb593)); have n3_ := Aside0.mk ((by rw [hg]; exact (below_size hb_) : w.heap.size ≤ gb593)); clear HB; have HB := n0_; have HI593 := n1_; have GW593 := n2_; have GE593 := n3_; clear n0_ n1_ n2_ n3_; clear hb hbox hg) | ((with_reducible refine gate_callee (f := 56) rfl ?_); refine goesL_ (some 16) rfl rfl Try.func56 (by kernel_rfl) rfl #[.pointer (some ⟨gb593, 0, none⟩), .string a1] rfl ln_ ?_; (with_reducible refine (spec_l20Code.calls k gb593 l0_0 l0_1 a1 t594 w _ ?side1 ?side2 A4.out).mono ?_); (case side1 => repeat (first | (with_reducible first | exact HI593.out | apply IsS28.alloc | apply IsS28.drewN | apply IsS28.drew) | exact HI593.out)); (case side2 => repeat (first | (with_reducible first | exact HB.out | apply below_alloc | apply pw_below_drewN | apply below_drew1 | refine below_set ?_ (IsS28.ge HI593.out)) | exact HB.out)); rintro e w7 ⟨rfl, hi, hb, hk⟩; refine ⟨_, rfl, ?_⟩; have n0_ := Aside0.mk (hb); have n1_ := Aside0.mk (hi); clear HB; clear HI593; have HB := n0_; have HI593 := n1_; clear n0_ n1_; (try clear hb); (try clear hb2); (try clear hk); (try clear hi)))
 (try simp only [Act.put, List.setIfInBounds_toArray, List.set_cons_zero, List.set_cons_succ])
 go_cut [8] (fun v8 wc => ∃ (kq : Nat) (x8_4 : Int), v8 = .int .i64 x8_4 ∧ Aside0 (spec_ShortestSteps.j0 kq a1 a2 x8_4 l0_0 l0_1 = some (r1, r2)) ∧ Aside0 (kq ≤ k) ∧ Aside0 (IsS28 w wc gb593 l0_0 l0_1) ∧ Aside0 (Below w.heap.size w wc))
 case first =>
  have H := HC5.out
  clear HC5
  by_cases c8 : t594 = 0
  ·rw [if_pos c8] at H
   have c8b0 : (t594 == 0) = true := beq_iff_eq.mpr c8
   have c8b1 : (t594 != 0) = false := bne_eq_false_iff_eq.mpr c8
   clear c8
   (first | rw [c8b0] | (simp only [i64_w, i32_w]; rw [c8b0]) | skip)
   replace H := Option.bind_eq_some_iff.mp H
   obtain ⟨t595, A90, H⟩ := H
   replace H : (spec_ShortestSteps.j0 k a1 a2 t595 l0_0 l0_1) = some (r1, r2) := H
   have A9 := Aside0.mk A90
   clear A90
   have H' := Aside0.mk H
   clear H
   go_wp2_with (first | ((with_reducible refine gate_callee (f := 56) rfl ?_); refine goesL_ (some 20) rfl rfl Try.func56 (by kernel_rfl) rfl #[.pointer (some ⟨gb593, 0, none⟩), .string a2] rfl ln_ ?_; (with_reducible refine (spec_l20Code.calls k gb593 l0_0 l0_1 a2 t595 w _ ?side1 ?side2 A9.out).mono ?_); (case side1 => repeat (first | (with_reducible first | exact HI593.out | apply IsS28.alloc | apply IsS28.drewN | apply IsS28.drew) | exact HI593.out)); (case side2 => repeat (first | (with_reducible first | exact HB.out | apply below_alloc | apply pw_below_drewN | apply below_drew1 | refine below_set ?_ (IsS28.ge HI593.out)) | exact HB.out)); rintro e w10 ⟨rfl, hi, hb, hk⟩; refine ⟨_, rfl, ?_⟩; have n0_ := Aside0.mk (hb); have n1_ := Aside0.mk (hi); clear HB; clear HI593; have HB := n0_; have HI593 := n1_; clear n0_ n1_; (try clear hb); (try clear hb2); (try clear hk); (try clear hi)))
   go_meet
   case rel => exact ⟨_, (t595), (by first | rfl | (simp; done) | (simp [*]; done)), H', ⟨by first | omega | exact Nat.le_refl _⟩, ⟨by repeat (first | (with_reducible first | exact HI593.out | apply IsS28.alloc | apply IsS28.drewN | apply IsS28.drew) | exact HI593.out)⟩, ⟨by repeat (first | (with_reducible first | exact HB.out | apply below_alloc | apply pw_below_drewN | apply below_drew1 | refine below_set ?_ (IsS28.ge HI593.out)) | exact HB.out)⟩⟩
  ·rw [if_neg c8] at H
   have c8b0 : (t594 == 0) = false := beq_eq_false_iff_ne.mpr c8
   have c8b1 : (t594 != 0) = true := bne_iff_ne.mpr c8
   (first | rw [c8b0] | (simp only [i64_w, i32_w]; rw [c8b0]) | skip)
   have H' := Aside0.mk H
   clear H
   go_wp2
   go_meet
   case rel => exact ⟨_, (t594), (by first | rfl | (simp; done) | (simp [*]; done)), H', ⟨by first | omega | exact Nat.le_refl _⟩, ⟨by repeat (first | (with_reducible first | exact HI593.out | apply IsS28.alloc | apply IsS28.drewN | apply IsS28.drew) | exact HI593.out)⟩, ⟨by repeat (first | (with_reducible first | exact HB.out | apply below_alloc | apply pw_below_drewN | apply below_drew1 | refine below_set ?_ (IsS28.ge HI593.out)) | exact HB.out)⟩⟩
 case rest =>
  clear HC5
  try clear p2
  try clear c3
  try clear c5
  try clear c8
  try clear c8b0
  try clear c8b1
  obtain ⟨kq, x8_4, rfl, HA, HJ4, HI593, HB⟩ := hcut
  cases kq with
  | zero => exact absurd HA.out (by simp [spec_ShortestSteps.j0])
  | succ kj4 =>
   have H := HA.out
   clear HA
   simp only [spec_ShortestSteps.j0] at H
   by_cases c11 : x8_4 = 0
   ·rw [if_pos c11] at H
    have c11b0 : (x8_4 == 0) = true := beq_iff_eq.mpr c11
    have c11b1 : (x8_4 != 0) = false := bne_eq_false_iff_eq.mpr c11
    clear c11
    replace H := Option.bind_eq_some_iff.mp H
    obtain ⟨⟨t596, t599, t602⟩, A120, H⟩ := H
    replace H : (spec_ShortestSteps.l0 kj4 a2 t596 t599 t602 0) = some (r1, r2) := H
    have A12 := Aside0.mk A120
    clear A120
    have H' := Aside0.mk H
    clear H
    go_wp2_with (first | ((with_reducible refine gate_callee (f := 68) rfl ?_); refine goesL_ (some 26) rfl rfl Try.func68 (by kernel_rfl) rfl #[.pointer (some ⟨gb593, 0, none⟩), .string a1] rfl ln_ ?_; (with_reducible refine (spec_l20All.calls kj4 gb593 l0_0 l0_1 a1 t596 t599 t602 w _ ?side1 ?side2 A12.out).mono ?_); (case side1 => repeat (first | (with_reducible first | exact HI593.out | apply IsS28.alloc | apply IsS28.drewN | apply IsS28.drew) | exact HI593.out)); (case side2 => repeat (first | (with_reducible first | exact HB.out | apply below_alloc | apply pw_below_drewN | apply below_drew1 | refine below_set ?_ (IsS28.ge HI593.out)) | exact HB.out)); rintro e w13 ⟨v597, v600, v603, rfl, ho0, ho1, ho2, hi, hb, hk⟩; refine ⟨_, rfl, ?_⟩; have n0_ := Aside0.mk (Kd.R_lower ho0 (below_size (by repeat (first | (with_reducible first | exact HB.out | apply below_alloc | apply pw_below_drewN | apply below_drew1 | refine below_set ?_ (IsS28.ge HI593.out)) | exact HB.out)))); have n1_ := Aside0.mk (Kd.R_lower ho1 (below_size (by repeat (first | (with_reducible first | exact HB.out | apply below_alloc | apply pw_below_drewN | apply below_drew1 | refine below_set ?_ (IsS28.ge HI593.out)) | exact HB.out)))); have n2_ := Aside0.mk (Kd.R_lower ho2 (below_size (by repeat (first | (with_reducible first | exact HB.out | apply below_alloc | apply pw_below_drewN | apply below_drew1 | refine below_set ?_ (IsS28.ge HI593.out)) | exact HB.out)))); have n3_ := Aside0.mk (hb); have n4_ := Aside0.mk (hi); clear HB; clear HI593; have HO598 := n0_; have HO601 := n1_; have HO604 := n2_; have HB := n3_; have HI593 := n4_; clear n0_ n1_ n2_ n3_ n4_; (try clear hb); (try clear hb2); (try clear hk); (try clear hi); (try clear ho0); (try clear ho1); (try clear ho2)))
    go_loopg [12] kj4 (fun kq v12 w' => ∃ (x12_2 : Int), v12 = .int .i64 x12_2 ∧ Aside0 (spec_ShortestSteps.l0 kq a2 t596 t599 t602 x12_2 = some (r1, r2)) ∧ Aside0 (kq ≤ kj4) ∧ Aside0 (Kd.R Kd.string 9 w' w.heap.size (fun _ => True) v597 t596) ∧ Aside0 (Kd.R (Kd.int .i64) 3 w' w.heap.size (fun _ => True) v600 t599) ∧ Aside0 (Kd.R (Kd.int .i64) 2 w' w.heap.size (fun _ => True) v603 t602) ∧ Aside0 (IsS28 w w' gb593 l0_0 l0_1) ∧ Aside0 (Below w.heap.size w w'))
    case atStart => exact ⟨(0), (by first | rfl | (simp; done) | (simp [*]; done)), H', ⟨Nat.le_refl _⟩, ⟨by (with_reducible repeat (first | apply Kd.R_alloc | apply Kd.R_drewN | apply Kd.R_drew)); exact HO598.out⟩, ⟨by (with_reducible repeat (first | apply Kd.R_alloc | apply Kd.R_drewN | apply Kd.R_drew)); exact HO601.out⟩, ⟨by (with_reducible repeat (first | apply Kd.R_alloc | apply Kd.R_drewN | apply Kd.R_drew)); exact HO604.out⟩, ⟨by repeat (first | (with_reducible first | exact HI593.out | apply IsS28.alloc | apply IsS28.drewN | apply IsS28.drew) | exact HI593.out)⟩, ⟨by repeat (first | (with_reducible first | exact HB.out | apply below_alloc | apply pw_below_drewN | apply below_drew1 | refine below_set ?_ (IsS28.ge HI593.out)) | exact HB.out)⟩⟩
    case round =>
     clear H'
     try clear c1
     try clear p2
     try clear c3
     try clear c5
     try clear c6
     try clear c8
     try clear c8b0
     try clear c8b1
     try clear c11
     try clear c11b0
     try clear c11b1
     try clear p2
     obtain ⟨x12_2, rfl, HA, HK2, HO_9, HO_10, HO_11, HI593, HB⟩ := hrel
     cases gk with
     | zero => exact absurd HA.out (by simp [spec_ShortestSteps.l0])
     | succ k2 =>
      have H := HA.out
      clear HA
      simp only [spec_ShortestSteps.l0] at H
      by_cases c14 : x12_2 < (t596.length : Int)
      ·rw [if_pos c14] at H
       have c14b0 : decide (x12_2 < (t596.length : Int)) = true := decide_eq_true c14
       clear c14
       by_cases c15 : 0 ≤ x12_2
       ·rw [if_pos c15] at H
        have c15b0 : decide (0 ≤ x12_2) = true := decide_eq_true c15
        clear c15
        by_cases c16 : (rdOf ByteArray.empty t596 x12_2).toList = a2.toList
        ·rw [if_pos c16] at H
         have c16b0 : ((rdOf ByteArray.empty t596 x12_2).toList == a2.toList) = true := beq_iff_eq.mpr c16
         have c16b1 : ((rdOf ByteArray.empty t596 x12_2).toList != a2.toList) = false := bne_eq_false_iff_eq.mpr c16
         clear c16
         obtain ⟨y606, hy606⟩ : ∃ y_ : List Int, y_ = (([] : List Int)) := ⟨_, rfl⟩
         replace H : (spec_ShortestSteps.l1 k2 t599 t602 y606 x12_2) = some (r1, r2) := by first | (rw [hy606]; with_reducible exact H) | (have H2_ := (Option.bind_some _ _).symm.trans H; rw [hy606]; with_reducible exact H2_) | (have H2_ := (Option.bind_some _ _).symm.trans H; with_reducible exact H2_) | with_reducible exact H | (rw [hy606]; exact H) | exact H
         have Ny606 := Aside0.mk hy606
         clear hy606
         have H' := Aside0.mk H
         clear H
         obtain ⟨Ao17, co17, eo17⟩ := Kd.R_slice HO_9.out
         subst eo17
         have p605 : 0 ≤ (x12_2 : Int) := od_
         have q605 : x12_2 < (t596.length : Int) := od_
         obtain ⟨ad605, e605, hx605_0⟩ := Kd.at_string (Kd.R_reads' HO_9.out).2.2 x12_2 p605 q605
         cases e605
         replace p605 := eq_true p605
         replace q605 := eq_true q605
         go_wp2_with (first | ((with_reducible refine gate_dst (N := 42) rfl ?_); refine Kd.R_lit (Kd.int .i64) _ 2 ?hg (N := 42) ?hd (xs := ([] : List Int)) (inner := []) (ok := fun _ => True) (okp := fun _ => True) ?hr ?hp (fun _ hk => hk) trivial (Below.refl _ _) (Nat.le_refl _) (by simp) ?_; (case hd => rfl); (case hg => rfl); (case hr => first | (go_simp; done) | (go_simp; rfl)); (case hp => exact (Reps.none _ _)); intro v607 w18 ho19 hb hg_ hnew_; clear hg_ hnew_; (first | rw [← Ny606.out] at ho19 | (simp only [Int.reduceToNat] at ho19; rw [← Ny606.out] at ho19)); have n0_ := Aside0.mk (Kd.R_below (kr_ HO_9) hb); have n1_ := Aside0.mk (Kd.R_below (kr_ HO_10) hb); have n2_ := Aside0.mk (Kd.R_elder' (kr_ HO_11) (Kd.R_base ho19) hb); have n3_ := Aside0.mk (Kd.R_lower (Kd.R_new' ho19 (Kd.R_lt (kr_ HO_11))) (below_size (by repeat (first | (with_reducible first | exact HB.out | apply below_alloc | apply pw_below_drewN | apply below_drew1 | refine below_set ?_ (IsS28.ge HI593.out)) | exact HB.out)))); have n4_ := Aside0.mk (IsS28.below (by repeat (first | (with_reducible first | exact HI593.out | apply IsS28.alloc | apply IsS28.drewN | apply IsS28.drew) | exact HI593.out)) hb); have n5_ := Aside0.mk (below_step (by repeat (first | (with_reducible first | exact HB.out | apply below_alloc | apply pw_below_drewN | apply below_drew1 | refine below_set ?_ (IsS28.ge HI593.out)) | exact HB.out)) hb); clear HO_9; clear HO_10; clear HO_11; clear HI593; clear HB; have HO_9 := n0_; have HO_10 := n1_; have HO_11 := n2_; have HO608 := n3_; have HI593 := n4_; have HB := n5_; clear n0_ n1_ n2_ n3_ n4_ n5_; clear hb ho19))
         go_loopg [13, 14] k2 (fun kq v13 v14 w' => ∃ (x13_3 : List Int) (x14_3 : Int), v14 = .int .i64 x14_3 ∧ Aside0 (spec_ShortestSteps.l1 kq t599 t602 x13_3 x14_3 = some (r1, r2)) ∧ Aside0 (kq ≤ k2) ∧ Aside0 (Kd.R (Kd.int .i64) 3 w' w.heap.size (fun _ => True) v600 t599) ∧ Aside0 (Kd.R (Kd.int .i64) 2 w' w.heap.size (fun k_ => some k_ ≠ (v13 : Value).ownBlock) v603 t602) ∧ Aside0 (Kd.R (Kd.int .i64) 2 w' w.heap.size (fun k_ => some k_ ≠ (v603 : Value).ownBlock) v13 x13_3) ∧ Aside0 (IsS28 w w' gb593 l0_0 l0_1) ∧ Aside0 (Below w.heap.size w w'))
         case atStart => exact ⟨(y606), (x12_2), (by first | rfl | (simp; done) | (simp [*]; done)), H', ⟨Nat.le_refl _⟩, ⟨by (with_reducible repeat (first | apply Kd.R_alloc | apply Kd.R_drewN | apply Kd.R_drew)); exact HO_10.out⟩, ⟨by (with_reducible repeat (first | apply Kd.R_alloc | apply Kd.R_drewN | apply Kd.R_drew)); exact Kd.R_mono HO_11.out (fun _ hk => hk.2)⟩, ⟨by (with_reducible repeat (first | apply Kd.R_alloc | apply Kd.R_drewN | apply Kd.R_drew)); exact Kd.R_mono HO608.out (fun _ hk => hk.2)⟩, ⟨by repeat (first | (with_reducible first | exact HI593.out | apply IsS28.alloc | apply IsS28.drewN | apply IsS28.drew) | exact HI593.out)⟩, ⟨by repeat (first | (with_reducible first | exact HB.out | apply below_alloc | apply pw_below_drewN | apply below_drew1 | refine below_set ?_ (IsS28.ge HI593.out)) | exact HB.out)⟩⟩
         case round =>
          clear H'
          try clear c1
          try clear p2
          try clear c3
          try clear c5
          try clear c6
          try clear p6
          try clear q6
          try clear hx6
          try clear c8
          try clear c8b0
          try clear c8b1
          try clear c11
          try clear c11b0
          try clear c11b1
          try clear c14
          try clear c14b0
          try clear c15
          try clear c15b0
          try clear c16
          try clear c16b0
          try clear c16b1
          try clear hx605_0
          try clear p2
          try clear p605
          try clear q605
          obtain ⟨x13_3, x14_3, rfl, HA, HK3, HO_10, HO_11, HO_13, HI593, HB⟩ := hrel
          cases gk with
          | zero => exact absurd HA.out (by simp [spec_ShortestSteps.l1])
          | succ k3 =>
           have H := HA.out
           clear HA
           simp only [spec_ShortestSteps.l1] at H
           by_cases c20 : x14_3 > 0
           ·rw [if_pos c20] at H
            have c20b0 : decide (0 < x14_3) = true := decide_eq_true c20
            clear c20
            by_cases c21 : 0 ≤ x14_3
            ·rw [if_pos c21] at H
             have c21b0 : decide (0 ≤ x14_3) = true := decide_eq_true c21
             clear c21
             by_cases c22 : x14_3 < (t602.length : Int)
             ·rw [if_pos c22] at H
              have c22b0 : decide (x14_3 < (t602.length : Int)) = true := decide_eq_true c22
              clear c22
              obtain ⟨y610, hy610⟩ : ∃ y_ : List Int, y_ = (([rd t602 x14_3] : List Int)) := ⟨_, rfl⟩
              replace H : (if y610.length + x13_3.length < 17592186044416 then (if x14_3 < (t599.length : Int) then (spec_ShortestSteps.l1 k3 t599 t602 (y610 ++ x13_3) (rd t599 x14_3)) else (none)) else (none)) = some (r1, r2) := by first | (rw [hy610]; with_reducible exact H) | (have H2_ := (Option.bind_some _ _).symm.trans H; rw [hy610]; with_reducible exact H2_) | (have H2_ := (Option.bind_some _ _).symm.trans H; with_reducible exact H2_) | with_reducible exact H | (rw [hy610]; exact H) | exact H
              have Ny610 := Aside0.mk hy610
              clear hy610
              by_cases c23 : y610.length + x13_3.length < 17592186044416
              ·rw [if_pos c23] at H
               have LMc23 := Aside0.mk c23
               clear c23
               obtain ⟨y613, hy613⟩ : ∃ y_ : List Int, y_ = (y610 ++ x13_3) := ⟨_, rfl⟩
               replace H : (if x14_3 < (t599.length : Int) then (spec_ShortestSteps.l1 k3 t599 t602 y613 (rd t599 x14_3)) else (none)) = some (r1, r2) := by first | (rw [hy613]; with_reducible exact H) | (have H2_ := (Option.bind_some _ _).symm.trans H; rw [hy613]; with_reducible exact H2_) | (have H2_ := (Option.bind_some _ _).symm.trans H; with_reducible exact H2_) | with_reducible exact H | (rw [hy613]; exact H) | exact H
               have Ny613 := Aside0.mk hy613
               clear hy613
               by_cases c24 : x14_3 < (t599.length : Int)
               ·rw [if_pos c24] at H
                have c24b0 : decide (x14_3 < (t599.length : Int)) = true := decide_eq_true c24
                clear c24
                have H' := Aside0.mk H
                clear H
                obtain ⟨Ao25, co25, eo25⟩ := Kd.R_slice HO_11.out
                subst eo25
                have p609 : 0 ≤ (x14_3 : Int) := od_
                have q609 : x14_3 < (t602.length : Int) := od_
                obtain ⟨ad609, e609, hx609_0⟩ := Kd.at_int (Kd.R_reads' HO_11.out).2.2 x14_3 p609 q609
                cases e609
                replace p609 := eq_true p609
                replace q609 := eq_true q609
                go_wp2_with (first | ((with_reducible refine gate_dst (N := 54) rfl ?_); refine Kd.R_lit (Kd.int .i64) _ 2 ?hg (N := 54) ?hd (xs := ([rd t602 x14_3] : List Int)) (inner := [.int .i64 (rd t602 x14_3)]) (ok := fun _ => True) (okp := fun _ => True) ?hr ?hp (fun _ hk => hk) trivial (Below.refl _ _) (Nat.le_refl _) (by simp) ?_; (case hd => rfl); (case hg => rfl); (case hr => first | (go_simp; done) | (go_simp; rfl)); (case hp => exact (Reps.one (show Kd.M (Kd.int .i64) _ _ _ (rd t602 x14_3) [.int .i64 (rd t602 x14_3)] from rfl) (Reps.none _ _))); intro v611 w26 ho27 hb hg_ hnew_; clear hg_ hnew_; (first | rw [← Ny610.out] at ho27 | (simp only [Int.reduceToNat] at ho27; rw [← Ny610.out] at ho27)); have n0_ := Aside0.mk (Kd.R_below (kr_ HO_10) hb); have n1_ := Aside0.mk (Kd.R_elder' (kr_ HO_11) (Kd.R_base ho27) hb); have n2_ := Aside0.mk (Kd.R_elder' (kr_ HO_13) (Kd.R_base ho27) hb); have n3_ := Aside0.mk (Kd.R_lower (Kd.R_new' (Kd.R_new' ho27 (Kd.R_lt (kr_ HO_11))) (Kd.R_lt (kr_ HO_13))) (below_size (by repeat (first | (with_reducible first | exact HB.out | apply below_alloc | apply pw_below_drewN | apply below_drew1 | refine below_set ?_ (IsS28.ge HI593.out)) | exact HB.out)))); have n4_ := Aside0.mk (IsS28.below (by repeat (first | (with_reducible first | exact HI593.out | apply IsS28.alloc | apply IsS28.drewN | apply IsS28.drew) | exact HI593.out)) hb); have n5_ := Aside0.mk (below_step (by repeat (first | (with_reducible first | exact HB.out | apply below_alloc | apply pw_below_drewN | apply below_drew1 | refine below_set ?_ (IsS28.ge HI593.out)) | exact HB.out)) hb); clear HO_10; clear HO_11; clear HO_13; clear HI593; clear HB; have HO_10 := n0_; have HO_11 := n1_; have HO_13 := n2_; have HO612 := n3_; have HI593 := n4_; have HB := n5_; clear n0_ n1_ n2_ n3_ n4_ n5_; clear hb ho27; obtain ⟨Ao29, co29, eo29⟩ := Kd.R_slice HO_13.out; subst eo29) | ((with_reducible refine gate_builtin (b := .append) (xs := #[.tmp 54, .tmp 55]) rfl ?_); at_builtin; refine Kd.R_append_rows (Kd.int .i64) (w0 := w) w.heap.size rfl (.tmp 54) (.tmp 55) 22 2 (.int .i64 0) 8 rfl Try.underlying22 info2 rfl (by decide) (by omega) v611 y610 x13_3 _ _ _ (fun k_ => some k_ ≠ (.slice (some ad609) t602.length co25 : Value).ownBlock ∧ some k_ ≠ (.slice Ao29 x13_3.length co29 : Value).ownBlock) (fun _ => False) rfl rfl ?aO ?aR (fun _ _ h => h) (fun _ h => h.elim) ?aF ?aB ?aS ?aL ?_; (case aR => repeat (first | exact (Kd.R_reads' HO_13.out).2.2 | (with_reducible refine Kd.C_alloc ?_ _) | (with_reducible refine Kd.C_drewN ?_ _) | (with_reducible refine Kd.C_drew ?_))); (case aB => exact (by repeat (first | (with_reducible first | exact HB.out | apply below_alloc | apply pw_below_drewN | apply below_drew1 | refine below_set ?_ (IsS28.ge HI593.out)) | exact HB.out))); (case aF => exact (fun k_ hk => ⟨Kd.fresh' (Kd.R_lt (kr_ HO_11)) k_ hk, Kd.fresh' (Kd.R_lt (kr_ HO_13)) k_ hk⟩)); (case aO => exact (by (with_reducible repeat (first | apply Kd.R_alloc | apply Kd.R_drewN | apply Kd.R_drew)); exact Kd.R_mono HO612.out (fun _ hk => ⟨hk.1.2, hk.2⟩))); (case aS => exact (below_size (by repeat (first | (with_reducible first | exact HB.out | apply below_alloc | apply pw_below_drewN | apply below_drew1 | refine below_set ?_ (IsS28.ge HI593.out)) | exact HB.out)))); (case aL => have := LMc23.out; omega); intro v614 w28 ho hb hg hat; rw [← Ny613.out] at ho; have n0_ := Aside0.mk (Kd.R_over' (kr_ HO_10) (Kd.R_typed (kr_ HO612)) (by decide) hg); have n1_ := Aside0.mk (Kd.R_after (ok := (fun k_ => some k_ ≠ (.slice Ao29 x13_3.length co29 : Value).ownBlock)) (kr_ HO_11) hg hat); have n2_ := Aside0.mk (Kd.R_after (ok := (fun k_ => some k_ ≠ (.slice (some ad609) t602.length co25 : Value).ownBlock)) (kr_ HO_13) hg hat); have n3_ := Aside0.mk (IsS28.grown (by repeat (first | (with_reducible first | exact HI593.out | apply IsS28.alloc | apply IsS28.drewN | apply IsS28.drew) | exact HI593.out)) hg (IsS28.own_ne HI593.out HO612.out (by decide))); have n4_ := Aside0.mk (hb); have n5_ := Aside0.mk (ho); clear HO_10; clear HO_11; clear HO_13; clear HI593; clear HB; clear HO612; have HO_10 := n0_; have HO_11 := n1_; have HO_13 := n2_; have HI593 := n3_; have HB := n4_; have HO615 := n5_; clear n0_ n1_ n2_ n3_ n4_ n5_; clear ho hb hg hat; obtain ⟨Ao30, co30, eo30⟩ := Kd.R_slice HO_10.out; subst eo30; have p616 : 0 ≤ (x14_3 : Int) := od_; have q616 : x14_3 < (t599.length : Int) := od_; obtain ⟨ad616, e616, hx616_0⟩ := Kd.at_int (Kd.R_reads' HO_10.out).2.2 x14_3 p616 q616; cases e616; replace p616 := eq_true p616; replace q616 := eq_true q616))
                go_roundg k3
                case measure => have := HJ4.out; have := HK2.out; have := HK3.out; omega
                case rel => exact ⟨(y613), (rd t599 x14_3), (by first | rfl | (simp; done) | (simp [*]; done)), H', ⟨by have := HJ4.out; have := HK2.out; have := HK3.out; omega⟩, ⟨by (with_reducible repeat (first | apply Kd.R_alloc | apply Kd.R_drewN | apply Kd.R_drew)); exact HO_10.out⟩, ⟨by (with_reducible repeat (first | apply Kd.R_alloc | apply Kd.R_drewN | apply Kd.R_drew)); exact Kd.R_mono HO_11.out (fun _ hk => hk.2)⟩, ⟨by (with_reducible repeat (first | apply Kd.R_alloc | apply Kd.R_drewN | apply Kd.R_drew)); exact Kd.R_mono HO615.out (fun _ hk => hk.1)⟩, ⟨by repeat (first | (with_reducible first | exact HI593.out | apply IsS28.alloc | apply IsS28.drewN | apply IsS28.drew) | exact HI593.out)⟩, ⟨by repeat (first | (with_reducible first | exact HB.out | apply below_alloc | apply pw_below_drewN | apply below_drew1 | refine below_set ?_ (IsS28.ge HI593.out)) | exact HB.out)⟩⟩
               ·rw [if_neg c24] at H
                exact absurd H (by simp)
              ·rw [if_neg c23] at H
               exact absurd H (by simp)
             ·rw [if_neg c22] at H
              exact absurd H (by simp)
            ·rw [if_neg c21] at H
             exact absurd H (by simp)
           ·rw [if_neg c20] at H
            have c20b0 : decide (0 < x14_3) = false := decide_eq_false c20
            clear c20
            simp only [Option.some.injEq, Prod.mk.injEq] at H
            obtain ⟨rfl, rfl⟩ := H
            go_wp2
            go_ret2
            exact ⟨_, ew_, by (with_reducible repeat (first | apply Kd.R_alloc | apply Kd.R_drewN | apply Kd.R_drew)); exact Kd.R_mono HO_13.out (fun _ hk => trivial), by repeat (first | (with_reducible first | exact HB.out | apply below_alloc | apply pw_below_drewN | apply below_drew1 | refine below_set ?_ (IsS28.ge HI593.out)) | exact HB.out)⟩
        ·rw [if_neg c16] at H
         have c16b0 : ((rdOf ByteArray.empty t596 x12_2).toList == a2.toList) = false := beq_eq_false_iff_ne.mpr c16
         have c16b1 : ((rdOf ByteArray.empty t596 x12_2).toList != a2.toList) = true := bne_iff_ne.mpr c16
         have H' := Aside0.mk H
         clear H
         obtain ⟨Ao31, co31, eo31⟩ := Kd.R_slice HO_9.out
         subst eo31
         have p605 : 0 ≤ (x12_2 : Int) := od_
         have q605 : x12_2 < (t596.length : Int) := od_
         obtain ⟨ad605, e605, hx605_0⟩ := Kd.at_string (Kd.R_reads' HO_9.out).2.2 x12_2 p605 q605
         cases e605
         replace p605 := eq_true p605
         replace q605 := eq_true q605
         go_wp2
         go_roundg k2
         case measure => have := HJ4.out; have := HK2.out; omega
         case rel => exact ⟨(wrap64 (x12_2 + 1)), (by first | rfl | (simp; done) | (simp [*]; done)), H', ⟨by have := HJ4.out; have := HK2.out; omega⟩, ⟨by (with_reducible repeat (first | apply Kd.R_alloc | apply Kd.R_drewN | apply Kd.R_drew)); exact HO_9.out⟩, ⟨by (with_reducible repeat (first | apply Kd.R_alloc | apply Kd.R_drewN | apply Kd.R_drew)); exact HO_10.out⟩, ⟨by (with_reducible repeat (first | apply Kd.R_alloc | apply Kd.R_drewN | apply Kd.R_drew)); exact HO_11.out⟩, ⟨by repeat (first | (with_reducible first | exact HI593.out | apply IsS28.alloc | apply IsS28.drewN | apply IsS28.drew) | exact HI593.out)⟩, ⟨by repeat (first | (with_reducible first | exact HB.out | apply below_alloc | apply pw_below_drewN | apply below_drew1 | refine below_set ?_ (IsS28.ge HI593.out)) | exact HB.out)⟩⟩
       ·rw [if_neg c15] at H
        exact absurd H (by simp)
      ·rw [if_neg c14] at H
       have c14b0 : decide (x12_2 < (t596.length : Int)) = false := decide_eq_false c14
       clear c14
       simp only [Option.some.injEq, Prod.mk.injEq] at H
       obtain ⟨rfl, rfl⟩ := H
       obtain ⟨Ao32, co32, eo32⟩ := Kd.R_slice HO_9.out
       subst eo32
       go_wp2
       go_ret2
       exact ⟨_, ew_, by first | exact Kd.R_nil _ _ _ _ _ | exact Kd.N_nil _ _ _ _ _ | exact Kd.V_nil _ _ _ _ _ | exact Kd.Q_nil _ _ _ _ _ | exact Kd.S_nil _ _ _ _ _, by repeat (first | (with_reducible first | exact HB.out | apply below_alloc | apply pw_below_drewN | apply below_drew1 | refine below_set ?_ (IsS28.ge HI593.out)) | exact HB.out)⟩
   ·rw [if_neg c11] at H
    have c11b0 : (x8_4 == 0) = false := beq_eq_false_iff_ne.mpr c11
    have c11b1 : (x8_4 != 0) = true := bne_iff_ne.mpr c11
    simp only [Option.some.injEq, Prod.mk.injEq] at H
    obtain ⟨rfl, rfl⟩ := H
    go_wp2
    go_ret2
    exact ⟨_, ew_, by first | exact Kd.R_nil _ _ _ _ _ | exact Kd.N_nil _ _ _ _ _ | exact Kd.V_nil _ _ _ _ _ | exact Kd.Q_nil _ _ _ _ _ | exact Kd.S_nil _ _ _ _ _, by repeat (first | (with_reducible first | exact HB.out | apply below_alloc | apply pw_below_drewN | apply below_drew1 | refine below_set ?_ (IsS28.ge HI593.out)) | exact HB.out)⟩

end Go.Proofs.Ytfkiamccipoioaa.P
end

section
namespace Go.Proofs.Ytfkiamccipoioaa.P
open Go.RowKit Go.Proofs.YtfkiamccipoioaaW.Hand Go.Proofs.YtfkiamccipoioaaW.PrintWords Go.Proofs.YtfkiamccipoioaaW.PrintLast Go.Proofs.YtfkiamccipoioaaW.PrintMore Go.Proofs.YtfkiamccipoioaaW.Pk
set_option linter.unusedVariables false
set_option linter.unusedSimpArgs false

def deck11.T14 : Bool × List (List Nat × List Nat) := (true, [([], []), ([], []), ([1], [1]), ([0, 2, 2], [0, 2]), ([3], [3])])
def deck11.B14 : List Nat := [0, 0, 2, 7, 15]
theorem deck11.tab14 : rtab .any (opsOf Try.f11 14) = deck11.T14 := by kernel_rfl
theorem deck11.bits14 : waitsOk deck11.T14.2 deck11.B14 = true := by kernel_rfl
def laws_FnExactShortestSteps.f (k : Nat) (l0_0 : List Int) (l0_1 : List (List Int)) (a1 : ByteArray) (a2 : ByteArray) : Option Bool := if (a1.size : Int) > 1048576 then some true else (if (a2.size : Int) > 1048576 then some true else ((laws_szDeck.f k l0_0 l0_1 1048576).bind fun t => if t < 0 then some true else (laws_toDeck.f k l0_0 l0_1).bind fun x => (spec_ShortestSteps.f k x.1 x.2 a1 a2).bind fun s => (impl_ShortestSteps.f k x.1 x.2 a1 a2).bind fun g => (laws_eqInt64S.f k g.1 s.1).bind fun e1 => if e1 = true then (if g.2 = s.2 then ((laws_eqDeck.f k x.1 x.2 x.1 x.2).bind fun e2 => if e2 = true then ((laws_markDeck.f x.1 x.2 1).bind fun m1 => if m1 < 0 then none else (laws_markInt64S.f k g.1 1).bind fun m => (laws_heldInt64S.f k m.2 1).bind fun q => if q < 0 then none else if q = m.1 then some true else none) else none) else none) else none))
set_option maxRecDepth 100000 in
set_option maxHeartbeats 8000000 in
theorem laws_FnExactShortestSteps.calls (k : Nat) (A0_0 : Option Addr) (c0_0 : Nat) (l0_0 : List Int) (A0_1 : Option Addr) (c0_1 : Nat) (l0_1 : List (List Int)) (a1 : ByteArray) (a2 : ByteArray) (r : Bool) (w : World) (hr0_0 : Kd.C (Kd.int .i64) w A0_0 l0_0.length l0_0) (hc0_0 : l0_0.length ≤ c0_0) (hr0_1 : Kd.C (Kd.slice 2 (Kd.int .i64)) w A0_1 l0_1.length l0_1) (hc0_1 : l0_1.length ≤ c0_1) (h : laws_FnExactShortestSteps.f k l0_0 l0_1 a1 a2 = some r) :
    Calls Try.prog 11 #[.agg #[.slice A0_0 l0_0.length c0_0, .slice A0_1 l0_1.length c0_1], .string a1, .string a2] w fun e w' => e = .returned (.bool r) ∧ Below w.heap.size w w' := by
  have hu25 := Try.underlying25
  have hu28 := Try.underlying28
  have HR0_0 := Aside0.mk hr0_0
  have HC0_0 := Aside0.mk hc0_0
  have HR0_1 := Aside0.mk hr0_1
  have HC0_1 := Aside0.mk hc0_1
  clear hr0_0 hc0_0 hr0_1 hc0_1
  unfold laws_FnExactShortestSteps.f at h
  by_cases s0 : (a1.size : Int) > 1048576
  · rw [if_pos s0] at h
    obtain rfl := Option.some.inj h
    have s0b : decide (1048576 < (a1.size : Int)) = true := decide_eq_true s0
    have s0c : decide (1048576 < a1.size) = true := decide_eq_true (by omega)
    clear s0 h
    go_enter Try.func11, Try.ntmps11
    go_wp2_with (first | ((with_reducible refine gate_dst (N := 3) rfl ?_); refine box_event ?hg (N := 3) ?hd (cs := #[.slice A0_0 l0_0.length c0_0, .slice A0_1 l0_1.length c0_1]) (t := 25) ?hr ?_; (case hd => rfl); (case hg => rfl); (case hr => first | (go_simp; done) | (go_simp; rfl)); intro gb hg w1 hbox hb; have M1 : Aside0 (MI w w1 gb #[.slice A0_0 l0_0.length c0_0, .slice A0_1 l0_1.length c0_1]) := ⟨⟨hb, hbox, by rw [hg]; exact Nat.le_refl _⟩⟩; clear hb hbox hg; have hzgb_0 : w1.cell? ⟨gb, 0, none⟩ = some (.slice A0_0 l0_0.length c0_0) := (blk_cell M1.out.box 0).trans rfl; have hzgb_1 : w1.cell? ⟨gb, 1, none⟩ = some (.slice A0_1 l0_1.length c0_1) := (blk_cell M1.out.box 1).trans rfl))
    go_ret
    exact ⟨rfl, M1.out.below⟩
  rw [if_neg s0] at h
  have s0b : decide (1048576 < (a1.size : Int)) = false := decide_eq_false s0
  have s0c : decide (1048576 < a1.size) = false := decide_eq_false (by omega)
  clear s0
  by_cases s1 : (a2.size : Int) > 1048576
  · rw [if_pos s1] at h
    obtain rfl := Option.some.inj h
    have s1b : decide (1048576 < (a2.size : Int)) = true := decide_eq_true s1
    have s1c : decide (1048576 < a2.size) = true := decide_eq_true (by omega)
    clear s1 h
    go_enter Try.func11, Try.ntmps11
    go_wp2_with (first | ((with_reducible refine gate_dst (N := 3) rfl ?_); refine box_event ?hg (N := 3) ?hd (cs := #[.slice A0_0 l0_0.length c0_0, .slice A0_1 l0_1.length c0_1]) (t := 25) ?hr ?_; (case hd => rfl); (case hg => rfl); (case hr => first | (go_simp; done) | (go_simp; rfl)); intro gb hg w1 hbox hb; have M1 : Aside0 (MI w w1 gb #[.slice A0_0 l0_0.length c0_0, .slice A0_1 l0_1.length c0_1]) := ⟨⟨hb, hbox, by rw [hg]; exact Nat.le_refl _⟩⟩; clear hb hbox hg; have hzgb_0 : w1.cell? ⟨gb, 0, none⟩ = some (.slice A0_0 l0_0.length c0_0) := (blk_cell M1.out.box 0).trans rfl; have hzgb_1 : w1.cell? ⟨gb, 1, none⟩ = some (.slice A0_1 l0_1.length c0_1) := (blk_cell M1.out.box 1).trans rfl))
    go_ret
    exact ⟨rfl, M1.out.below⟩
  rw [if_neg s1] at h
  have s1b : decide (1048576 < (a2.size : Int)) = false := decide_eq_false s1
  have s1c : decide (1048576 < a2.size) = false := decide_eq_false (by omega)
  clear s1
  replace h := Option.bind_eq_some_iff.mp h
  obtain ⟨t, at_, h⟩ := h
  have AT := Aside0.mk at_
  clear at_
  by_cases ct : t < 0
  · rw [if_pos ct] at h
    obtain rfl := Option.some.inj h
    have ctb : decide (t < 0) = true := decide_eq_true ct
    clear ct h
    go_enter Try.func11, Try.ntmps11
    go_wp2_with (first | ((with_reducible refine gate_dst (N := 3) rfl ?_); refine box_event ?hg (N := 3) ?hd (cs := #[.slice A0_0 l0_0.length c0_0, .slice A0_1 l0_1.length c0_1]) (t := 25) ?hr ?_; (case hd => rfl); (case hg => rfl); (case hr => first | (go_simp; done) | (go_simp; rfl)); intro gb hg w1 hbox hb; have M1 : Aside0 (MI w w1 gb #[.slice A0_0 l0_0.length c0_0, .slice A0_1 l0_1.length c0_1]) := ⟨⟨hb, hbox, by rw [hg]; exact Nat.le_refl _⟩⟩; clear hb hbox hg; have hzgb_0 : w1.cell? ⟨gb, 0, none⟩ = some (.slice A0_0 l0_0.length c0_0) := (blk_cell M1.out.box 0).trans rfl; have hzgb_1 : w1.cell? ⟨gb, 1, none⟩ = some (.slice A0_1 l0_1.length c0_1) := (blk_cell M1.out.box 1).trans rfl) | ((with_reducible refine gate_callee (f := 15) rfl ?_); refine goesL_ (some 26) rfl rfl Try.func15 (by kernel_rfl) rfl #[.agg #[.slice A0_0 l0_0.length c0_0, .slice A0_1 l0_1.length c0_1], .int .i64 1048576] rfl ln_ ?_; refine (laws_szDeck.calls k _ _ l0_0 _ _ l0_1 1048576 t _ (Kd.C_below HR0_0.out M1.out.below) HC0_0.out (Kd.C_below HR0_1.out M1.out.below) HC0_1.out AT.out).mono ?_; rintro e w2 ⟨rfl, hb⟩; refine ⟨_, rfl, ?_⟩; have M2 := Aside0.mk (M1.out.step hb); clear hb hzgb_0 hzgb_1; have hzgb_0 : w2.cell? ⟨gb, 0, none⟩ = some (.slice A0_0 l0_0.length c0_0) := (blk_cell M2.out.box 0).trans rfl; have hzgb_1 : w2.cell? ⟨gb, 1, none⟩ = some (.slice A0_1 l0_1.length c0_1) := (blk_cell M2.out.box 1).trans rfl))
    go_ret
    exact ⟨rfl, M2.out.below⟩
  rw [if_neg ct] at h
  have ctb : decide (t < 0) = false := decide_eq_false ct
  clear ct
  replace h := Option.bind_eq_some_iff.mp h
  obtain ⟨⟨x0, x1⟩, a_, h⟩ := h
  try dsimp only at h a_
  have AX := Aside0.mk a_
  clear a_
  replace h := Option.bind_eq_some_iff.mp h
  obtain ⟨⟨s0, s1⟩, a_, h⟩ := h
  try dsimp only at h a_
  have AS := Aside0.mk a_
  clear a_
  replace h := Option.bind_eq_some_iff.mp h
  obtain ⟨⟨g0, g1⟩, a_, h⟩ := h
  try dsimp only at h a_
  have AG := Aside0.mk a_
  clear a_
  replace h := Option.bind_eq_some_iff.mp h
  obtain ⟨e1, a_, h⟩ := h
  try dsimp only at h a_
  have AE1 := Aside0.mk a_
  clear a_
  by_cases c_ : e1 = true
  rotate_left
  · rw [if_neg c_] at h; exact absurd h (by simp)
  rw [if_pos c_] at h
  subst c_
  by_cases c_ : g1 = s1
  rotate_left
  · rw [if_neg c_] at h; exact absurd h (by simp)
  rw [if_pos c_] at h
  subst c_
  replace h := Option.bind_eq_some_iff.mp h
  obtain ⟨e2, a_, h⟩ := h
  try dsimp only at h a_
  have AE2 := Aside0.mk a_
  clear a_
  by_cases c_ : e2 = true
  rotate_left
  · rw [if_neg c_] at h; exact absurd h (by simp)
  rw [if_pos c_] at h
  subst c_
  replace h := Option.bind_eq_some_iff.mp h
  obtain ⟨m1, a_, h⟩ := h
  try dsimp only at h a_
  have AM1 := Aside0.mk a_
  clear a_
  by_cases c_ : m1 < 0
  · rw [if_pos c_] at h; exact absurd h (by simp)
  rw [if_neg c_] at h
  have cmb : decide (m1 < 0) = false := decide_eq_false c_
  clear c_
  replace h := Option.bind_eq_some_iff.mp h
  obtain ⟨⟨m, mr⟩, a_, h⟩ := h
  try dsimp only at h a_
  have AM := Aside0.mk a_
  clear a_
  replace h := Option.bind_eq_some_iff.mp h
  obtain ⟨q, a_, h⟩ := h
  try dsimp only at h a_
  have AQ := Aside0.mk a_
  clear a_
  by_cases c_ : q < 0
  · rw [if_pos c_] at h; exact absurd h (by simp)
  rw [if_neg c_] at h
  have cqb : decide (q < 0) = false := decide_eq_false c_
  clear c_
  by_cases c_ : q = m
  rotate_left
  · rw [if_neg c_] at h; exact absurd h (by simp)
  rw [if_pos c_] at h
  subst c_
  obtain rfl := Option.some.inj h
  clear h
  have hne1 : (g1 != g1) = false := bne_self_eq_false g1
  have hne2 : (q != q) = false := bne_self_eq_false q
  go_enter Try.func11, Try.ntmps11
  go_wp2_with (first
    | ((with_reducible refine gate_dst (N := 3) rfl ?_); refine box_event ?hg (N := 3) ?hd (cs := #[.slice A0_0 l0_0.length c0_0, .slice A0_1 l0_1.length c0_1]) (t := 25) ?hr ?_; (case hd => rfl); (case hg => rfl); (case hr => first | (go_simp; done) | (go_simp; rfl)); intro gb hg w1 hbox hb; have M1 : Aside0 (MI w w1 gb #[.slice A0_0 l0_0.length c0_0, .slice A0_1 l0_1.length c0_1]) := ⟨⟨hb, hbox, by rw [hg]; exact Nat.le_refl _⟩⟩; clear hb hbox hg; have hzgb_0 : w1.cell? ⟨gb, 0, none⟩ = some (.slice A0_0 l0_0.length c0_0) := (blk_cell M1.out.box 0).trans rfl; have hzgb_1 : w1.cell? ⟨gb, 1, none⟩ = some (.slice A0_1 l0_1.length c0_1) := (blk_cell M1.out.box 1).trans rfl)
    | ((with_reducible refine gate_callee (f := 15) rfl ?_); refine goesL_ (some 26) rfl rfl Try.func15 (by kernel_rfl) rfl #[.agg #[.slice A0_0 l0_0.length c0_0, .slice A0_1 l0_1.length c0_1], .int .i64 1048576] rfl ln_ ?_; refine (laws_szDeck.calls k _ _ l0_0 _ _ l0_1 1048576 t _ (Kd.C_below HR0_0.out M1.out.below) HC0_0.out (Kd.C_below HR0_1.out M1.out.below) HC0_1.out AT.out).mono ?_; rintro e w2 ⟨rfl, hb⟩; refine ⟨_, rfl, ?_⟩; have M2 := Aside0.mk (M1.out.step hb); clear hb hzgb_0 hzgb_1; have hzgb_0 : w2.cell? ⟨gb, 0, none⟩ = some (.slice A0_0 l0_0.length c0_0) := (blk_cell M2.out.box 0).trans rfl; have hzgb_1 : w2.cell? ⟨gb, 1, none⟩ = some (.slice A0_1 l0_1.length c0_1) := (blk_cell M2.out.box 1).trans rfl)
    | ((with_reducible refine gate_callee (f := 17) rfl ?_); refine goesL_ (some 31) rfl rfl Try.func17 (by kernel_rfl) rfl #[.agg #[.slice A0_0 l0_0.length c0_0, .slice A0_1 l0_1.length c0_1]] rfl ln_ ?_; refine (laws_toDeck.calls k _ _ l0_0 _ _ l0_1 x0 x1 _ (Kd.C_below HR0_0.out M2.out.below) HC0_0.out (Kd.C_below HR0_1.out M2.out.below) HC0_1.out AX.out).mono ?_; rintro e w3 ⟨v0, v1, rfl, hr0, hr1, hb⟩; refine ⟨_, rfl, ?_⟩; have M3 := Aside0.mk (M2.out.step hb); obtain ⟨Ax, cx, ex⟩ := Kd.R_slice hr0; subst ex; obtain ⟨Ay, cy, ey⟩ := Kd.S_slice hr1; subst ey; have X0 := Aside0.mk hr0; have X1 := Aside0.mk (Kd.S_R hr1); clear hb hr0 hr1 hzgb_0 hzgb_1)
    | ((with_reducible refine gate_callee (f := 39) rfl ?_); refine goesL_ (some 34) rfl rfl Try.func39 (by kernel_rfl) rfl #[.agg #[.slice Ax x0.length cx, .slice Ay x1.length cy], .string a1, .string a2] rfl ln_ ?_; refine (spec_ShortestSteps.calls k _ _ x0 _ _ x1 a1 a2 s0 g1 _ (Kd.R_reads' X0.out).2.2 (Kd.R_reads' X0.out).2.1 (Kd.R_reads' X1.out).2.2 (Kd.R_reads' X1.out).2.1 AS.out).mono ?_; rintro e w4 ⟨v, rfl, hr, hb⟩; refine ⟨_, rfl, ?_⟩; have M4 := Aside0.mk (M3.out.step hb); obtain ⟨As, cs_, es⟩ := Kd.R_slice hr; subst es; have S4 := Aside0.mk (Kd.R_lower (R_lt_of hr) M3.out.below.size); clear hb hr X0 X1; have hzgb_0 : w4.cell? ⟨gb, 0, none⟩ = some (.slice A0_0 l0_0.length c0_0) := (blk_cell M4.out.box 0).trans rfl; have hzgb_1 : w4.cell? ⟨gb, 1, none⟩ = some (.slice A0_1 l0_1.length c0_1) := (blk_cell M4.out.box 1).trans rfl)
    | ((with_reducible refine gate_callee (f := 17) rfl ?_); refine goesL_ (some 38) rfl rfl Try.func17 (by kernel_rfl) rfl #[.agg #[.slice A0_0 l0_0.length c0_0, .slice A0_1 l0_1.length c0_1]] rfl ln_ ?_; refine (laws_toDeck.calls k _ _ l0_0 _ _ l0_1 x0 x1 _ (Kd.C_below HR0_0.out M4.out.below) HC0_0.out (Kd.C_below HR0_1.out M4.out.below) HC0_1.out AX.out).mono ?_; rintro e w5 ⟨v0, v1, rfl, hr0, hr1, hb⟩; refine ⟨_, rfl, ?_⟩; have M5 := Aside0.mk (M4.out.step hb); have S5 := Aside0.mk (Kd.R_below S4.out hb); have Y0 := Aside0.mk (R_self hr0); have Y1 := Aside0.mk (Kd.R_bound (Kd.S_R hr1)); have N45 := Aside0.mk hb.size; clear hb hr0 hr1 hzgb_0 hzgb_1; obtain ⟨Ap, cp, ep⟩ := Kd.R_slice Y0.out; subst ep; obtain ⟨Aq, cq, eq_⟩ := Kd.R_slice Y1.out; subst eq_)
    | ((with_reducible refine gate_dst (N := 10) rfl ?_); refine box_event ?hg (N := 10) ?hd (cs := #[.slice none 0 0, .slice none 0 0]) (t := 28) ?hr ?_; (case hd => rfl); (case hg => rfl); (case hr => first | (go_simp; done) | (go_simp; rfl)); intro gc hg w6 hbox hb; have B6 := Aside0.mk (⟨hb, hbox, hg⟩ : Below w5.heap.size w5 w6 ∧ w6.heap[gc]? = some (.cells #[.slice none 0 0, .slice none 0 0] 28 (0, 0)) ∧ gc = w5.heap.size); clear hb hbox hg)
    | (refine hand_store (fun W_ => Below w5.heap.size w5 W_ ∧ W_.heap[gc]? = some (.cells #[.slice Ap x0.length cp, .slice Aq x1.length cq] 28 (0, 0))) (t := 28) (p := 10) (v := .tmp 38) (w1 := (w6.setCell ⟨gc, 0, none⟩ (.slice Ap x0.length cp)).setCell ⟨gc, 1, none⟩ (.slice Aq x1.length cq)) ?hg rfl ?hN ?hr ?hF ?_; (case hg => rfl); (case hN => rfl); (case hr => have hz0 : w6.cell? ⟨gc, 0, none⟩ = some (.slice none 0 0) := (blk_cell B6.out.2.1 0).trans rfl; have hz1 : w6.cell? ⟨gc, 1, none⟩ = some (.slice none 0 0) := (blk_cell B6.out.2.1 1).trans rfl; have hf0 := blk_frozen B6.out.2.1 0; have hf1 := blk_frozen B6.out.2.1 1; first | (go_simp; done) | (go_simp; rfl)); (case hF => exact ⟨(B6.out.1.setCell (p := ⟨gc, 0, none⟩) (Nat.le_of_eq B6.out.2.2.symm) _).setCell (p := ⟨gc, 1, none⟩) (Nat.le_of_eq B6.out.2.2.symm) _, blk_put (cs := #[.slice Ap x0.length cp, .slice none 0 0]) (blk_put (cs := #[.slice none 0 0, .slice none 0 0]) B6.out.2.1 0 _ rfl) 1 _ rfl⟩); intro w7 h7; have B7 := Aside0.mk h7.2; have M7 := Aside0.mk (M5.out.step h7.1); have S7 := Aside0.mk (Kd.R_below S5.out h7.1); have P0 := Aside0.mk (Kd.R_below Y0.out h7.1); have P1 := Aside0.mk (Kd.R_below Y1.out h7.1); have N57 := Aside0.mk h7.1.size; clear h7 B6 Y0 Y1; have hzgc_0 : w7.cell? ⟨gc, 0, none⟩ = some (.slice Ap x0.length cp) := (blk_cell B7.out 0).trans rfl; have hzgc_1 : w7.cell? ⟨gc, 1, none⟩ = some (.slice Aq x1.length cq) := (blk_cell B7.out 1).trans rfl)
    | ((with_reducible refine gate_callee (f := 40) rfl ?_); refine goesL_ (some 43) rfl rfl Try.func40 (by kernel_rfl) rfl #[.agg #[.slice Ap x0.length cp, .slice Aq x1.length cq], .string a1, .string a2] rfl ln_ ?_; refine (impl_ShortestSteps.calls k _ _ x0 _ _ x1 a1 a2 g0 g1 _ (Kd.R_reads' P0.out).2.2 (Kd.R_reads' P0.out).2.1 (Kd.R_reads' P1.out).2.2 (Kd.R_reads' P1.out).2.1 AG.out).mono ?_; rintro e w8 ⟨v, rfl, hr, hb⟩; refine ⟨_, rfl, ?_⟩; obtain ⟨Ag, cg, eg⟩ := Kd.R_slice hr; subst eg; have M8 := Aside0.mk (M7.out.step hb); have B8 := Aside0.mk (blk_below B7.out hb); have S8 := Aside0.mk (Kd.R_below S7.out hb); have P08 := Aside0.mk (Kd.R_below P0.out hb); have P18 := Aside0.mk (Kd.R_below P1.out hb); have G8 := Aside0.mk (Kd.R_lower (R_ge_of hr) M7.out.below.size); clear hb hr hzgc_0 hzgc_1 P0 P1 B7)
    | ((with_reducible refine gate_callee (f := 24) rfl ?_); refine goesL_ (some 48) rfl rfl Try.func24 (by kernel_rfl) rfl #[.slice Ag g0.length cg, .slice As s0.length cs_] rfl ln_ ?_; refine (laws_eqInt64S.calls k _ _ g0 _ _ s0 true _ (Kd.R_reads' G8.out).2.2 (Kd.R_reads' G8.out).2.1 (Kd.R_reads' S8.out).2.2 (Kd.R_reads' S8.out).2.1 AE1.out).mono ?_; rintro e w9 ⟨rfl, hd⟩; refine ⟨_, rfl, ?_⟩; have hb := hd.below; clear hd; have M9 := Aside0.mk (M8.out.step hb); have B9 := Aside0.mk (blk_below B8.out hb); have S9 := Aside0.mk (Kd.R_below S8.out hb); have P09 := Aside0.mk (Kd.R_below P08.out hb); have P19 := Aside0.mk (Kd.R_below P18.out hb); have G9 := Aside0.mk (Kd.R_below G8.out hb); clear hb G8 S8 P08 P18 B8; have hzgb_0 : w9.cell? ⟨gb, 0, none⟩ = some (.slice A0_0 l0_0.length c0_0) := (blk_cell M9.out.box 0).trans rfl; have hzgb_1 : w9.cell? ⟨gb, 1, none⟩ = some (.slice A0_1 l0_1.length c0_1) := (blk_cell M9.out.box 1).trans rfl; have hzgc_0 : w9.cell? ⟨gc, 0, none⟩ = some (.slice Ap x0.length cp) := (blk_cell B9.out 0).trans rfl; have hzgc_1 : w9.cell? ⟨gc, 1, none⟩ = some (.slice Aq x1.length cq) := (blk_cell B9.out 1).trans rfl))
  have hdr := below_drew (Below.refl w9.heap.size w9)
  have M9d := Aside0.mk (M9.out.step hdr)
  have B9d := Aside0.mk (blk_below B9.out hdr)
  have S9d := Aside0.mk (Kd.R_below S9.out hdr)
  have P09d := Aside0.mk (Kd.R_below P09.out hdr)
  have P19d := Aside0.mk (Kd.R_below P19.out hdr)
  have G9d := Aside0.mk (Kd.R_below G9.out hdr)
  clear hdr M9 B9 S9 P09 P19 G9 hzgb_0 hzgb_1 hzgc_0 hzgc_1
  have M9 := M9d
  have B9 := B9d
  have S9 := S9d
  have P09 := P09d
  have P19 := P19d
  have G9 := G9d
  clear M9d B9d S9d P09d P19d G9d
  refine start_ (n := 5) (S := fun w' => w'.cell? ⟨gc, 0, none⟩ = some (.slice Ap x0.length cp) ∧ w'.cell? ⟨gc, 1, none⟩ = some (.slice Aq x1.length cq) ∧ w'.cell? ⟨gb, 0, none⟩ = some (.slice A0_0 l0_0.length c0_0) ∧ w'.cell? ⟨gb, 1, none⟩ = some (.slice A0_1 l0_1.length c0_1)) (ds := []) #[false, false, false, false, false] (by kernel_rfl) rfl rfl ⟨(blk_cell B9.out 0).trans rfl, (blk_cell B9.out 1).trans rfl, (blk_cell M9.out.box 0).trans rfl, (blk_cell M9.out.box 1).trans rfl⟩ (fun hHeld => ?_); refine with_tabW deck11.tab14 deck11.bits14 (fun HT_ HW_ => ?_)
  generalize w9.drew = w9d at M9 B9 S9 P09 P19 G9 hHeld ⊢
  refine take_ (i := 0) (N := some 55) (v := ?_) (a' := ?_) #[true, false, false, false, false] rfl rfl (take_ofW HT_.out HW_.out (by kernel_rfl)) (fun _ _ _ h => h) (Or.inl ⟨by rfl, ?_⟩) hHeld ?_ ?_
  rotate_left
  · rintro w' ⟨s0, s1, s2, s3⟩
    go_simp
    with_reducible rfl
  rotate_left
  · simp only [Act.put, List.setIfInBounds_toArray, List.set_cons_zero, List.set_cons_succ, i64_w, i32_w]
    rfl
  refine take_ (i := 1) (N := some 56) (v := ?_) (a' := ?_) #[true, true, false, false, false] rfl rfl (take_ofW HT_.out HW_.out (by kernel_rfl)) (fun _ _ _ h => h) (Or.inl ⟨by rfl, ?_⟩) hHeld ?_ ?_
  rotate_left
  · rintro w' ⟨s0, s1, s2, s3⟩
    go_simp
    with_reducible rfl
  rotate_left
  · simp only [Act.put, List.setIfInBounds_toArray, List.set_cons_zero, List.set_cons_succ, i64_w, i32_w]
    rfl
  refine one_ (i := 2) (N := (some 57)) #[true, true, true, false, false] rfl rfl (one_of HT_.out (by kernel_rfl)) (by decide) (fun K hK => ?_)
  refine goes_ Try.func17 (by kernel_rfl) rfl #[.agg #[.slice A0_0 l0_0.length c0_0, .slice A0_1 l0_1.length c0_1]] (by rfl) rfl rfl ln_ ?_
  refine (laws_toDeck.calls k _ _ l0_0 _ _ l0_1 x0 x1 _ (Kd.C_below HR0_0.out M9.out.below) HC0_0.out (Kd.C_below HR0_1.out M9.out.below) HC0_1.out AX.out).mono ?_
  rintro e w10 ⟨v0, v1, rfl, hr0, hr1, hb⟩
  refine ⟨_, rfl, ?_⟩
  have M10 := Aside0.mk (M9.out.step hb)
  have B10 := Aside0.mk (blk_below B9.out hb)
  have S10 := Aside0.mk (Kd.R_below S9.out hb)
  have P010 := Aside0.mk (Kd.R_below P09.out hb)
  have P110 := Aside0.mk (Kd.R_below P19.out hb)
  have G10 := Aside0.mk (Kd.R_below G9.out hb)
  obtain ⟨Ax, cx, ex⟩ := Kd.R_slice hr0
  subst ex
  obtain ⟨Ay, cy, ey⟩ := Kd.S_slice hr1
  subst ey
  have X0 := Aside0.mk hr0
  have X1 := Aside0.mk (Kd.S_R hr1)
  clear hb hr0 hr1 S9 P09 P19 G9 B9
  refine hK.out _ _ ⟨(blk_cell B10.out 0).trans rfl, (blk_cell B10.out 1).trans rfl, (blk_cell M10.out.box 0).trans rfl, (blk_cell M10.out.box 1).trans rfl⟩ (fun hHeld => ?_)
  clear hK K
  refine norm_ (a' := ?_) ?_ ?_
  rotate_left
  · show Act.put _ (some 57) _ = _
    simp only [Act.put, List.setIfInBounds_toArray, List.set_cons_zero, List.set_cons_succ, i64_w, i32_w]
    rfl
  refine one_ (i := 3) (N := (some 58)) #[true, true, true, true, false] rfl rfl (one_of HT_.out (by kernel_rfl)) (by decide) (fun K hK => ?_)
  refine goes_ Try.func19 (by kernel_rfl) rfl #[.agg #[.slice Ap x0.length cp, .slice Aq x1.length cq], .agg #[.slice Ax x0.length cx, .slice Ay x1.length cy]] (by rfl) rfl rfl ln_ ?_
  refine (laws_eqDeck.calls k _ _ x0 _ _ x1 _ _ x0 _ _ x1 true _ (Kd.R_reads' P010.out).2.2 (Kd.R_reads' P010.out).2.1 (Kd.R_reads' P110.out).2.2 (Kd.R_reads' P110.out).2.1 (Kd.R_reads' X0.out).2.2 (Kd.R_reads' X0.out).2.1 (Kd.R_reads' X1.out).2.2 (Kd.R_reads' X1.out).2.1 AE2.out).mono ?_
  rintro e w11 ⟨rfl, hb⟩
  refine ⟨_, rfl, ?_⟩
  have M11 := Aside0.mk (M10.out.step hb)
  have B11 := Aside0.mk (blk_below B10.out hb)
  have S11 := Aside0.mk (Kd.R_below S10.out hb)
  have P011 := Aside0.mk (Kd.R_below P010.out hb)
  have P111 := Aside0.mk (Kd.R_below P110.out hb)
  have G11 := Aside0.mk (Kd.R_below G10.out hb)
  clear hb X0 X1 S10 P010 P110 G10 B10
  refine hK.out _ _ ⟨(blk_cell B11.out 0).trans rfl, (blk_cell B11.out 1).trans rfl, (blk_cell M11.out.box 0).trans rfl, (blk_cell M11.out.box 1).trans rfl⟩ (fun hHeld => ?_)
  clear hK K
  refine norm_ (a' := ?_) ?_ ?_
  rotate_left
  · show Act.put _ (some 58) _ = _
    simp only [Act.put, List.setIfInBounds_toArray, List.set_cons_zero, List.set_cons_succ, i64_w, i32_w]
    rfl
  refine pu (i := 4) (N := some 59) #[true, true, true, true, true] HT_ ?_
  refine done_ (done_of HT_.out (by kernel_rfl)) ?_
  have hzgc_0 : w11.cell? ⟨gc, 0, none⟩ = some (.slice Ap x0.length cp) := (blk_cell B11.out 0).trans rfl
  have hzgc_1 : w11.cell? ⟨gc, 1, none⟩ = some (.slice Aq x1.length cq) := (blk_cell B11.out 1).trans rfl
  go_wp2_with (first
    | ((with_reducible refine gate_callee (f := 25) rfl ?_); refine goesL_ (some 62) rfl rfl Try.func25 (by kernel_rfl) rfl #[.agg #[.slice Ap x0.length cp, .slice Aq x1.length cq], .int .i64 1] rfl ln_ ?_; refine (laws_markDeck.calls _ _ _ _ x0 x1 1 m1 w w11 M11.out.below (Kd.R_lower P011.out M4.out.below.size) (Kd.R_lower P111.out M4.out.below.size) (fun k h0 h1 => h1.1 h0.1) AM1.out).mono ?_; rintro e w12 ⟨rfl, hb, hk⟩; refine ⟨_, rfl, ?_⟩; have M12 := Aside0.mk (M11.out.kept hb hk (fun h => by have := M4.out.lt; rcases h with h | h <;> omega)); have S12 := Aside0.mk (Kd.R_step S11.out (fun k hk1 hlt => hk.2 k hlt (fun h => by rcases h with h | h <;> omega))); have G12 := Aside0.mk (Kd.R_step G11.out (fun k hk1 hlt => hk.2 k hlt (fun h => by have := N57.out; rcases h with h | h <;> omega))); clear hb hk hzgc_0 hzgc_1 S11 G11 P011 P111)
    | (go_at_call 24; refine (laws_eqInt64S.calls k _ _ g0 _ _ s0 true _ (Kd.R_reads' G12.out).2.2 (Kd.R_reads' G12.out).2.1 (Kd.R_reads' S12.out).2.2 (Kd.R_reads' S12.out).2.1 AE1.out).mono ?_; rintro e w13 ⟨rfl, hd⟩; have hb := hd.below; clear hd; have M13 := Aside0.mk (M12.out.step hb); have S13 := Aside0.mk (Kd.R_below S12.out hb); have G13 := Aside0.mk (Kd.R_below G12.out hb); clear hb S12 G12)
    | ((with_reducible refine gate_callee (f := 26) rfl ?_); refine goesL_ (some 78) rfl rfl Try.func26 (by kernel_rfl) rfl #[.slice Ag g0.length cg, .int .i64 1] rfl ln_ ?_; refine (laws_markInt64S.calls k _ _ g0 1 q mr w w13 M13.out.below G13.out AM.out).mono ?_; rintro e w14 ⟨rfl, hr, hb, hk⟩; refine ⟨_, rfl, ?_⟩; have hlt7 := M7.out.lt; have M14 := Aside0.mk (M13.out.kept hb hk (fun h => by omega)); have S14 := Aside0.mk (Kd.R_step S13.out (fun k hk1 hlt => hk.2 k hlt (fun h => by have := N45.out; have := N57.out; omega))); have HL := Aside0.mk (Kd.R_reads' hr).1; rw [(Kd.R_reads' hr).1] at hr; have G14 := Aside0.mk hr; clear hlt7 hb hk hr S13 G13)
    | ((with_reducible refine gate_callee (f := 27) rfl ?_); refine goesL_ (some 81) rfl rfl Try.func27 (by kernel_rfl) rfl #[.slice Ag g0.length cg, .int .i64 1] rfl ln_ ?_; have hcall := laws_heldInt64S.calls k Ag cg mr 1 q w14 (Kd.R_reads' G14.out).2.2 (by have := (Kd.R_reads' G14.out).2.1; omega) AQ.out; rw [← HL.out] at hcall; refine hcall.mono ?_; clear hcall; rintro e w15 ⟨rfl, hd⟩; refine ⟨_, rfl, ?_⟩; have hb := hd.below; clear hd; have M15 := Aside0.mk (M14.out.step hb); have S15 := Aside0.mk (Kd.R_below S14.out hb); have G15 := Aside0.mk (Kd.R_below G14.out hb); clear hb S14 G14; have hzgb_0 : w15.cell? ⟨gb, 0, none⟩ = some (.slice A0_0 l0_0.length c0_0) := (blk_cell M15.out.box 0).trans rfl; have hzgb_1 : w15.cell? ⟨gb, 1, none⟩ = some (.slice A0_1 l0_1.length c0_1) := (blk_cell M15.out.box 1).trans rfl)
    | ((with_reducible refine gate_callee (f := 17) rfl ?_); refine goesL_ (some 89) rfl rfl Try.func17 (by kernel_rfl) rfl #[.agg #[.slice A0_0 l0_0.length c0_0, .slice A0_1 l0_1.length c0_1]] rfl ln_ ?_; refine (laws_toDeck.calls k _ _ l0_0 _ _ l0_1 x0 x1 _ (Kd.C_below HR0_0.out M15.out.below) HC0_0.out (Kd.C_below HR0_1.out M15.out.below) HC0_1.out AX.out).mono ?_; rintro e w16 ⟨v0, v1, rfl, hr0, hr1, hb⟩; refine ⟨_, rfl, ?_⟩; have M16 := Aside0.mk (M15.out.step hb); have S16 := Aside0.mk (Kd.R_below S15.out hb); have G16 := Aside0.mk (Kd.R_below G15.out hb); obtain ⟨Ax, cx, ex⟩ := Kd.R_slice hr0; subst ex; obtain ⟨Ay, cy, ey⟩ := Kd.S_slice hr1; subst ey; have X0 := Aside0.mk hr0; have X1 := Aside0.mk (Kd.S_R hr1); clear hb hr0 hr1 hzgb_0 hzgb_1 S15 G15)
    | ((with_reducible refine gate_callee (f := 40) rfl ?_); refine goesL_ (some 92) rfl rfl Try.func40 (by kernel_rfl) rfl #[.agg #[.slice Ax x0.length cx, .slice Ay x1.length cy], .string a1, .string a2] rfl ln_ ?_; refine (impl_ShortestSteps.calls k _ _ x0 _ _ x1 a1 a2 g0 g1 _ (Kd.R_reads' X0.out).2.2 (Kd.R_reads' X0.out).2.1 (Kd.R_reads' X1.out).2.2 (Kd.R_reads' X1.out).2.1 AG.out).mono ?_; rintro e w17 ⟨v, rfl, hr, hb⟩; refine ⟨_, rfl, ?_⟩; obtain ⟨Ah, ch, eh⟩ := Kd.R_slice hr; subst eh; have M17 := Aside0.mk (M16.out.step hb); have S17 := Aside0.mk (Kd.R_below S16.out hb); have G17 := Aside0.mk (Kd.R_below G16.out hb); have H17 := Aside0.mk hr; clear hb hr X0 X1 S16 G16)
    | ((with_reducible refine gate_callee (f := 24) rfl ?_); refine goesL_ (some 97) rfl rfl Try.func24 (by kernel_rfl) rfl #[.slice Ah g0.length ch, .slice As s0.length cs_] rfl ln_ ?_; refine (laws_eqInt64S.calls k _ _ g0 _ _ s0 true _ (Kd.R_reads' H17.out).2.2 (Kd.R_reads' H17.out).2.1 (Kd.R_reads' S17.out).2.2 (Kd.R_reads' S17.out).2.1 AE1.out).mono ?_; rintro e w18 ⟨rfl, hd⟩; refine ⟨_, rfl, ?_⟩; have hb := hd.below; clear hd; have M18 := Aside0.mk (M17.out.step hb); have G18 := Aside0.mk (Kd.R_below G17.out hb); clear hb S17 G17)
    | ((with_reducible refine gate_callee (f := 27) rfl ?_); refine goesL_ (some 106) rfl rfl Try.func27 (by kernel_rfl) rfl #[.slice Ag g0.length cg, .int .i64 1] rfl ln_ ?_; have hcall := laws_heldInt64S.calls k Ag cg mr 1 q w18 (Kd.R_reads' G18.out).2.2 (by have := (Kd.R_reads' G18.out).2.1; omega) AQ.out; rw [← HL.out] at hcall; refine hcall.mono ?_; clear hcall; rintro e w19 ⟨rfl, hd⟩; refine ⟨_, rfl, ?_⟩; have hb := hd.below; clear hd; have M19 := Aside0.mk (M18.out.step hb); clear hb G18))
  go_ret
  exact ⟨rfl, M19.out.below⟩
end Go.Proofs.Ytfkiamccipoioaa.P
end
