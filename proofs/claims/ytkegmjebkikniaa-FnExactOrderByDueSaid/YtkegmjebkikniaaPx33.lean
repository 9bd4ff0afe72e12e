-- Written by gprint.py (own program, over the printer of the kit) out of the translation. Lean checks it.
import Derived.Test.YtkegmjebkikniaaPx0
import Derived.Test.YtkegmjebkikniaaPx3
import Derived.Test.YtkegmjebkikniaaPx10
import Derived.Test.YtkegmjebkikniaaPx20
import Derived.Test.YtkegmjebkikniaaPx23
import Derived.Test.YtkegmjebkikniaaPx34
import Derived.Test.YtkegmjebkikniaaWPk
namespace Go.Proofs.Ytkegmjebkikniaa.P
open Go.RowKit Go.Proofs.YtkegmjebkikniaaW.PrintWords Go.Proofs.YtkegmjebkikniaaW.PrintLast Go.Proofs.YtkegmjebkikniaaW.PrintMore Go.Proofs.YtkegmjebkikniaaW.Pk
open Bool renaming true → T_, false → F_
open List renaming setIfInBounds_toArray → sT_, set_cons_zero → s0_, set_cons_succ → sS_
attribute [local go_sem] max2_int min2_int max_two min_two max_three min_three max_four min_four   -- for this text's walks alone
set_option linter.unusedVariables false
set_option linter.unusedSimpArgs false

/-! ### spec_OrderByDue: function 44 -/
mutual
def spec_OrderByDue.l0 : Nat → List (S55) → List Int → Int → Option (List Int × Int)
 | 0, _, _, _ => none
 | k + 1, x0, x4, x5 => if x5 < (x0.length : Int) then (spec_OrderByDue.l1 k x0 x4 x5 (x4.length : Int)) else (some (x4, 0))
def spec_OrderByDue.l1 : Nat → List (S55) → List Int → Int → Int → Option (List Int × Int)
 | 0, _, _, _, _ => none
 | k + 1, x0, x4, x5, x6 => if x6 > 0 then (if 0 ≤ (wrap64 (x6 - 1)) then (if (wrap64 (x6 - 1)) < (x4.length : Int) then (if 0 ≤ (rd x4 (wrap64 (x6 - 1))) then (if (rd x4 (wrap64 (x6 - 1))) < (x0.length : Int) then (if 0 ≤ x5 then (if x5 < (x0.length : Int) then (if ((rd_T55 x0 (rd x4 (wrap64 (x6 - 1)))).f2) > ((rd_T55 x0 x5).f2) then (spec_OrderByDue.l1 k x0 x4 x5 (wrap64 (x6 - 1))) else (if 0 ≤ x6 then (if x6 ≤ (x4.length : Int) then ((spec_l00Own.f (x4.take (x6 : Int).toNat)).bind fun t577 => (if t577.length < 17592186044416 then ((some (t577 ++ [x5] : List Int)).bind fun y580 => ((some (x4.drop (x6 : Int).toNat : List Int)).bind fun y583 => (if y580.length + y583.length < 17592186044416 then (spec_OrderByDue.l0 k x0 (y580 ++ y583) (wrap64 (x5 + 1))) else (none)))) else (none))) else (none)) else (none))) else (none)) else (none)) else (none)) else (none)) else (none)) else (none)) else (if 0 ≤ x6 then (if x6 ≤ (x4.length : Int) then ((spec_l00Own.f (x4.take (x6 : Int).toNat)).bind fun t594 => (if t594.length < 17592186044416 then ((some (t594 ++ [x5] : List Int)).bind fun y597 => ((some (x4.drop (x6 : Int).toNat : List Int)).bind fun y600 => (if y597.length + y600.length < 17592186044416 then (spec_OrderByDue.l0 k x0 (y597 ++ y600) (wrap64 (x5 + 1))) else (none)))) else (none))) else (none)) else (none))
end
def spec_OrderByDue.f (k : Nat) (l0 : List (S55)) : Option (List Int × Int) := (spec_l22Ok.f k l0).bind fun t566 => (if t566 = true then (spec_OrderByDue.l0 k l0 (([] : List Int)) 0) else (some (([] : List Int), 1)))
theorem spec_OrderByDue.mono_l : ∀ k, (∀ y0 y1 y2, LeO (spec_OrderByDue.l0 k y0 y1 y2) (spec_OrderByDue.l0 (k + 1) y0 y1 y2)) ∧ (∀ y0 y1 y2 y3, LeO (spec_OrderByDue.l1 k y0 y1 y2 y3) (spec_OrderByDue.l1 (k + 1) y0 y1 y2 y3))
 | 0 => ⟨fun _ _ _ r h => by simp [spec_OrderByDue.l0] at h, fun _ _ _ _ r h => by simp [spec_OrderByDue.l1] at h⟩
 | k + 1 => by
  obtain ⟨ih0, ih1⟩ := spec_OrderByDue.mono_l k
  refine ⟨?_, ?_⟩
  ·intro y0 y1 y2
   unfold spec_OrderByDue.l0
   repeat' first
   | (with_reducible exact ih0 _ _ _)
   | (with_reducible exact ih1 _ _ _ _)
   | (with_reducible exact spec_l22Ok.mono _ _)
   | (with_reducible exact LeO.refl _)
   | (with_reducible exact LeO.none _)
   | (with_reducible refine LeO.ite ?_ ?_)
   | (with_reducible refine LeO.bind ?_ (fun _ => ?_))
   | exact ih0 _ _ _
   | exact ih1 _ _ _ _
   | exact spec_l22Ok.mono _ _
   | exact LeO.none _
   | refine LeO.ite ?_ ?_
   | refine LeO.bind ?_ (fun _ => ?_)
  ·intro y0 y1 y2 y3
   unfold spec_OrderByDue.l1
   repeat' first
   | (with_reducible exact ih0 _ _ _)
   | (with_reducible exact ih1 _ _ _ _)
   | (with_reducible exact spec_l22Ok.mono _ _)
   | (with_reducible exact LeO.refl _)
   | (with_reducible exact LeO.none _)
   | (with_reducible refine LeO.ite ?_ ?_)
   | (with_reducible refine LeO.bind ?_ (fun _ => ?_))
   | exact ih0 _ _ _
   | exact ih1 _ _ _ _
   | exact spec_l22Ok.mono _ _
   | exact LeO.none _
   | refine LeO.ite ?_ ?_
   | refine LeO.bind ?_ (fun _ => ?_)
theorem spec_OrderByDue.mono : ∀ a0 k, LeO (spec_OrderByDue.f k a0) (spec_OrderByDue.f (k + 1) a0) := by
 intro a0 k
 obtain ⟨ih0, ih1⟩ := spec_OrderByDue.mono_l k
 unfold spec_OrderByDue.f
 repeat' first
   | (with_reducible exact ih0 _ _ _)
   | (with_reducible exact ih1 _ _ _ _)
   | (with_reducible exact spec_l22Ok.mono _ _)
   | (with_reducible exact LeO.refl _)
   | (with_reducible exact LeO.none _)
   | (with_reducible refine LeO.ite ?_ ?_)
   | (with_reducible refine LeO.bind ?_ (fun _ => ?_))
   | exact ih0 _ _ _
   | exact ih1 _ _ _ _
   | exact spec_l22Ok.mono _ _
   | exact LeO.none _
   | refine LeO.ite ?_ ?_
   | refine LeO.bind ?_ (fun _ => ?_)
set_option maxHeartbeats 8000000 in
set_option maxRecDepth 100000 in
theorem spec_OrderByDue.calls (k : Nat) (A0 : Option Addr) (c0 : Nat) (l0 : List (S55)) (r1 : List Int) (r2 : Int) (w : World) (hr0 : Kd.C k55 w A0 l0.length l0) (hc0 : l0.length ≤ c0) (h : spec_OrderByDue.f k l0 = some (r1, r2)) :
  Calls Try.prog 44 #[.slice A0 l0.length c0] w fun e w' => ∃ v0_ : Value, e = .returned (.tuple #[v0_, .int .i64 r2]) ∧ Kd.R (Kd.int .i64) 2 w' w.heap.size (fun _ => True) v0_ r1 ∧ Below w.heap.size w w' := by
 have HR0 := Aside0.mk hr0
 have HC0 := Aside0.mk hc0
 clear hr0 hc0
 have HB := Aside0.mk (Below.refl w.heap.size w)
 have H : ((spec_l22Ok.f k l0).bind fun t566 => (if t566 = true then (spec_OrderByDue.l0 k l0 (([] : List Int)) 0) else (some (([] : List Int), 1)))) = some (r1, r2) := h
 clear h
 replace H := Option.bind_eq_some_iff.mp H
 obtain ⟨t566, A20, H⟩ := H
 replace H : (if t566 = true then (spec_OrderByDue.l0 k l0 (([] : List Int)) 0) else (some (([] : List Int), 1))) = some (r1, r2) := H
 have A2 := Aside0.mk A20
 clear A20
 by_cases c3 : t566 = true
 ·subst c3
  have H1 : (spec_OrderByDue.l0 k l0 (([] : List Int)) 0) = some (r1, r2) := by rw [if_pos rfl] at H; exact H
  clear H
  have H := H1
  clear H1
  obtain ⟨y567, hy567⟩ : ∃ y_ : List Int, y_ = (([] : List Int)) := ⟨_, rfl⟩
  replace H : (spec_OrderByDue.l0 k l0 y567 0) = some (r1, r2) := by first | (rw [hy567]; with_reducible exact H) | (have H2_ := (Option.bind_some _ _).symm.trans H; rw [hy567]; with_reducible exact H2_) | (have H2_ := (Option.bind_some _ _).symm.trans H; with_reducible exact H2_) | with_reducible exact H | (rw [hy567]; exact H) | exact H
  have Ny567 := Aside0.mk hy567
  clear hy567
  have H' := Aside0.mk H
  clear H
  go_enter Try.func44, Try.ntmps44
  go_wp2_with (first | (go_at_call 56; (with_reducible refine (spec_l22Ok.calls k _ _ l0 true _ ?side1 ?side2 A2.out).mono ?_); (case side1 => exact kc_ HR0.out); (case side2 => exact HC0.out); rintro e w4 ⟨rfl, hb⟩; have n0_ := Aside0.mk (below_step hb_ hb); clear HB; have HB := n0_; clear n0_; (try clear hb); (try clear hb2); (try clear hk); (try clear hi)) | ((with_reducible refine gate_dst (N := 11) rfl ?_); refine Kd.R_lit (Kd.int .i64) _ 2 ?hg (N := 11) ?hd (xs := ([] : List Int)) (inner := []) (ok := fun _ => True) (okp := fun _ => True) ?hr ?hp (fun _ hk => hk) trivial (Below.refl _ _) (Nat.le_refl _) (by simp) ?_; (case hd => rfl); (case hg => rfl); (case hr => first | (go_simp; done) | (go_simp; rfl)); (case hp => exact (Reps.none _ _)); intro v568 w5 ho6 hb hg_ hnew_; clear hg_ hnew_; (first | rw [← Ny567.out] at ho6 | (simp only [Int.reduceToNat] at ho6; rw [← Ny567.out] at ho6)); have n0_ := Aside0.mk (Kd.R_lower ho6 (below_size hb_)); have n1_ := Aside0.mk (below_step hb_ hb); clear HB; have HO569 := n0_; have HB := n1_; clear n0_ n1_; clear hb ho6))
  repeat (go_quiet (first | (go_at_call 56; (with_reducible refine (spec_l22Ok.calls k _ _ l0 true _ ?side1 ?side2 A2.out).mono ?_); (case side1 => exact kc_ HR0.out); (case side2 => exact HC0.out); rintro e w4 ⟨rfl, hb⟩; have n0_ := Aside0.mk (below_step hb_ hb); clear HB; have HB := n0_; clear n0_; (try clear hb); (try clear hb2); (try clear hk); (try clear hi)) | ((with_reducible refine gate_dst (N := 11) rfl ?_); refine Kd.R_lit (Kd.int .i64) _ 2 ?hg (N := 11) ?hd (xs := ([] : List Int)) (inner := []) (ok := fun _ => True) (okp := fun _ => True) ?hr ?hp (fun _ hk => hk) trivial (Below.refl _ _) (Nat.le_refl _) (by simp) ?_; (case hd => rfl); (case hg => rfl); (case hr => first | (go_simp; done) | (go_simp; rfl)); (case hp => exact (Reps.none _ _)); intro v568 w5 ho6 hb hg_ hnew_; clear hg_ hnew_; (first | rw [← Ny567.out] at ho6 | (simp only [Int.reduceToNat] at ho6; rw [← Ny567.out] at ho6)); have n0_ := Aside0.mk (Kd.R_lower ho6 (below_size hb_)); have n1_ := Aside0.mk (below_step hb_ hb); clear HB; have HO569 := n0_; have HB := n1_; clear n0_ n1_; clear hb ho6)); try go_wp2_with (first | (go_at_call 56; (with_reducible refine (spec_l22Ok.calls k _ _ l0 true _ ?side1 ?side2 A2.out).mono ?_); (case side1 => exact kc_ HR0.out); (case side2 => exact HC0.out); rintro e w4 ⟨rfl, hb⟩; have n0_ := Aside0.mk (below_step hb_ hb); clear HB; have HB := n0_; clear n0_; (try clear hb); (try clear hb2); (try clear hk); (try clear hi)) | ((with_reducible refine gate_dst (N := 11) rfl ?_); refine Kd.R_lit (Kd.int .i64) _ 2 ?hg (N := 11) ?hd (xs := ([] : List Int)) (inner := []) (ok := fun _ => True) (okp := fun _ => True) ?hr ?hp (fun _ hk => hk) trivial (Below.refl _ _) (Nat.le_refl _) (by simp) ?_; (case hd => rfl); (case hg => rfl); (case hr => first | (go_simp; done) | (go_simp; rfl)); (case hp => exact (Reps.none _ _)); intro v568 w5 ho6 hb hg_ hnew_; clear hg_ hnew_; (first | rw [← Ny567.out] at ho6 | (simp only [Int.reduceToNat] at ho6; rw [← Ny567.out] at ho6)); have n0_ := Aside0.mk (Kd.R_lower ho6 (below_size hb_)); have n1_ := Aside0.mk (below_step hb_ hb); clear HB; have HO569 := n0_; have HB := n1_; clear n0_ n1_; clear hb ho6)))
  go_loopg [4, 5] k (fun kq v4 v5 w' => ∃ (x4_1 : List Int) (x5_1 : Int), v5 = .int .i64 x5_1 ∧ Aside0 (spec_OrderByDue.l0 kq l0 x4_1 x5_1 = some (r1, r2)) ∧ Aside0 (kq ≤ k) ∧ Aside0 (Kd.R (Kd.int .i64) 2 w' w.heap.size (fun _ => True) v4 x4_1) ∧ Aside0 (Below w.heap.size w w'))
  case atStart => exact ⟨(y567), (0), (by first | rfl | (simp; done) | (simp [*]; done)), H', ⟨Nat.le_refl _⟩, ⟨by (with_reducible repeat (first | apply Kd.R_alloc | apply Kd.R_drewN | apply Kd.R_drew)); exact HO569.out⟩, ⟨hb_⟩⟩
  case round =>
   clear H'
   try clear p2
   try clear c3
   try clear c4
   obtain ⟨x4_1, x5_1, rfl, HA, HK1, HO_4, HB⟩ := hrel
   cases gk with
   | zero => exact absurd HA.out (by simp [spec_OrderByDue.l0])
   | succ k1 =>
    have H := HA.out
    clear HA
    simp only [spec_OrderByDue.l0] at H
    by_cases c7 : x5_1 < (l0.length : Int)
    ·rw [if_pos c7] at H
     have c7b0 : decide (x5_1 < (l0.length : Int)) = true := decide_eq_true c7
     clear c7
     have H' := Aside0.mk H
     clear H
     obtain ⟨Ao8, co8, eo8⟩ := Kd.R_slice HO_4.out
     subst eo8
     go_wp2
     repeat (go_quiet (fail); try go_wp2)
     go_loopg [6] k1 (fun kq v6 w' => ∃ (x6_2 : Int), v6 = .int .i64 x6_2 ∧ Aside0 (spec_OrderByDue.l1 kq l0 x4_1 x5_1 x6_2 = some (r1, r2)) ∧ Aside0 (kq ≤ k1) ∧ Aside0 (Kd.R (Kd.int .i64) 2 w' w.heap.size (fun _ => True) (.slice Ao8 x4_1.length co8) x4_1) ∧ Aside0 (Below w.heap.size w w'))
     case atStart => exact ⟨((x4_1.length : Int)), (by first | rfl | (simp; done) | (simp [*]; done)), H', ⟨Nat.le_refl _⟩, ⟨by (with_reducible repeat (first | apply Kd.R_alloc | apply Kd.R_drewN | apply Kd.R_drew)); exact HO_4.out⟩, ⟨hb_⟩⟩
     case round =>
      clear H'
      try clear p2
      try clear c3
      try clear c4
      try clear c7
      try clear c7b0
      try clear p2
      obtain ⟨x6_2, rfl, HA, HK2, HO_4, HB⟩ := hrel
      cases gk with
      | zero => exact absurd HA.out (by simp [spec_OrderByDue.l1])
      | succ k2 =>
       have H := HA.out
       clear HA
       simp only [spec_OrderByDue.l1] at H
       by_cases c9 : x6_2 > 0
       ·rw [if_pos c9] at H
        have c9b0 : decide (0 < x6_2) = true := decide_eq_true c9
        clear c9
        obtain ⟨ji10, hji10⟩ : ∃ j_ : Int, (wrap64 (x6_2 - 1)) = j_ := ⟨_, rfl⟩
        replace H : (if 0 ≤ (ji10) then (if (ji10) < (x4_1.length : Int) then (if 0 ≤ (rd x4_1 (ji10)) then (if (rd x4_1 (ji10)) < (l0.length : Int) then (if 0 ≤ x5_1 then (if x5_1 < (l0.length : Int) then (if ((rd_T55 l0 (rd x4_1 (ji10))).f2) > ((rd_T55 l0 x5_1).f2) then (spec_OrderByDue.l1 k2 l0 x4_1 x5_1 ji10) else (if 0 ≤ x6_2 then (if x6_2 ≤ (x4_1.length : Int) then ((spec_l00Own.f (x4_1.take (x6_2 : Int).toNat)).bind fun t577 => (if t577.length < 17592186044416 then ((some (t577 ++ [x5_1] : List Int)).bind fun y580 => ((some (x4_1.drop (x6_2 : Int).toNat : List Int)).bind fun y583 => (if y580.length + y583.length < 17592186044416 then (spec_OrderByDue.l0 k2 l0 (y580 ++ y583) (wrap64 (x5_1 + 1))) else (none)))) else (none))) else (none)) else (none))) else (none)) else (none)) else (none)) else (none)) else (none)) else (none)) = some (r1, r2) := by first | (rw [hji10] at H; exact H) | (simp only [hji10] at H ⊢; exact H)
        have hji10w : (IntKind.i64.wrap (x6_2 - 1)) = ji10 := (i64_w _).trans hji10
        by_cases c11 : 0 ≤ (ji10)
        ·rw [if_pos c11] at H
         have c11b0 : decide (0 ≤ (ji10)) = true := decide_eq_true c11
         clear c11
         by_cases c12 : (ji10) < (x4_1.length : Int)
         ·rw [if_pos c12] at H
          have c12b0 : decide ((ji10) < (x4_1.length : Int)) = true := decide_eq_true c12
          clear c12
          by_cases c13 : 0 ≤ (rd x4_1 (ji10))
          ·rw [if_pos c13] at H
           have c13b0 : decide (0 ≤ (rd x4_1 (ji10))) = true := decide_eq_true c13
           clear c13
           by_cases c14 : (rd x4_1 (ji10)) < (l0.length : Int)
           ·rw [if_pos c14] at H
            have c14b0 : decide ((rd x4_1 (ji10)) < (l0.length : Int)) = true := decide_eq_true c14
            clear c14
            by_cases c15 : 0 ≤ x5_1
            ·rw [if_pos c15] at H
             have c15b0 : decide (0 ≤ x5_1) = true := decide_eq_true c15
             clear c15
             by_cases c16 : x5_1 < (l0.length : Int)
             ·rw [if_pos c16] at H
              have c16b0 : decide (x5_1 < (l0.length : Int)) = true := decide_eq_true c16
              clear c16
              by_cases c17 : ((rd_T55 l0 (rd x4_1 (ji10))).f2) > ((rd_T55 l0 x5_1).f2)
              ·rw [if_pos c17] at H
               have c17b0 : decide (((rd_T55 l0 x5_1).f2) < ((rd_T55 l0 (rd x4_1 (ji10))).f2)) = true := decide_eq_true c17
               clear c17
               have H' := Aside0.mk H
               clear H
               have p570 : 0 ≤ ((ji10) : Int) := od_
               have q570 : (ji10) < (x4_1.length : Int) := od_
               obtain ⟨ad570, e570, hx570_0⟩ := Kd.at_int (Kd.R_reads' HO_4.out).2.2 (ji10) p570 q570
               cases e570
               replace p570 := eq_true p570
               replace q570 := eq_true q570
               have p571 : 0 ≤ ((rd x4_1 (ji10)) : Int) := od_
               have q571 : (rd x4_1 (ji10)) < (l0.length : Int) := od_
               obtain ⟨ad571, e571, hx571_0, hx571_1, hx571_2, hx571_3⟩ := at_T55 HR0.out (rd x4_1 (ji10)) p571 q571
               cases e571
               replace hx571_0 := cq_ HB hx571_0
               replace hx571_1 := cq_ HB hx571_1
               replace hx571_2 := cq_ HB hx571_2
               replace hx571_3 := cq_ HB hx571_3
               replace p571 := eq_true p571
               replace q571 := eq_true q571
               have p572 : 0 ≤ (x5_1 : Int) := od_
               have q572 : x5_1 < (l0.length : Int) := od_
               obtain ⟨ad572, e572, hx572_0, hx572_1, hx572_2, hx572_3⟩ := at_T55 HR0.out x5_1 p572 q572
               obtain rfl : ad571 = ad572 := (by injection e572)
               replace hx572_0 := cq_ HB hx572_0
               replace hx572_1 := cq_ HB hx572_1
               replace hx572_2 := cq_ HB hx572_2
               replace hx572_3 := cq_ HB hx572_3
               replace p572 := eq_true p572
               replace q572 := eq_true q572
               go_wp2
               repeat (go_quiet (fail); try go_wp2)
               go_roundg k2
               case measure => have := HK1.out; have := HK2.out; omega
               case rel => exact ⟨(ji10), (by first | rfl | (simp; done) | (simp only [← hji10] <;> (first | rfl | simp)) | (simp [*]; done)), H', ⟨by have := HK1.out; have := HK2.out; omega⟩, ⟨by (with_reducible repeat (first | apply Kd.R_alloc | apply Kd.R_drewN | apply Kd.R_drew)); exact HO_4.out⟩, ⟨hb_⟩⟩
              ·rw [if_neg c17] at H
               have c17b0 : decide (((rd_T55 l0 x5_1).f2) < ((rd_T55 l0 (rd x4_1 (ji10))).f2)) = false := decide_eq_false c17
               clear c17
               by_cases c18 : 0 ≤ x6_2
               ·rw [if_pos c18] at H
                have c18b0 := eq_true c18
                have c18b1 : decide (0 ≤ x6_2) = true := decide_eq_true c18
                clear c18
                by_cases c19 : x6_2 ≤ (x4_1.length : Int)
                ·rw [if_pos c19] at H
                 have c19b0 := eq_true c19
                 have c19b1 : decide (x6_2 ≤ (x4_1.length : Int)) = true := decide_eq_true c19
                 clear c19
                 obtain ⟨y573, hy573⟩ : ∃ y_ : List Int, y_ = (x4_1.take (x6_2 : Int).toNat) := ⟨_, rfl⟩
                 replace H : ((spec_l00Own.f y573).bind fun t577 => (if t577.length < 17592186044416 then ((some (t577 ++ [x5_1] : List Int)).bind fun y580 => ((some (x4_1.drop (x6_2 : Int).toNat : List Int)).bind fun y583 => (if y580.length + y583.length < 17592186044416 then (spec_OrderByDue.l0 k2 l0 (y580 ++ y583) (wrap64 (x5_1 + 1))) else (none)))) else (none))) = some (r1, r2) := by first | (rw [hy573]; with_reducible exact H) | (have H2_ := (Option.bind_some _ _).symm.trans H; rw [hy573]; with_reducible exact H2_) | (have H2_ := (Option.bind_some _ _).symm.trans H; with_reducible exact H2_) | with_reducible exact H | (rw [hy573]; exact H) | exact H
                 have Ny573 := Aside0.mk hy573
                 clear hy573
                 replace H := Option.bind_eq_some_iff.mp H
                 obtain ⟨t577, A200, H⟩ := H
                 replace H : (if t577.length < 17592186044416 then ((some (t577 ++ [x5_1] : List Int)).bind fun y580 => ((some (x4_1.drop (x6_2 : Int).toNat : List Int)).bind fun y583 => (if y580.length + y583.length < 17592186044416 then (spec_OrderByDue.l0 k2 l0 (y580 ++ y583) (wrap64 (x5_1 + 1))) else (none)))) else (none)) = some (r1, r2) := H
                 have A20 := Aside0.mk A200
                 clear A200
                 by_cases c21 : t577.length < 17592186044416
                 ·rw [if_pos c21] at H
                  have LMc21 := Aside0.mk c21
                  clear c21
                  obtain ⟨y580, hy580⟩ : ∃ y_ : List Int, y_ = (t577 ++ [x5_1]) := ⟨_, rfl⟩
                  replace H : ((some (x4_1.drop (x6_2 : Int).toNat : List Int)).bind fun y583 => (if y580.length + y583.length < 17592186044416 then (spec_OrderByDue.l0 k2 l0 (y580 ++ y583) (wrap64 (x5_1 + 1))) else (none))) = some (r1, r2) := by first | (rw [hy580]; with_reducible exact H) | (have H2_ := (Option.bind_some _ _).symm.trans H; rw [hy580]; with_reducible exact H2_) | (have H2_ := (Option.bind_some _ _).symm.trans H; with_reducible exact H2_) | with_reducible exact H | (rw [hy580]; exact H) | exact H
                  have Ny580 := Aside0.mk hy580
                  clear hy580
                  have c22b0 := eq_true (od_ : 0 ≤ x6_2)
                  have c23b0 := eq_true (od_ : x6_2 ≤ (x4_1.length : Int))
                  obtain ⟨y583, hy583⟩ : ∃ y_ : List Int, y_ = (x4_1.drop (x6_2 : Int).toNat) := ⟨_, rfl⟩
                  replace H : (if y580.length + y583.length < 17592186044416 then (spec_OrderByDue.l0 k2 l0 (y580 ++ y583) (wrap64 (x5_1 + 1))) else (none)) = some (r1, r2) := by first | (rw [hy583]; with_reducible exact H) | (have H2_ := (Option.bind_some _ _).symm.trans H; rw [hy583]; with_reducible exact H2_) | (have H2_ := (Option.bind_some _ _).symm.trans H; with_reducible exact H2_) | with_reducible exact H | (rw [hy583]; exact H) | exact H
                  have Ny583 := Aside0.mk hy583
                  clear hy583
                  by_cases c24 : y580.length + y583.length < 17592186044416
                  ·rw [if_pos c24] at H
                   have LMc24 := Aside0.mk c24
                   clear c24
                   obtain ⟨y587, hy587⟩ : ∃ y_ : List Int, y_ = (y580 ++ y583) := ⟨_, rfl⟩
                   replace H : (spec_OrderByDue.l0 k2 l0 y587 (wrap64 (x5_1 + 1))) = some (r1, r2) := by first | (rw [hy587]; with_reducible exact H) | (have H2_ := (Option.bind_some _ _).symm.trans H; rw [hy587]; with_reducible exact H2_) | (have H2_ := (Option.bind_some _ _).symm.trans H; with_reducible exact H2_) | with_reducible exact H | (rw [hy587]; exact H) | exact H
                   have Ny587 := Aside0.mk hy587
                   clear hy587
                   have H' := Aside0.mk H
                   clear H
                   have p570 : 0 ≤ ((ji10) : Int) := od_
                   have q570 : (ji10) < (x4_1.length : Int) := od_
                   obtain ⟨ad570, e570, hx570_0⟩ := Kd.at_int (Kd.R_reads' HO_4.out).2.2 (ji10) p570 q570
                   cases e570
                   replace p570 := eq_true p570
                   replace q570 := eq_true q570
                   have p571 : 0 ≤ ((rd x4_1 (ji10)) : Int) := od_
                   have q571 : (rd x4_1 (ji10)) < (l0.length : Int) := od_
                   obtain ⟨ad571, e571, hx571_0, hx571_1, hx571_2, hx571_3⟩ := at_T55 HR0.out (rd x4_1 (ji10)) p571 q571
                   cases e571
                   replace hx571_0 := cq_ HB hx571_0
                   replace hx571_1 := cq_ HB hx571_1
                   replace hx571_2 := cq_ HB hx571_2
                   replace hx571_3 := cq_ HB hx571_3
                   replace p571 := eq_true p571
                   replace q571 := eq_true q571
                   have p572 : 0 ≤ (x5_1 : Int) := od_
                   have q572 : x5_1 < (l0.length : Int) := od_
                   obtain ⟨ad572, e572, hx572_0, hx572_1, hx572_2, hx572_3⟩ := at_T55 HR0.out x5_1 p572 q572
                   obtain rfl : ad571 = ad572 := (by injection e572)
                   replace hx572_0 := cq_ HB hx572_0
                   replace hx572_1 := cq_ HB hx572_1
                   replace hx572_2 := cq_ HB hx572_2
                   replace hx572_3 := cq_ HB hx572_3
                   replace p572 := eq_true p572
                   replace q572 := eq_true q572
                   have q25 : (x6_2 : Int) ≤ ((x4_1.length : Int) : Int) := od_
                   obtain ⟨i025, hi025, _, hsz25, _⟩ := info_parts info2
                   have hroom25 : x4_1.length ≤ co8 := (Kd.R_reads' HO_4.out).2.1
                   have hC25 : Kd.C (Kd.int .i64) _ (some ad570) x4_1.length x4_1 := (Kd.R_reads' HO_4.out).2.2
                   have hcut25 := cut_to (P := Try.prog) 37 2 .i64 Try.underlying37 hi025 (some ad570) x4_1.length co8 x6_2 (od_) q25 hroom25
                   have hr25 := Kd.C_take (m := (x6_2 : Int).toNat) hC25 (by omega)
                   have hy25 : y573.length = (x6_2 : Int).toNat := (by rw [Ny573.out, List.length_take]; omega)
                   rw [← Ny573.out] at hr25
                   rw [← hy25] at hcut25
                   have HR576 := Aside0.mk hr25
                   have HC576 := Aside0.mk (show y573.length ≤ co8 from by omega)
                   clear hr25 hC25 hroom25 hi025 hsz25
                   have KY25 := Aside0.mk hy25
                   clear hy25
                   have KL25 := Aside0.mk (show (x6_2 : Int).toNat ≤ x4_1.length from by omega)
                   replace q25 := eq_true q25
                   go_wp2_with (first | (go_at_call 80; (with_reducible refine (spec_l00Own.calls _ _ y573 t577 _ ?side1 ?side2 A20.out).mono ?_); (case side1 => repeat (first | exact (by repeat (first | (with_reducible exact HR576.out) | (with_reducible refine Kd.C_alloc ?_ _) | (with_reducible refine Kd.C_drewN ?_ _) | (with_reducible refine Kd.C_drew ?_) | exact HR576.out)) | (with_reducible refine Kd.C_alloc ?_ _) | (with_reducible refine Kd.C_drewN ?_ _) | (with_reducible refine Kd.C_drew ?_))); (case side2 => exact HC576.out); rintro e w26 ⟨v578, rfl, ho0, hb⟩; have n0_ := Aside0.mk (Kd.R_elder' (kr_ HO_4) (Kd.R_base ho0) hb); have n1_ := Aside0.mk (Kd.R_lower (Kd.R_new' ho0 (Kd.R_lt (kr_ HO_4))) (below_size hb_)); have n2_ := Aside0.mk (Kd.C_below (by repeat (first | (with_reducible exact HR576.out) | (with_reducible refine Kd.C_alloc ?_ _) | (with_reducible refine Kd.C_drewN ?_ _) | (with_reducible refine Kd.C_drew ?_) | exact HR576.out)) hb); have n3_ := Aside0.mk (below_step hb_ hb); clear HO_4; clear HR576; clear HB; have HO_4 := n0_; have HO579 := n1_; have HR576 := n2_; have HB := n3_; clear n0_ n1_ n2_ n3_; (try clear hb); (try clear hb2); (try clear hk); (try clear hi); (try clear ho0)) | ((with_reducible refine gate_builtin (b := .append) (xs := #[.tmp 44, .tmp 46]) rfl ?_); at_builtin; refine Kd.R_append (Kd.int .i64) (w0 := w) w.heap.size rfl (.tmp 44) (.tmp 46) 37 2 (.int .i64 0) 8 rfl Try.underlying37 info2 rfl (by decide) (by omega) v578 t577 x5_1 [.int .i64 x5_1] (fun k_ => some k_ ≠ (.slice (some ad570) x4_1.length co8 : Value).ownBlock) (fun _ => False) rfl rfl ?aP (fun _ hk => hk.elim) ?aF ?aO ?aB ?aS ?aL ?_; (case aP => exact rfl); (case aB => exact hb_); (case aF => exact (fun k_ hk => Kd.fresh' (Kd.R_lt (kr_ HO_4)) k_ hk)); (case aO => exact (by (with_reducible repeat (first | apply Kd.R_alloc | apply Kd.R_drewN | apply Kd.R_drew)); exact Kd.R_mono HO579.out (fun _ hk => hk.2))); (case aS => exact (below_size hb_)); (case aL => have := LMc21.out; omega); intro v581 w27 ho hb hg hat; rw [← Ny580.out] at ho; have n0_ := Aside0.mk (Kd.R_after (ok := (fun _ => True)) (kr_ HO_4) hg hat); have n1_ := Aside0.mk (hb); have n2_ := Aside0.mk ((show Kd.C (Kd.int .i64) w27 (some ad570) y573.length y573 from by rw [Ny573.out]; exact Kd.C_take (m := (x6_2 : Int).toNat) ((Kd.R_reads' (Kd.R_after (ok := (fun _ => True)) (kr_ HO_4) hg hat)).2.2) KL25.out)); have n3_ := Aside0.mk (ho); clear HO_4; clear HB; clear HR576; clear HO579; have HO_4 := n0_; have HB := n1_; have HR576 := n2_; have HO582 := n3_; clear n0_ n1_ n2_ n3_; clear ho hb hg hat; have q28 : (x6_2 : Int) ≤ ((x4_1.length : Int) : Int) := od_; obtain ⟨i028, hi028, _, hsz28, _⟩ := info_parts info2; have hroom28 : x4_1.length ≤ co8 := (Kd.R_reads' HO_4.out).2.1; have hC28 : Kd.C (Kd.int .i64) _ (some ad570) x4_1.length x4_1 := (Kd.R_reads' HO_4.out).2.2; have q028 : (0 : Int) ≤ (x6_2 : Int) := od_; have hcut28 := cut_from (P := Try.prog) 37 2 .i64 Try.underlying37 hi028 1 hsz28 (some ad570) x4_1.length co8 x6_2 q028 q28; have hr28 := Kd.C_drop (m := (x6_2 : Int).toNat) (c := co8) hC28 (by omega) hroom28; obtain ⟨A28, hA28⟩ : ∃ Az_, Az_ = (if co8 = (x6_2 : Int).toNat then (some ad570) else ((some ad570) : Option Addr).map (·.add ((x6_2 : Int).toNat * 1))) := ⟨_, rfl⟩; obtain ⟨c28, hc28⟩ : ∃ cz_, cz_ = co8 - (x6_2 : Int).toNat := ⟨_, rfl⟩; have hy28 : y583.length = x4_1.length - (x6_2 : Int).toNat := (by rw [Ny583.out, List.length_drop] <;> omega); rw [show (x4_1).drop (x6_2 : Int).toNat = y583 from Ny583.out.symm] at hr28; replace hr28 : Kd.C (Kd.int .i64) _ A28 y583.length y583 := (by rw [hA28]; exact hr28); rw [← hy28, ← hA28, ← hc28] at hcut28; have HR586 := Aside0.mk hr28; have HC586 := Aside0.mk (show y583.length ≤ c28 from by rw [hy28, hc28]; exact Nat.sub_le_sub_right hroom28 _); clear hr28 hC28 hroom28 hi028 hsz28 hc28; have KY28 := Aside0.mk hy28; have KA28 := Aside0.mk hA28; clear hy28 hA28; have KL28 := Aside0.mk (show (x6_2 : Int).toNat ≤ x4_1.length from by omega); replace q28 := eq_true q28) | ((with_reducible refine gate_builtin (b := .append) (xs := #[.tmp 48, .tmp 51]) rfl ?_); at_builtin; refine Kd.R_append_rows (Kd.int .i64) (w0 := w) w.heap.size rfl (.tmp 48) (.tmp 51) 37 2 (.int .i64 0) 8 rfl Try.underlying37 info2 rfl (by decide) (by omega) v581 y580 y583 _ _ _ (fun k_ => some k_ ≠ (.slice (some ad570) x4_1.length co8 : Value).ownBlock) (fun _ => False) rfl rfl ?aO ?aR (fun _ _ h => h) (fun _ h => h.elim) ?aF ?aB ?aS ?aL ?_; (case aR => repeat (first | exact (by repeat (first | (with_reducible exact HR586.out) | (with_reducible refine Kd.C_alloc ?_ _) | (with_reducible refine Kd.C_drewN ?_ _) | (with_reducible refine Kd.C_drew ?_) | exact HR586.out)) | (with_reducible refine Kd.C_alloc ?_ _) | (with_reducible refine Kd.C_drewN ?_ _) | (with_reducible refine Kd.C_drew ?_))); (case aB => exact hb_); (case aF => exact (fun k_ hk => Kd.fresh' (Kd.R_lt (kr_ HO_4)) k_ hk)); (case aO => exact (kr_ HO582)); (case aS => exact (below_size hb_)); (case aL => have := LMc24.out; omega); intro v588 w29 ho hb hg hat; rw [← Ny587.out] at ho; have n0_ := Aside0.mk (Kd.R_after (ok := (fun _ => True)) (kr_ HO_4) hg hat); have n1_ := Aside0.mk (hb); have n2_ := Aside0.mk ((show Kd.C (Kd.int .i64) w29 (some ad570) y573.length y573 from by rw [Ny573.out]; exact Kd.C_take (m := (x6_2 : Int).toNat) ((Kd.R_reads' (Kd.R_after (ok := (fun _ => True)) (kr_ HO_4) hg hat)).2.2) KL25.out)); have n3_ := Aside0.mk ((show Kd.C (Kd.int .i64) w29 A28 y583.length y583 from by rw [Ny583.out, KA28.out]; exact Kd.C_drop (m := (x6_2 : Int).toNat) (c := co8) ((Kd.R_reads' (Kd.R_after (ok := (fun _ => True)) (kr_ HO_4) hg hat)).2.2) KL28.out ((Kd.R_reads' (Kd.R_after (ok := (fun _ => True)) (kr_ HO_4) hg hat)).2.1))); have n4_ := Aside0.mk (ho); clear HO_4; clear HB; clear HR576; clear HR586; clear HO582; have HO_4 := n0_; have HB := n1_; have HR576 := n2_; have HR586 := n3_; have HO589 := n4_; clear n0_ n1_ n2_ n3_ n4_; clear ho hb hg hat))
                   repeat (go_quiet (first | (go_at_call 80; (with_reducible refine (spec_l00Own.calls _ _ y573 t577 _ ?side1 ?side2 A20.out).mono ?_); (case side1 => repeat (first | exact (by repeat (first | (with_reducible exact HR576.out) | (with_reducible refine Kd.C_alloc ?_ _) | (with_reducible refine Kd.C_drewN ?_ _) | (with_reducible refine Kd.C_drew ?_) | exact HR576.out)) | (with_reducible refine Kd.C_alloc ?_ _) | (with_reducible refine Kd.C_drewN ?_ _) | (with_reducible refine Kd.C_drew ?_))); (case side2 => exact HC576.out); rintro e w26 ⟨v578, rfl, ho0, hb⟩; have n0_ := Aside0.mk (Kd.R_elder' (kr_ HO_4) (Kd.R_base ho0) hb); have n1_ := Aside0.mk (Kd.R_lower (Kd.R_new' ho0 (Kd.R_lt (kr_ HO_4))) (below_size hb_)); have n2_ := Aside0.mk (Kd.C_below (by repeat (first | (with_reducible exact HR576.out) | (with_reducible refine Kd.C_alloc ?_ _) | (with_reducible refine Kd.C_drewN ?_ _) | (with_reducible refine Kd.C_drew ?_) | exact HR576.out)) hb); have n3_ := Aside0.mk (below_step hb_ hb); clear HO_4; clear HR576; clear HB; have HO_4 := n0_; have HO579 := n1_; have HR576 := n2_; have HB := n3_; clear n0_ n1_ n2_ n3_; (try clear hb); (try clear hb2); (try clear hk); (try clear hi); (try clear ho0)) | ((with_reducible refine gate_builtin (b := .append) (xs := #[.tmp 44, .tmp 46]) rfl ?_); at_builtin; refine Kd.R_append (Kd.int .i64) (w0 := w) w.heap.size rfl (.tmp 44) (.tmp 46) 37 2 (.int .i64 0) 8 rfl Try.underlying37 info2 rfl (by decide) (by omega) v578 t577 x5_1 [.int .i64 x5_1] (fun k_ => some k_ ≠ (.slice (some ad570) x4_1.length co8 : Value).ownBlock) (fun _ => False) rfl rfl ?aP (fun _ hk => hk.elim) ?aF ?aO ?aB ?aS ?aL ?_; (case aP => exact rfl); (case aB => exact hb_); (case aF => exact (fun k_ hk => Kd.fresh' (Kd.R_lt (kr_ HO_4)) k_ hk)); (case aO => exact (by (with_reducible repeat (first | apply Kd.R_alloc | apply Kd.R_drewN | apply Kd.R_drew)); exact Kd.R_mono HO579.out (fun _ hk => hk.2))); (case aS => exact (below_size hb_)); (case aL => have := LMc21.out; omega); intro v581 w27 ho hb hg hat; rw [← Ny580.out] at ho; have n0_ := Aside0.mk (Kd.R_after (ok := (fun _ => True)) (kr_ HO_4) hg hat); have n1_ := Aside0.mk (hb); have n2_ := Aside0.mk ((show Kd.C (Kd.int .i64) w27 (some ad570) y573.length y573 from by rw [Ny573.out]; exact Kd.C_take (m := (x6_2 : Int).toNat) ((Kd.R_reads' (Kd.R_after (ok := (fun _ => True)) (kr_ HO_4) hg hat)).2.2) KL25.out)); have n3_ := Aside0.mk (ho); clear HO_4; clear HB; clear HR576; clear HO579; have HO_4 := n0_; have HB := n1_; have HR576 := n2_; have HO582 := n3_; clear n0_ n1_ n2_ n3_; clear ho hb hg hat; have q28 : (x6_2 : Int) ≤ ((x4_1.length : Int) : Int) := od_; obtain ⟨i028, hi028, _, hsz28, _⟩ := info_parts info2; have hroom28 : x4_1.length ≤ co8 := (Kd.R_reads' HO_4.out).2.1; have hC28 : Kd.C (Kd.int .i64) _ (some ad570) x4_1.length x4_1 := (Kd.R_reads' HO_4.out).2.2; have q028 : (0 : Int) ≤ (x6_2 : Int) := od_; have hcut28 := cut_from (P := Try.prog) 37 2 .i64 Try.underlying37 hi028 1 hsz28 (some ad570) x4_1.length co8 x6_2 q028 q28; have hr28 := Kd.C_drop (m := (x6_2 : Int).toNat) (c := co8) hC28 (by omega) hroom28; obtain ⟨A28, hA28⟩ : ∃ Az_, Az_ = (if co8 = (x6_2 : Int).toNat then (some ad570) else ((some ad570) : Option Addr).map (·.add ((x6_2 : Int).toNat * 1))) := ⟨_, rfl⟩; obtain ⟨c28, hc28⟩ : ∃ cz_, cz_ = co8 - (x6_2 : Int).toNat := ⟨_, rfl⟩; have hy28 : y583.length = x4_1.length - (x6_2 : Int).toNat := (by rw [Ny583.out, List.length_drop] <;> omega); rw [show (x4_1).drop (x6_2 : Int).toNat = y583 from Ny583.out.symm] at hr28; replace hr28 : Kd.C (Kd.int .i64) _ A28 y583.length y583 := (by rw [hA28]; exact hr28); rw [← hy28, ← hA28, ← hc28] at hcut28; have HR586 := Aside0.mk hr28; have HC586 := Aside0.mk (show y583.length ≤ c28 from by rw [hy28, hc28]; exact Nat.sub_le_sub_right hroom28 _); clear hr28 hC28 hroom28 hi028 hsz28 hc28; have KY28 := Aside0.mk hy28; have KA28 := Aside0.mk hA28; clear hy28 hA28; have KL28 := Aside0.mk (show (x6_2 : Int).toNat ≤ x4_1.length from by omega); replace q28 := eq_true q28) | ((with_reducible refine gate_builtin (b := .append) (xs := #[.tmp 48, .tmp 51]) rfl ?_); at_builtin; refine Kd.R_append_rows (Kd.int .i64) (w0 := w) w.heap.size rfl (.tmp 48) (.tmp 51) 37 2 (.int .i64 0) 8 rfl Try.underlying37 info2 rfl (by decide) (by omega) v581 y580 y583 _ _ _ (fun k_ => some k_ ≠ (.slice (some ad570) x4_1.length co8 : Value).ownBlock) (fun _ => False) rfl rfl ?aO ?aR (fun _ _ h => h) (fun _ h => h.elim) ?aF ?aB ?aS ?aL ?_; (case aR => repeat (first | exact (by repeat (first | (with_reducible exact HR586.out) | (with_reducible refine Kd.C_alloc ?_ _) | (with_reducible refine Kd.C_drewN ?_ _) | (with_reducible refine Kd.C_drew ?_) | exact HR586.out)) | (with_reducible refine Kd.C_alloc ?_ _) | (with_reducible refine Kd.C_drewN ?_ _) | (with_reducible refine Kd.C_drew ?_))); (case aB => exact hb_); (case aF => exact (fun k_ hk => Kd.fresh' (Kd.R_lt (kr_ HO_4)) k_ hk)); (case aO => exact (kr_ HO582)); (case aS => exact (below_size hb_)); (case aL => have := LMc24.out; omega); intro v588 w29 ho hb hg hat; rw [← Ny587.out] at ho; have n0_ := Aside0.mk (Kd.R_after (ok := (fun _ => True)) (kr_ HO_4) hg hat); have n1_ := Aside0.mk (hb); have n2_ := Aside0.mk ((show Kd.C (Kd.int .i64) w29 (some ad570) y573.length y573 from by rw [Ny573.out]; exact Kd.C_take (m := (x6_2 : Int).toNat) ((Kd.R_reads' (Kd.R_after (ok := (fun _ => True)) (kr_ HO_4) hg hat)).2.2) KL25.out)); have n3_ := Aside0.mk ((show Kd.C (Kd.int .i64) w29 A28 y583.length y583 from by rw [Ny583.out, KA28.out]; exact Kd.C_drop (m := (x6_2 : Int).toNat) (c := co8) ((Kd.R_reads' (Kd.R_after (ok := (fun _ => True)) (kr_ HO_4) hg hat)).2.2) KL28.out ((Kd.R_reads' (Kd.R_after (ok := (fun _ => True)) (kr_ HO_4) hg hat)).2.1))); have n4_ := Aside0.mk (ho); clear HO_4; clear HB; clear HR576; clear HR586; clear HO582; have HO_4 := n0_; have HB := n1_; have HR576 := n2_; have HR586 := n3_; have HO589 := n4_; clear n0_ n1_ n2_ n3_ n4_; clear ho hb hg hat)); try go_wp2_with (first | (go_at_call 80; (with_reducible refine (spec_l00Own.calls _ _ y573 t577 _ ?side1 ?side2 A20.out).mono ?_); (case side1 => repeat (first | exact (by repeat (first | (with_reducible exact HR576.out) | (with_reducible refine Kd.C_alloc ?_ _) | (with_reducible refine Kd.C_drewN ?_ _) | (with_reducible refine Kd.C_drew ?_) | exact HR576.out)) | (with_reducible refine Kd.C_alloc ?_ _) | (with_reducible refine Kd.C_drewN ?_ _) | (with_reducible refine Kd.C_drew ?_))); (case side2 => exact HC576.out); rintro e w26 ⟨v578, rfl, ho0, hb⟩; have n0_ := Aside0.mk (Kd.R_elder' (kr_ HO_4) (Kd.R_base ho0) hb); have n1_ := Aside0.mk (Kd.R_lower (Kd.R_new' ho0 (Kd.R_lt (kr_ HO_4))) (below_size hb_)); have n2_ := Aside0.mk (Kd.C_below (by repeat (first | (with_reducible exact HR576.out) | (with_reducible refine Kd.C_alloc ?_ _) | (with_reducible refine Kd.C_drewN ?_ _) | (with_reducible refine Kd.C_drew ?_) | exact HR576.out)) hb); have n3_ := Aside0.mk (below_step hb_ hb); clear HO_4; clear HR576; clear HB; have HO_4 := n0_; have HO579 := n1_; have HR576 := n2_; have HB := n3_; clear n0_ n1_ n2_ n3_; (try clear hb); (try clear hb2); (try clear hk); (try clear hi); (try clear ho0)) | ((with_reducible refine gate_builtin (b := .append) (xs := #[.tmp 44, .tmp 46]) rfl ?_); at_builtin; refine Kd.R_append (Kd.int .i64) (w0 := w) w.heap.size rfl (.tmp 44) (.tmp 46) 37 2 (.int .i64 0) 8 rfl Try.underlying37 info2 rfl (by decide) (by omega) v578 t577 x5_1 [.int .i64 x5_1] (fun k_ => some k_ ≠ (.slice (some ad570) x4_1.length co8 : Value).ownBlock) (fun _ => False) rfl rfl ?aP (fun _ hk => hk.elim) ?aF ?aO ?aB ?aS ?aL ?_; (case aP => exact rfl); (case aB => exact hb_); (case aF => exact (fun k_ hk => Kd.fresh' (Kd.R_lt (kr_ HO_4)) k_ hk)); (case aO => exact (by (with_reducible repeat (first | apply Kd.R_alloc | apply Kd.R_drewN | apply Kd.R_drew)); exact Kd.R_mono HO579.out (fun _ hk => hk.2))); (case aS => exact (below_size hb_)); (case aL => have := LMc21.out; omega); intro v581 w27 ho hb hg hat; rw [← Ny580.out] at ho; have n0_ := Aside0.mk (Kd.R_after (ok := (fun _ => True)) (kr_ HO_4) hg hat); have n1_ := Aside0.mk (hb); have n2_ := Aside0.mk ((show Kd.C (Kd.int .i64) w27 (some ad570) y573.length y573 from by rw [Ny573.out]; exact Kd.C_take (m := (x6_2 : Int).toNat) ((Kd.R_reads' (Kd.R_after (ok := (fun _ => True)) (kr_ HO_4) hg hat)).2.2) KL25.out)); have n3_ := Aside0.mk (ho); clear HO_4; clear HB; clear HR576; clear HO579; have HO_4 := n0_; have HB := n1_; have HR576 := n2_; have HO582 := n3_; clear n0_ n1_ n2_ n3_; clear ho hb hg hat; have q28 : (x6_2 : Int) ≤ ((x4_1.length : Int) : Int) := od_; obtain ⟨i028, hi028, _, hsz28, _⟩ := info_parts info2; have hroom28 : x4_1.length ≤ co8 := (Kd.R_reads' HO_4.out).2.1; have hC28 : Kd.C (Kd.int .i64) _ (some ad570) x4_1.length x4_1 := (Kd.R_reads' HO_4.out).2.2; have q028 : (0 : Int) ≤ (x6_2 : Int) := od_; have hcut28 := cut_from (P := Try.prog) 37 2 .i64 Try.underlying37 hi028 1 hsz28 (some ad570) x4_1.length co8 x6_2 q028 q28; have hr28 := Kd.C_drop (m := (x6_2 : Int).toNat) (c := co8) hC28 (by omega) hroom28; obtain ⟨A28, hA28⟩ : ∃ Az_, Az_ = (if co8 = (x6_2 : Int).toNat then (some ad570) else ((some ad570) : Option Addr).map (·.add ((x6_2 : Int).toNat * 1))) := ⟨_, rfl⟩; obtain ⟨c28, hc28⟩ : ∃ cz_, cz_ = co8 - (x6_2 : Int).toNat := ⟨_, rfl⟩; have hy28 : y583.length = x4_1.length - (x6_2 : Int).toNat := (by rw [Ny583.out, List.length_drop] <;> omega); rw [show (x4_1).drop (x6_2 : Int).toNat = y583 from Ny583.out.symm] at hr28; replace hr28 : Kd.C (Kd.int .i64) _ A28 y583.length y583 := (by rw [hA28]; exact hr28); rw [← hy28, ← hA28, ← hc28] at hcut28; have HR586 := Aside0.mk hr28; have HC586 := Aside0.mk (show y583.length ≤ c28 from by rw [hy28, hc28]; exact Nat.sub_le_sub_right hroom28 _); clear hr28 hC28 hroom28 hi028 hsz28 hc28; have KY28 := Aside0.mk hy28; have KA28 := Aside0.mk hA28; clear hy28 hA28; have KL28 := Aside0.mk (show (x6_2 : Int).toNat ≤ x4_1.length from by omega); replace q28 := eq_true q28) | ((with_reducible refine gate_builtin (b := .append) (xs := #[.tmp 48, .tmp 51]) rfl ?_); at_builtin; refine Kd.R_append_rows (Kd.int .i64) (w0 := w) w.heap.size rfl (.tmp 48) (.tmp 51) 37 2 (.int .i64 0) 8 rfl Try.underlying37 info2 rfl (by decide) (by omega) v581 y580 y583 _ _ _ (fun k_ => some k_ ≠ (.slice (some ad570) x4_1.length co8 : Value).ownBlock) (fun _ => False) rfl rfl ?aO ?aR (fun _ _ h => h) (fun _ h => h.elim) ?aF ?aB ?aS ?aL ?_; (case aR => repeat (first | exact (by repeat (first | (with_reducible exact HR586.out) | (with_reducible refine Kd.C_alloc ?_ _) | (with_reducible refine Kd.C_drewN ?_ _) | (with_reducible refine Kd.C_drew ?_) | exact HR586.out)) | (with_reducible refine Kd.C_alloc ?_ _) | (with_reducible refine Kd.C_drewN ?_ _) | (with_reducible refine Kd.C_drew ?_))); (case aB => exact hb_); (case aF => exact (fun k_ hk => Kd.fresh' (Kd.R_lt (kr_ HO_4)) k_ hk)); (case aO => exact (kr_ HO582)); (case aS => exact (below_size hb_)); (case aL => have := LMc24.out; omega); intro v588 w29 ho hb hg hat; rw [← Ny587.out] at ho; have n0_ := Aside0.mk (Kd.R_after (ok := (fun _ => True)) (kr_ HO_4) hg hat); have n1_ := Aside0.mk (hb); have n2_ := Aside0.mk ((show Kd.C (Kd.int .i64) w29 (some ad570) y573.length y573 from by rw [Ny573.out]; exact Kd.C_take (m := (x6_2 : Int).toNat) ((Kd.R_reads' (Kd.R_after (ok := (fun _ => True)) (kr_ HO_4) hg hat)).2.2) KL25.out)); have n3_ := Aside0.mk ((show Kd.C (Kd.int .i64) w29 A28 y583.length y583 from by rw [Ny583.out, KA28.out]; exact Kd.C_drop (m := (x6_2 : Int).toNat) (c := co8) ((Kd.R_reads' (Kd.R_after (ok := (fun _ => True)) (kr_ HO_4) hg hat)).2.2) KL28.out ((Kd.R_reads' (Kd.R_after (ok := (fun _ => True)) (kr_ HO_4) hg hat)).2.1))); have n4_ := Aside0.mk (ho); clear HO_4; clear HB; clear HR576; clear HR586; clear HO582; have HO_4 := n0_; have HB := n1_; have HR576 := n2_; have HR586 := n3_; have HO589 := n4_; clear n0_ n1_ n2_ n3_ n4_; clear ho hb hg hat)))
                   go_roundg k2
                   case measure => have := HK1.out; have := HK2.out; omega
                   case rel => exact ⟨(y587), (wrap64 (x5_1 + 1)), (by first | rfl | (simp; done) | (simp [*]; done)), H', ⟨by have := HK1.out; have := HK2.out; omega⟩, ⟨by (with_reducible repeat (first | apply Kd.R_alloc | apply Kd.R_drewN | apply Kd.R_drew)); exact Kd.R_mono HO589.out (fun _ hk => trivial)⟩, ⟨hb_⟩⟩
                  ·rw [if_neg c24] at H
                   exact absurd H (by simp)
                 ·rw [if_neg c21] at H
                  exact absurd H (by simp)
                ·rw [if_neg c19] at H
                 exact absurd H (by simp)
               ·rw [if_neg c18] at H
                exact absurd H (by simp)
             ·rw [if_neg c16] at H
              exact absurd H (by simp)
            ·rw [if_neg c15] at H
             exact absurd H (by simp)
           ·rw [if_neg c14] at H
            exact absurd H (by simp)
          ·rw [if_neg c13] at H
           exact absurd H (by simp)
         ·rw [if_neg c12] at H
          exact absurd H (by simp)
        ·rw [if_neg c11] at H
         exact absurd H (by simp)
       ·rw [if_neg c9] at H
        have c9b0 : decide (0 < x6_2) = false := decide_eq_false c9
        clear c9
        by_cases c30 : 0 ≤ x6_2
        ·rw [if_pos c30] at H
         have c30b0 := eq_true c30
         have c30b1 : decide (0 ≤ x6_2) = true := decide_eq_true c30
         clear c30
         by_cases c31 : x6_2 ≤ (x4_1.length : Int)
         ·rw [if_pos c31] at H
          have c31b0 := eq_true c31
          have c31b1 : decide (x6_2 ≤ (x4_1.length : Int)) = true := decide_eq_true c31
          clear c31
          obtain ⟨y590, hy590⟩ : ∃ y_ : List Int, y_ = (x4_1.take (x6_2 : Int).toNat) := ⟨_, rfl⟩
          replace H : ((spec_l00Own.f y590).bind fun t594 => (if t594.length < 17592186044416 then ((some (t594 ++ [x5_1] : List Int)).bind fun y597 => ((some (x4_1.drop (x6_2 : Int).toNat : List Int)).bind fun y600 => (if y597.length + y600.length < 17592186044416 then (spec_OrderByDue.l0 k2 l0 (y597 ++ y600) (wrap64 (x5_1 + 1))) else (none)))) else (none))) = some (r1, r2) := by first | (rw [hy590]; with_reducible exact H) | (have H2_ := (Option.bind_some _ _).symm.trans H; rw [hy590]; with_reducible exact H2_) | (have H2_ := (Option.bind_some _ _).symm.trans H; with_reducible exact H2_) | with_reducible exact H | (rw [hy590]; exact H) | exact H
          have Ny590 := Aside0.mk hy590
          clear hy590
          replace H := Option.bind_eq_some_iff.mp H
          obtain ⟨t594, A320, H⟩ := H
          replace H : (if t594.length < 17592186044416 then ((some (t594 ++ [x5_1] : List Int)).bind fun y597 => ((some (x4_1.drop (x6_2 : Int).toNat : List Int)).bind fun y600 => (if y597.length + y600.length < 17592186044416 then (spec_OrderByDue.l0 k2 l0 (y597 ++ y600) (wrap64 (x5_1 + 1))) else (none)))) else (none)) = some (r1, r2) := H
          have A32 := Aside0.mk A320
          clear A320
          by_cases c33 : t594.length < 17592186044416
          ·rw [if_pos c33] at H
           have LMc33 := Aside0.mk c33
           clear c33
           obtain ⟨y597, hy597⟩ : ∃ y_ : List Int, y_ = (t594 ++ [x5_1]) := ⟨_, rfl⟩
           replace H : ((some (x4_1.drop (x6_2 : Int).toNat : List Int)).bind fun y600 => (if y597.length + y600.length < 17592186044416 then (spec_OrderByDue.l0 k2 l0 (y597 ++ y600) (wrap64 (x5_1 + 1))) else (none))) = some (r1, r2) := by first | (rw [hy597]; with_reducible exact H) | (have H2_ := (Option.bind_some _ _).symm.trans H; rw [hy597]; with_reducible exact H2_) | (have H2_ := (Option.bind_some _ _).symm.trans H; with_reducible exact H2_) | with_reducible exact H | (rw [hy597]; exact H) | exact H
           have Ny597 := Aside0.mk hy597
           clear hy597
           have c34b0 := eq_true (od_ : 0 ≤ x6_2)
           have c35b0 := eq_true (od_ : x6_2 ≤ (x4_1.length : Int))
           obtain ⟨y600, hy600⟩ : ∃ y_ : List Int, y_ = (x4_1.drop (x6_2 : Int).toNat) := ⟨_, rfl⟩
           replace H : (if y597.length + y600.length < 17592186044416 then (spec_OrderByDue.l0 k2 l0 (y597 ++ y600) (wrap64 (x5_1 + 1))) else (none)) = some (r1, r2) := by first | (rw [hy600]; with_reducible exact H) | (have H2_ := (Option.bind_some _ _).symm.trans H; rw [hy600]; with_reducible exact H2_) | (have H2_ := (Option.bind_some _ _).symm.trans H; with_reducible exact H2_) | with_reducible exact H | (rw [hy600]; exact H) | exact H
           have Ny600 := Aside0.mk hy600
           clear hy600
           by_cases c36 : y597.length + y600.length < 17592186044416
           ·rw [if_pos c36] at H
            have LMc36 := Aside0.mk c36
            clear c36
            obtain ⟨y604, hy604⟩ : ∃ y_ : List Int, y_ = (y597 ++ y600) := ⟨_, rfl⟩
            replace H : (spec_OrderByDue.l0 k2 l0 y604 (wrap64 (x5_1 + 1))) = some (r1, r2) := by first | (rw [hy604]; with_reducible exact H) | (have H2_ := (Option.bind_some _ _).symm.trans H; rw [hy604]; with_reducible exact H2_) | (have H2_ := (Option.bind_some _ _).symm.trans H; with_reducible exact H2_) | with_reducible exact H | (rw [hy604]; exact H) | exact H
            have Ny604 := Aside0.mk hy604
            clear hy604
            have H' := Aside0.mk H
            clear H
            have q37 : (x6_2 : Int) ≤ ((x4_1.length : Int) : Int) := od_
            obtain ⟨i037, hi037, _, hsz37, _⟩ := info_parts info2
            have hroom37 : x4_1.length ≤ co8 := (Kd.R_reads' HO_4.out).2.1
            have hC37 : Kd.C (Kd.int .i64) _ Ao8 x4_1.length x4_1 := (Kd.R_reads' HO_4.out).2.2
            have hcut37 := cut_to (P := Try.prog) 37 2 .i64 Try.underlying37 hi037 Ao8 x4_1.length co8 x6_2 (od_) q37 hroom37
            have hr37 := Kd.C_take (m := (x6_2 : Int).toNat) hC37 (by omega)
            have hy37 : y590.length = (x6_2 : Int).toNat := (by rw [Ny590.out, List.length_take]; omega)
            rw [← Ny590.out] at hr37
            rw [← hy37] at hcut37
            have HR593 := Aside0.mk hr37
            have HC593 := Aside0.mk (show y590.length ≤ co8 from by omega)
            clear hr37 hC37 hroom37 hi037 hsz37
            have KY37 := Aside0.mk hy37
            clear hy37
            have KL37 := Aside0.mk (show (x6_2 : Int).toNat ≤ x4_1.length from by omega)
            replace q37 := eq_true q37
            go_wp2_with (first | (go_at_call 80; (with_reducible refine (spec_l00Own.calls _ _ y590 t594 _ ?side1 ?side2 A32.out).mono ?_); (case side1 => repeat (first | exact (by repeat (first | (with_reducible exact HR593.out) | (with_reducible refine Kd.C_alloc ?_ _) | (with_reducible refine Kd.C_drewN ?_ _) | (with_reducible refine Kd.C_drew ?_) | exact HR593.out)) | (with_reducible refine Kd.C_alloc ?_ _) | (with_reducible refine Kd.C_drewN ?_ _) | (with_reducible refine Kd.C_drew ?_))); (case side2 => exact HC593.out); rintro e w38 ⟨v595, rfl, ho0, hb⟩; have n0_ := Aside0.mk (Kd.R_elder' (kr_ HO_4) (Kd.R_base ho0) hb); have n1_ := Aside0.mk (Kd.R_lower (Kd.R_new' ho0 (Kd.R_lt (kr_ HO_4))) (below_size hb_)); have n2_ := Aside0.mk (Kd.C_below (by repeat (first | (with_reducible exact HR593.out) | (with_reducible refine Kd.C_alloc ?_ _) | (with_reducible refine Kd.C_drewN ?_ _) | (with_reducible refine Kd.C_drew ?_) | exact HR593.out)) hb); have n3_ := Aside0.mk (below_step hb_ hb); clear HO_4; clear HR593; clear HB; have HO_4 := n0_; have HO596 := n1_; have HR593 := n2_; have HB := n3_; clear n0_ n1_ n2_ n3_; (try clear hb); (try clear hb2); (try clear hk); (try clear hi); (try clear ho0)) | ((with_reducible refine gate_builtin (b := .append) (xs := #[.tmp 44, .tmp 46]) rfl ?_); at_builtin; refine Kd.R_append (Kd.int .i64) (w0 := w) w.heap.size rfl (.tmp 44) (.tmp 46) 37 2 (.int .i64 0) 8 rfl Try.underlying37 info2 rfl (by decide) (by omega) v595 t594 x5_1 [.int .i64 x5_1] (fun k_ => some k_ ≠ (.slice Ao8 x4_1.length co8 : Value).ownBlock) (fun _ => False) rfl rfl ?aP (fun _ hk => hk.elim) ?aF ?aO ?aB ?aS ?aL ?_; (case aP => exact rfl); (case aB => exact hb_); (case aF => exact (fun k_ hk => Kd.fresh' (Kd.R_lt (kr_ HO_4)) k_ hk)); (case aO => exact (by (with_reducible repeat (first | apply Kd.R_alloc | apply Kd.R_drewN | apply Kd.R_drew)); exact Kd.R_mono HO596.out (fun _ hk => hk.2))); (case aS => exact (below_size hb_)); (case aL => have := LMc33.out; omega); intro v598 w39 ho hb hg hat; rw [← Ny597.out] at ho; have n0_ := Aside0.mk (Kd.R_after (ok := (fun _ => True)) (kr_ HO_4) hg hat); have n1_ := Aside0.mk (hb); have n2_ := Aside0.mk ((show Kd.C (Kd.int .i64) w39 Ao8 y590.length y590 from by rw [Ny590.out]; exact Kd.C_take (m := (x6_2 : Int).toNat) ((Kd.R_reads' (Kd.R_after (ok := (fun _ => True)) (kr_ HO_4) hg hat)).2.2) KL37.out)); have n3_ := Aside0.mk (ho); clear HO_4; clear HB; clear HR593; clear HO596; have HO_4 := n0_; have HB := n1_; have HR593 := n2_; have HO599 := n3_; clear n0_ n1_ n2_ n3_; clear ho hb hg hat; have q40 : (x6_2 : Int) ≤ ((x4_1.length : Int) : Int) := od_; obtain ⟨i040, hi040, _, hsz40, _⟩ := info_parts info2; have hroom40 : x4_1.length ≤ co8 := (Kd.R_reads' HO_4.out).2.1; have hC40 : Kd.C (Kd.int .i64) _ Ao8 x4_1.length x4_1 := (Kd.R_reads' HO_4.out).2.2; have q040 : (0 : Int) ≤ (x6_2 : Int) := od_; have hcut40 := cut_from (P := Try.prog) 37 2 .i64 Try.underlying37 hi040 1 hsz40 Ao8 x4_1.length co8 x6_2 q040 q40; have hr40 := Kd.C_drop (m := (x6_2 : Int).toNat) (c := co8) hC40 (by omega) hroom40; obtain ⟨A40, hA40⟩ : ∃ Az_, Az_ = (if co8 = (x6_2 : Int).toNat then Ao8 else (Ao8 : Option Addr).map (·.add ((x6_2 : Int).toNat * 1))) := ⟨_, rfl⟩; obtain ⟨c40, hc40⟩ : ∃ cz_, cz_ = co8 - (x6_2 : Int).toNat := ⟨_, rfl⟩; have hy40 : y600.length = x4_1.length - (x6_2 : Int).toNat := (by rw [Ny600.out, List.length_drop] <;> omega); rw [show (x4_1).drop (x6_2 : Int).toNat = y600 from Ny600.out.symm] at hr40; replace hr40 : Kd.C (Kd.int .i64) _ A40 y600.length y600 := (by rw [hA40]; exact hr40); rw [← hy40, ← hA40, ← hc40] at hcut40; have HR603 := Aside0.mk hr40; have HC603 := Aside0.mk (show y600.length ≤ c40 from by rw [hy40, hc40]; exact Nat.sub_le_sub_right hroom40 _); clear hr40 hC40 hroom40 hi040 hsz40 hc40; have KY40 := Aside0.mk hy40; have KA40 := Aside0.mk hA40; clear hy40 hA40; have KL40 := Aside0.mk (show (x6_2 : Int).toNat ≤ x4_1.length from by omega); replace q40 := eq_true q40) | ((with_reducible refine gate_builtin (b := .append) (xs := #[.tmp 48, .tmp 51]) rfl ?_); at_builtin; refine Kd.R_append_rows (Kd.int .i64) (w0 := w) w.heap.size rfl (.tmp 48) (.tmp 51) 37 2 (.int .i64 0) 8 rfl Try.underlying37 info2 rfl (by decide) (by omega) v598 y597 y600 _ _ _ (fun k_ => some k_ ≠ (.slice Ao8 x4_1.length co8 : Value).ownBlock) (fun _ => False) rfl rfl ?aO ?aR (fun _ _ h => h) (fun _ h => h.elim) ?aF ?aB ?aS ?aL ?_; (case aR => repeat (first | exact (by repeat (first | (with_reducible exact HR603.out) | (with_reducible refine Kd.C_alloc ?_ _) | (with_reducible refine Kd.C_drewN ?_ _) | (with_reducible refine Kd.C_drew ?_) | exact HR603.out)) | (with_reducible refine Kd.C_alloc ?_ _) | (with_reducible refine Kd.C_drewN ?_ _) | (with_reducible refine Kd.C_drew ?_))); (case aB => exact hb_); (case aF => exact (fun k_ hk => Kd.fresh' (Kd.R_lt (kr_ HO_4)) k_ hk)); (case aO => exact (kr_ HO599)); (case aS => exact (below_size hb_)); (case aL => have := LMc36.out; omega); intro v605 w41 ho hb hg hat; rw [← Ny604.out] at ho; have n0_ := Aside0.mk (Kd.R_after (ok := (fun _ => True)) (kr_ HO_4) hg hat); have n1_ := Aside0.mk (hb); have n2_ := Aside0.mk ((show Kd.C (Kd.int .i64) w41 Ao8 y590.length y590 from by rw [Ny590.out]; exact Kd.C_take (m := (x6_2 : Int).toNat) ((Kd.R_reads' (Kd.R_after (ok := (fun _ => True)) (kr_ HO_4) hg hat)).2.2) KL37.out)); have n3_ := Aside0.mk ((show Kd.C (Kd.int .i64) w41 A40 y600.length y600 from by rw [Ny600.out, KA40.out]; exact Kd.C_drop (m := (x6_2 : Int).toNat) (c := co8) ((Kd.R_reads' (Kd.R_after (ok := (fun _ => True)) (kr_ HO_4) hg hat)).2.2) KL40.out ((Kd.R_reads' (Kd.R_after (ok := (fun _ => True)) (kr_ HO_4) hg hat)).2.1))); have n4_ := Aside0.mk (ho); clear HO_4; clear HB; clear HR593; clear HR603; clear HO599; have HO_4 := n0_; have HB := n1_; have HR593 := n2_; have HR603 := n3_; have HO606 := n4_; clear n0_ n1_ n2_ n3_ n4_; clear ho hb hg hat))
            repeat (go_quiet (first | (go_at_call 80; (with_reducible refine (spec_l00Own.calls _ _ y590 t594 _ ?side1 ?side2 A32.out).mono ?_); (case side1 => repeat (first | exact (by repeat (first | (with_reducible exact HR593.out) | (with_reducible refine Kd.C_alloc ?_ _) | (with_reducible refine Kd.C_drewN ?_ _) | (with_reducible refine Kd.C_drew ?_) | exact HR593.out)) | (with_reducible refine Kd.C_alloc ?_ _) | (with_reducible refine Kd.C_drewN ?_ _) | (with_reducible refine Kd.C_drew ?_))); (case side2 => exact HC593.out); rintro e w38 ⟨v595, rfl, ho0, hb⟩; have n0_ := Aside0.mk (Kd.R_elder' (kr_ HO_4) (Kd.R_base ho0) hb); have n1_ := Aside0.mk (Kd.R_lower (Kd.R_new' ho0 (Kd.R_lt (kr_ HO_4))) (below_size hb_)); have n2_ := Aside0.mk (Kd.C_below (by repeat (first | (with_reducible exact HR593.out) | (with_reducible refine Kd.C_alloc ?_ _) | (with_reducible refine Kd.C_drewN ?_ _) | (with_reducible refine Kd.C_drew ?_) | exact HR593.out)) hb); have n3_ := Aside0.mk (below_step hb_ hb); clear HO_4; clear HR593; clear HB; have HO_4 := n0_; have HO596 := n1_; have HR593 := n2_; have HB := n3_; clear n0_ n1_ n2_ n3_; (try clear hb); (try clear hb2); (try clear hk); (try clear hi); (try clear ho0)) | ((with_reducible refine gate_builtin (b := .append) (xs := #[.tmp 44, .tmp 46]) rfl ?_); at_builtin; refine Kd.R_append (Kd.int .i64) (w0 := w) w.heap.size rfl (.tmp 44) (.tmp 46) 37 2 (.int .i64 0) 8 rfl Try.underlying37 info2 rfl (by decide) (by omega) v595 t594 x5_1 [.int .i64 x5_1] (fun k_ => some k_ ≠ (.slice Ao8 x4_1.length co8 : Value).ownBlock) (fun _ => False) rfl rfl ?aP (fun _ hk => hk.elim) ?aF ?aO ?aB ?aS ?aL ?_; (case aP => exact rfl); (case aB => exact hb_); (case aF => exact (fun k_ hk => Kd.fresh' (Kd.R_lt (kr_ HO_4)) k_ hk)); (case aO => exact (by (with_reducible repeat (first | apply Kd.R_alloc | apply Kd.R_drewN | apply Kd.R_drew)); exact Kd.R_mono HO596.out (fun _ hk => hk.2))); (case aS => exact (below_size hb_)); (case aL => have := LMc33.out; omega); intro v598 w39 ho hb hg hat; rw [← Ny597.out] at ho; have n0_ := Aside0.mk (Kd.R_after (ok := (fun _ => True)) (kr_ HO_4) hg hat); have n1_ := Aside0.mk (hb); have n2_ := Aside0.mk ((show Kd.C (Kd.int .i64) w39 Ao8 y590.length y590 from by rw [Ny590.out]; exact Kd.C_take (m := (x6_2 : Int).toNat) ((Kd.R_reads' (Kd.R_after (ok := (fun _ => True)) (kr_ HO_4) hg hat)).2.2) KL37.out)); have n3_ := Aside0.mk (ho); clear HO_4; clear HB; clear HR593; clear HO596; have HO_4 := n0_; have HB := n1_; have HR593 := n2_; have HO599 := n3_; clear n0_ n1_ n2_ n3_; clear ho hb hg hat; have q40 : (x6_2 : Int) ≤ ((x4_1.length : Int) : Int) := od_; obtain ⟨i040, hi040, _, hsz40, _⟩ := info_parts info2; have hroom40 : x4_1.length ≤ co8 := (Kd.R_reads' HO_4.out).2.1; have hC40 : Kd.C (Kd.int .i64) _ Ao8 x4_1.length x4_1 := (Kd.R_reads' HO_4.out).2.2; have q040 : (0 : Int) ≤ (x6_2 : Int) := od_; have hcut40 := cut_from (P := Try.prog) 37 2 .i64 Try.underlying37 hi040 1 hsz40 Ao8 x4_1.length co8 x6_2 q040 q40; have hr40 := Kd.C_drop (m := (x6_2 : Int).toNat) (c := co8) hC40 (by omega) hroom40; obtain ⟨A40, hA40⟩ : ∃ Az_, Az_ = (if co8 = (x6_2 : Int).toNat then Ao8 else (Ao8 : Option Addr).map (·.add ((x6_2 : Int).toNat * 1))) := ⟨_, rfl⟩; obtain ⟨c40, hc40⟩ : ∃ cz_, cz_ = co8 - (x6_2 : Int).toNat := ⟨_, rfl⟩; have hy40 : y600.length = x4_1.length - (x6_2 : Int).toNat := (by rw [Ny600.out, List.length_drop] <;> omega); rw [show (x4_1).drop (x6_2 : Int).toNat = y600 from Ny600.out.symm] at hr40; replace hr40 : Kd.C (Kd.int .i64) _ A40 y600.length y600 := (by rw [hA40]; exact hr40); rw [← hy40, ← hA40, ← hc40] at hcut40; have HR603 := Aside0.mk hr40; have HC603 := Aside0.mk (show y600.length ≤ c40 from by rw [hy40, hc40]; exact Nat.sub_le_sub_right hroom40 _); clear hr40 hC40 hroom40 hi040 hsz40 hc40; have KY40 := Aside0.mk hy40; have KA40 := Aside0.mk hA40; clear hy40 hA40; have KL40 := Aside0.mk (show (x6_2 : Int).toNat ≤ x4_1.length from by omega); replace q40 := eq_true q40) | ((with_reducible refine gate_builtin (b := .append) (xs := #[.tmp 48, .tmp 51]) rfl ?_); at_builtin; refine Kd.R_append_rows (Kd.int .i64) (w0 := w) w.heap.size rfl (.tmp 48) (.tmp 51) 37 2 (.int .i64 0) 8 rfl Try.underlying37 info2 rfl (by decide) (by omega) v598 y597 y600 _ _ _ (fun k_ => some k_ ≠ (.slice Ao8 x4_1.length co8 : Value).ownBlock) (fun _ => False) rfl rfl ?aO ?aR (fun _ _ h => h) (fun _ h => h.elim) ?aF ?aB ?aS ?aL ?_; (case aR => repeat (first | exact (by repeat (first | (with_reducible exact HR603.out) | (with_reducible refine Kd.C_alloc ?_ _) | (with_reducible refine Kd.C_drewN ?_ _) | (with_reducible refine Kd.C_drew ?_) | exact HR603.out)) | (with_reducible refine Kd.C_alloc ?_ _) | (with_reducible refine Kd.C_drewN ?_ _) | (with_reducible refine Kd.C_drew ?_))); (case aB => exact hb_); (case aF => exact (fun k_ hk => Kd.fresh' (Kd.R_lt (kr_ HO_4)) k_ hk)); (case aO => exact (kr_ HO599)); (case aS => exact (below_size hb_)); (case aL => have := LMc36.out; omega); intro v605 w41 ho hb hg hat; rw [← Ny604.out] at ho; have n0_ := Aside0.mk (Kd.R_after (ok := (fun _ => True)) (kr_ HO_4) hg hat); have n1_ := Aside0.mk (hb); have n2_ := Aside0.mk ((show Kd.C (Kd.int .i64) w41 Ao8 y590.length y590 from by rw [Ny590.out]; exact Kd.C_take (m := (x6_2 : Int).toNat) ((Kd.R_reads' (Kd.R_after (ok := (fun _ => True)) (kr_ HO_4) hg hat)).2.2) KL37.out)); have n3_ := Aside0.mk ((show Kd.C (Kd.int .i64) w41 A40 y600.length y600 from by rw [Ny600.out, KA40.out]; exact Kd.C_drop (m := (x6_2 : Int).toNat) (c := co8) ((Kd.R_reads' (Kd.R_after (ok := (fun _ => True)) (kr_ HO_4) hg hat)).2.2) KL40.out ((Kd.R_reads' (Kd.R_after (ok := (fun _ => True)) (kr_ HO_4) hg hat)).2.1))); have n4_ := Aside0.mk (ho); clear HO_4; clear HB; clear HR593; clear HR603; clear HO599; have HO_4 := n0_; have HB := n1_; have HR593 := n2_; have HR603 := n3_; have HO606 := n4_; clear n0_ n1_ n2_ n3_ n4_; clear ho hb hg hat)); try go_wp2_with (first | (go_at_call 80; (with_reducible refine (spec_l00Own.calls _ _ y590 t594 _ ?side1 ?side2 A32.out).mono ?_); (case side1 => repeat (first | exact (by repeat (first | (with_reducible exact HR593.out) | (with_reducible refine Kd.C_alloc ?_ _) | (with_reducible refine Kd.C_drewN ?_ _) | (with_reducible refine Kd.C_drew ?_) | exact HR593.out)) | (with_reducible refine Kd.C_alloc ?_ _) | (with_reducible refine Kd.C_drewN ?_ _) | (with_reducible refine Kd.C_drew ?_))); (case side2 => exact HC593.out); rintro e w38 ⟨v595, rfl, ho0, hb⟩; have n0_ := Aside0.mk (Kd.R_elder' (kr_ HO_4) (Kd.R_base ho0) hb); have n1_ := Aside0.mk (Kd.R_lower (Kd.R_new' ho0 (Kd.R_lt (kr_ HO_4))) (below_size hb_)); have n2_ := Aside0.mk (Kd.C_below (by repeat (first | (with_reducible exact HR593.out) | (with_reducible refine Kd.C_alloc ?_ _) | (with_reducible refine Kd.C_drewN ?_ _) | (with_reducible refine Kd.C_drew ?_) | exact HR593.out)) hb); have n3_ := Aside0.mk (below_step hb_ hb); clear HO_4; clear HR593; clear HB; have HO_4 := n0_; have HO596 := n1_; have HR593 := n2_; have HB := n3_; clear n0_ n1_ n2_ n3_; (try clear hb); (try clear hb2); (try clear hk); (try clear hi); (try clear ho0)) | ((with_reducible refine gate_builtin (b := .append) (xs := #[.tmp 44, .tmp 46]) rfl ?_); at_builtin; refine Kd.R_append (Kd.int .i64) (w0 := w) w.heap.size rfl (.tmp 44) (.tmp 46) 37 2 (.int .i64 0) 8 rfl Try.underlying37 info2 rfl (by decide) (by omega) v595 t594 x5_1 [.int .i64 x5_1] (fun k_ => some k_ ≠ (.slice Ao8 x4_1.length co8 : Value).ownBlock) (fun _ => False) rfl rfl ?aP (fun _ hk => hk.elim) ?aF ?aO ?aB ?aS ?aL ?_; (case aP => exact rfl); (case aB => exact hb_); (case aF => exact (fun k_ hk => Kd.fresh' (Kd.R_lt (kr_ HO_4)) k_ hk)); (case aO => exact (by (with_reducible repeat (first | apply Kd.R_alloc | apply Kd.R_drewN | apply Kd.R_drew)); exact Kd.R_mono HO596.out (fun _ hk => hk.2))); (case aS => exact (below_size hb_)); (case aL => have := LMc33.out; omega); intro v598 w39 ho hb hg hat; rw [← Ny597.out] at ho; have n0_ := Aside0.mk (Kd.R_after (ok := (fun _ => True)) (kr_ HO_4) hg hat); have n1_ := Aside0.mk (hb); have n2_ := Aside0.mk ((show Kd.C (Kd.int .i64) w39 Ao8 y590.length y590 from by rw [Ny590.out]; exact Kd.C_take (m := (x6_2 : Int).toNat) ((Kd.R_reads' (Kd.R_after (ok := (fun _ => True)) (kr_ HO_4) hg hat)).2.2) KL37.out)); have n3_ := Aside0.mk (ho); clear HO_4; clear HB; clear HR593; clear HO596; have HO_4 := n0_; have HB := n1_; have HR593 := n2_; have HO599 := n3_; clear n0_ n1_ n2_ n3_; clear ho hb hg hat; have q40 : (x6_2 : Int) ≤ ((x4_1.length : Int) : Int) := od_; obtain ⟨i040, hi040, _, hsz40, _⟩ := info_parts info2; have hroom40 : x4_1.length ≤ co8 := (Kd.R_reads' HO_4.out).2.1; have hC40 : Kd.C (Kd.int .i64) _ Ao8 x4_1.length x4_1 := (Kd.R_reads' HO_4.out).2.2; have q040 : (0 : Int) ≤ (x6_2 : Int) := od_; have hcut40 := cut_from (P := Try.prog) 37 2 .i64 Try.underlying37 hi040 1 hsz40 Ao8 x4_1.length co8 x6_2 q040 q40; have hr40 := Kd.C_drop (m := (x6_2 : Int).toNat) (c := co8) hC40 (by omega) hroom40; obtain ⟨A40, hA40⟩ : ∃ Az_, Az_ = (if co8 = (x6_2 : Int).toNat then Ao8 else (Ao8 : Option Addr).map (·.add ((x6_2 : Int).toNat * 1))) := ⟨_, rfl⟩; obtain ⟨c40, hc40⟩ : ∃ cz_, cz_ = co8 - (x6_2 : Int).toNat := ⟨_, rfl⟩; have hy40 : y600.length = x4_1.length - (x6_2 : Int).toNat := (by rw [Ny600.out, List.length_drop] <;> omega); rw [show (x4_1).drop (x6_2 : Int).toNat = y600 from Ny600.out.symm] at hr40; replace hr40 : Kd.C (Kd.int .i64) _ A40 y600.length y600 := (by rw [hA40]; exact hr40); rw [← hy40, ← hA40, ← hc40] at hcut40; have HR603 := Aside0.mk hr40; have HC603 := Aside0.mk (show y600.length ≤ c40 from by rw [hy40, hc40]; exact Nat.sub_le_sub_right hroom40 _); clear hr40 hC40 hroom40 hi040 hsz40 hc40; have KY40 := Aside0.mk hy40; have KA40 := Aside0.mk hA40; clear hy40 hA40; have KL40 := Aside0.mk (show (x6_2 : Int).toNat ≤ x4_1.length from by omega); replace q40 := eq_true q40) | ((with_reducible refine gate_builtin (b := .append) (xs := #[.tmp 48, .tmp 51]) rfl ?_); at_builtin; refine Kd.R_append_rows (Kd.int .i64) (w0 := w) w.heap.size rfl (.tmp 48) (.tmp 51) 37 2 (.int .i64 0) 8 rfl Try.underlying37 info2 rfl (by decide) (by omega) v598 y597 y600 _ _ _ (fun k_ => some k_ ≠ (.slice Ao8 x4_1.length co8 : Value).ownBlock) (fun _ => False) rfl rfl ?aO ?aR (fun _ _ h => h) (fun _ h => h.elim) ?aF ?aB ?aS ?aL ?_; (case aR => repeat (first | exact (by repeat (first | (with_reducible exact HR603.out) | (with_reducible refine Kd.C_alloc ?_ _) | (with_reducible refine Kd.C_drewN ?_ _) | (with_reducible refine Kd.C_drew ?_) | exact HR603.out)) | (with_reducible refine Kd.C_alloc ?_ _) | (with_reducible refine Kd.C_drewN ?_ _) | (with_reducible refine Kd.C_drew ?_))); (case aB => exact hb_); (case aF => exact (fun k_ hk => Kd.fresh' (Kd.R_lt (kr_ HO_4)) k_ hk)); (case aO => exact (kr_ HO599)); (case aS => exact (below_size hb_)); (case aL => have := LMc36.out; omega); intro v605 w41 ho hb hg hat; rw [← Ny604.out] at ho; have n0_ := Aside0.mk (Kd.R_after (ok := (fun _ => True)) (kr_ HO_4) hg hat); have n1_ := Aside0.mk (hb); have n2_ := Aside0.mk ((show Kd.C (Kd.int .i64) w41 Ao8 y590.length y590 from by rw [Ny590.out]; exact Kd.C_take (m := (x6_2 : Int).toNat) ((Kd.R_reads' (Kd.R_after (ok := (fun _ => True)) (kr_ HO_4) hg hat)).2.2) KL37.out)); have n3_ := Aside0.mk ((show Kd.C (Kd.int .i64) w41 A40 y600.length y600 from by rw [Ny600.out, KA40.out]; exact Kd.C_drop (m := (x6_2 : Int).toNat) (c := co8) ((Kd.R_reads' (Kd.R_after (ok := (fun _ => True)) (kr_ HO_4) hg hat)).2.2) KL40.out ((Kd.R_reads' (Kd.R_after (ok := (fun _ => True)) (kr_ HO_4) hg hat)).2.1))); have n4_ := Aside0.mk (ho); clear HO_4; clear HB; clear HR593; clear HR603; clear HO599; have HO_4 := n0_; have HB := n1_; have HR593 := n2_; have HR603 := n3_; have HO606 := n4_; clear n0_ n1_ n2_ n3_ n4_; clear ho hb hg hat)))
            go_roundg k2
            case measure => have := HK1.out; have := HK2.out; omega
            case rel => exact ⟨(y604), (wrap64 (x5_1 + 1)), (by first | rfl | (simp; done) | (simp [*]; done)), H', ⟨by have := HK1.out; have := HK2.out; omega⟩, ⟨by (with_reducible repeat (first | apply Kd.R_alloc | apply Kd.R_drewN | apply Kd.R_drew)); exact Kd.R_mono HO606.out (fun _ hk => trivial)⟩, ⟨hb_⟩⟩
           ·rw [if_neg c36] at H
            exact absurd H (by simp)
          ·rw [if_neg c33] at H
           exact absurd H (by simp)
         ·rw [if_neg c31] at H
          exact absurd H (by simp)
        ·rw [if_neg c30] at H
         exact absurd H (by simp)
    ·rw [if_neg c7] at H
     have c7b0 : decide (x5_1 < (l0.length : Int)) = false := decide_eq_false c7
     clear c7
     simp only [Option.some.injEq, Prod.mk.injEq] at H
     obtain ⟨rfl, rfl⟩ := H
     go_wp2
     repeat (go_quiet (fail); try go_wp2)
     go_ret2
     exact ⟨_, ew_, by (with_reducible repeat (first | apply Kd.R_alloc | apply Kd.R_drewN | apply Kd.R_drew)); exact HO_4.out, hb_⟩
 ·replace c3 := Bool.eq_false_iff.mpr c3
  subst c3
  have H1 : (some (([] : List Int), 1)) = some (r1, r2) := by rw [if_neg (show ¬ (false = true) by decide)] at H; exact H
  clear H
  have H := H1
  clear H1
  simp only [Option.some.injEq, Prod.mk.injEq] at H
  obtain ⟨rfl, rfl⟩ := H
  go_enter Try.func44, Try.ntmps44
  go_wp2_with (first | (go_at_call 56; (with_reducible refine (spec_l22Ok.calls k _ _ l0 false _ ?side1 ?side2 A2.out).mono ?_); (case side1 => exact kc_ HR0.out); (case side2 => exact HC0.out); rintro e w42 ⟨rfl, hb⟩; have n0_ := Aside0.mk (below_step hb_ hb); clear HB; have HB := n0_; clear n0_; (try clear hb); (try clear hb2); (try clear hk); (try clear hi)))
  repeat (go_quiet (first | (go_at_call 56; (with_reducible refine (spec_l22Ok.calls k _ _ l0 false _ ?side1 ?side2 A2.out).mono ?_); (case side1 => exact kc_ HR0.out); (case side2 => exact HC0.out); rintro e w42 ⟨rfl, hb⟩; have n0_ := Aside0.mk (below_step hb_ hb); clear HB; have HB := n0_; clear n0_; (try clear hb); (try clear hb2); (try clear hk); (try clear hi))); try go_wp2_with (first | (go_at_call 56; (with_reducible refine (spec_l22Ok.calls k _ _ l0 false _ ?side1 ?side2 A2.out).mono ?_); (case side1 => exact kc_ HR0.out); (case side2 => exact HC0.out); rintro e w42 ⟨rfl, hb⟩; have n0_ := Aside0.mk (below_step hb_ hb); clear HB; have HB := n0_; clear n0_; (try clear hb); (try clear hb2); (try clear hk); (try clear hi))))
  go_ret2
  exact ⟨_, ew_, by first | exact Kd.R_nil _ _ _ _ _ | exact Kd.N_nil _ _ _ _ _ | exact Kd.V_nil _ _ _ _ _ | exact Kd.Q_nil _ _ _ _ _ | exact Kd.S_nil _ _ _ _ _, hb_⟩

/-! ### laws_FnExactOrderByDue: function 12 -/
mutual
def laws_FnExactOrderByDue.j0 : Nat → List (S66) → List Int → Int → List (S55) → List Int → Int → Bool → Option (Bool)
 | 0, _, _, _, _, _, _, _ => none
 | k + 1, x0, x4, x5, x6, x7, x8, x40 => if x40 = true then (some false) else ((laws_toRenewalS.f k x0).bind fun t625 => ((laws_eqRenewalS.f k x6 t625).bind fun t628 => (if t628 = true then ((laws_markRenewalS.f k x6 1).bind fun bt629 => (if bt629.1 < 0 then (laws_FnExactOrderByDue.j1 k x0 x4 x5 x7 true) else ((laws_eqInt64S.f k x7 x4).bind fun t631 => (if t631 = true then (laws_FnExactOrderByDue.j1 k x0 x4 x5 x7 (x8 != x5)) else (laws_FnExactOrderByDue.j1 k x0 x4 x5 x7 true))))) else (some false))))
def laws_FnExactOrderByDue.j1 : Nat → List (S66) → List Int → Int → List Int → Bool → Option (Bool)
 | 0, _, _, _, _, _ => none
 | k + 1, x0, x4, x5, x7, x61 => if x61 = true then (some false) else ((laws_markInt64S.f k x7 1).bind fun bt632 => ((laws_heldInt64S.f k bt632.2 1).bind fun t634 => (if t634 < 0 then (some false) else (if t634 = bt632.1 then ((laws_toRenewalS.f k x0).bind fun t635 => ((impl_OrderByDue.f k t635).bind fun bt638 => ((laws_eqInt64S.f k bt638.1 x4).bind fun t642 => (if t642 = true then (laws_FnExactOrderByDue.j2 k bt632.2 bt632.1 (bt638.2 != x5)) else (laws_FnExactOrderByDue.j2 k bt632.2 bt632.1 true))))) else (some false)))))
def laws_FnExactOrderByDue.j2 : Nat → List Int → Int → Bool → Option (Bool)
 | 0, _, _, _ => none
 | k + 1, x7, x10, x87 => if x87 = true then (some false) else ((laws_heldInt64S.f k x7 1).bind fun t643 => (if t643 < 0 then (some false) else (if t643 = x10 then (some true) else (some false))))
end
def laws_FnExactOrderByDue.f (k : Nat) (l0 : List (S66)) : Option (Bool) := (laws_szRenewalS.f k l0 1048576).bind fun t609 => (if t609 < 0 then (some true) else ((laws_toRenewalS.f k l0).bind fun t610 => ((spec_OrderByDue.f k t610).bind fun bt613 => ((laws_toRenewalS.f k l0).bind fun t617 => ((impl_OrderByDue.f k t617).bind fun bt620 => ((laws_eqInt64S.f k bt620.1 bt613.1).bind fun t624 => (if t624 = true then (laws_FnExactOrderByDue.j0 k l0 bt613.1 bt613.2 t617 bt620.1 bt620.2 (bt620.2 != bt613.2)) else (laws_FnExactOrderByDue.j0 k l0 bt613.1 bt613.2 t617 bt620.1 bt620.2 true))))))))
theorem laws_FnExactOrderByDue.mono_l : ∀ k, (∀ y0 y1 y2 y3 y4 y5 y6, LeO (laws_FnExactOrderByDue.j0 k y0 y1 y2 y3 y4 y5 y6) (laws_FnExactOrderByDue.j0 (k + 1) y0 y1 y2 y3 y4 y5 y6)) ∧ (∀ y0 y1 y2 y3 y4, LeO (laws_FnExactOrderByDue.j1 k y0 y1 y2 y3 y4) (laws_FnExactOrderByDue.j1 (k + 1) y0 y1 y2 y3 y4)) ∧ (∀ y0 y1 y2, LeO (laws_FnExactOrderByDue.j2 k y0 y1 y2) (laws_FnExactOrderByDue.j2 (k + 1) y0 y1 y2))
 | 0 => ⟨fun _ _ _ _ _ _ _ r h => by simp [laws_FnExactOrderByDue.j0] at h, fun _ _ _ _ _ r h => by simp [laws_FnExactOrderByDue.j1] at h, fun _ _ _ r h => by simp [laws_FnExactOrderByDue.j2] at h⟩
 | k + 1 => by
  obtain ⟨ih0, ih1, ih2⟩ := laws_FnExactOrderByDue.mono_l k
  refine ⟨?_, ?_, ?_⟩
  ·intro y0 y1 y2 y3 y4 y5 y6
   unfold laws_FnExactOrderByDue.j0
   repeat' first
   | (with_reducible exact ih0 _ _ _ _ _ _ _)
   | (with_reducible exact ih1 _ _ _ _ _)
   | (with_reducible exact ih2 _ _ _)
   | (with_reducible exact impl_OrderByDue.mono _ _)
   | (with_reducible exact laws_eqInt64S.mono _ _ _)
   | (with_reducible exact laws_eqRenewalS.mono _ _ _)
   | (with_reducible exact laws_heldInt64S.mono _ _ _)
   | (with_reducible exact laws_markInt64S.mono _ _ _)
   | (with_reducible exact laws_markRenewalS.mono _ _ _)
   | (with_reducible exact laws_szRenewalS.mono _ _ _)
   | (with_reducible exact laws_toRenewalS.mono _ _)
   | (with_reducible exact spec_OrderByDue.mono _ _)
   | (with_reducible exact LeO.refl _)
   | (with_reducible exact LeO.none _)
   | (with_reducible refine LeO.ite ?_ ?_)
   | (with_reducible refine LeO.bind ?_ (fun _ => ?_))
   | exact ih0 _ _ _ _ _ _ _
   | exact ih1 _ _ _ _ _
   | exact ih2 _ _ _
   | exact impl_OrderByDue.mono _ _
   | exact laws_eqInt64S.mono _ _ _
   | exact laws_eqRenewalS.mono _ _ _
   | exact laws_heldInt64S.mono _ _ _
   | exact laws_markInt64S.mono _ _ _
   | exact laws_markRenewalS.mono _ _ _
   | exact laws_szRenewalS.mono _ _ _
   | exact laws_toRenewalS.mono _ _
   | exact spec_OrderByDue.mono _ _
   | exact LeO.none _
   | refine LeO.ite ?_ ?_
   | refine LeO.bind ?_ (fun _ => ?_)
  ·intro y0 y1 y2 y3 y4
   unfold laws_FnExactOrderByDue.j1
   repeat' first
   | (with_reducible exact ih0 _ _ _ _ _ _ _)
   | (with_reducible exact ih1 _ _ _ _ _)
   | (with_reducible exact ih2 _ _ _)
   | (with_reducible exact impl_OrderByDue.mono _ _)
   | (with_reducible exact laws_eqInt64S.mono _ _ _)
   | (with_reducible exact laws_eqRenewalS.mono _ _ _)
   | (with_reducible exact laws_heldInt64S.mono _ _ _)
   | (with_reducible exact laws_markInt64S.mono _ _ _)
   | (with_reducible exact laws_markRenewalS.mono _ _ _)
   | (with_reducible exact laws_szRenewalS.mono _ _ _)
   | (with_reducible exact laws_toRenewalS.mono _ _)
   | (with_reducible exact spec_OrderByDue.mono _ _)
   | (with_reducible exact LeO.refl _)
   | (with_reducible exact LeO.none _)
   | (with_reducible refine LeO.ite ?_ ?_)
   | (with_reducible refine LeO.bind ?_ (fun _ => ?_))
   | exact ih0 _ _ _ _ _ _ _
   | exact ih1 _ _ _ _ _
   | exact ih2 _ _ _
   | exact impl_OrderByDue.mono _ _
   | exact laws_eqInt64S.mono _ _ _
   | exact laws_eqRenewalS.mono _ _ _
   | exact laws_heldInt64S.mono _ _ _
   | exact laws_markInt64S.mono _ _ _
   | exact laws_markRenewalS.mono _ _ _
   | exact laws_szRenewalS.mono _ _ _
   | exact laws_toRenewalS.mono _ _
   | exact spec_OrderByDue.mono _ _
   | exact LeO.none _
   | refine LeO.ite ?_ ?_
   | refine LeO.bind ?_ (fun _ => ?_)
  ·intro y0 y1 y2
   unfold laws_FnExactOrderByDue.j2
   repeat' first
   | (with_reducible exact ih0 _ _ _ _ _ _ _)
   | (with_reducible exact ih1 _ _ _ _ _)
   | (with_reducible exact ih2 _ _ _)
   | (with_reducible exact impl_OrderByDue.mono _ _)
   | (with_reducible exact laws_eqInt64S.mono _ _ _)
   | (with_reducible exact laws_eqRenewalS.mono _ _ _)
   | (with_reducible exact laws_heldInt64S.mono _ _ _)
   | (with_reducible exact laws_markInt64S.mono _ _ _)
   | (with_reducible exact laws_markRenewalS.mono _ _ _)
   | (with_reducible exact laws_szRenewalS.mono _ _ _)
   | (with_reducible exact laws_toRenewalS.mono _ _)
   | (with_reducible exact spec_OrderByDue.mono _ _)
   | (with_reducible exact LeO.refl _)
   | (with_reducible exact LeO.none _)
   | (with_reducible refine LeO.ite ?_ ?_)
   | (with_reducible refine LeO.bind ?_ (fun _ => ?_))
   | exact ih0 _ _ _ _ _ _ _
   | exact ih1 _ _ _ _ _
   | exact ih2 _ _ _
   | exact impl_OrderByDue.mono _ _
   | exact laws_eqInt64S.mono _ _ _
   | exact laws_eqRenewalS.mono _ _ _
   | exact laws_heldInt64S.mono _ _ _
   | exact laws_markInt64S.mono _ _ _
   | exact laws_markRenewalS.mono _ _ _
   | exact laws_szRenewalS.mono _ _ _
   | exact laws_toRenewalS.mono _ _
   | exact spec_OrderByDue.mono _ _
   | exact LeO.none _
   | refine LeO.ite ?_ ?_
   | refine LeO.bind ?_ (fun _ => ?_)
theorem laws_FnExactOrderByDue.mono : ∀ a0 k, LeO (laws_FnExactOrderByDue.f k a0) (laws_FnExactOrderByDue.f (k + 1) a0) := by
 intro a0 k
 obtain ⟨ih0, ih1, ih2⟩ := laws_FnExactOrderByDue.mono_l k
 unfold laws_FnExactOrderByDue.f
 repeat' first
   | (with_reducible exact ih0 _ _ _ _ _ _ _)
   | (with_reducible exact ih1 _ _ _ _ _)
   | (with_reducible exact ih2 _ _ _)
   | (with_reducible exact impl_OrderByDue.mono _ _)
   | (with_reducible exact laws_eqInt64S.mono _ _ _)
   | (with_reducible exact laws_eqRenewalS.mono _ _ _)
   | (with_reducible exact laws_heldInt64S.mono _ _ _)
   | (with_reducible exact laws_markInt64S.mono _ _ _)
   | (with_reducible exact laws_markRenewalS.mono _ _ _)
   | (with_reducible exact laws_szRenewalS.mono _ _ _)
   | (with_reducible exact laws_toRenewalS.mono _ _)
   | (with_reducible exact spec_OrderByDue.mono _ _)
   | (with_reducible exact LeO.refl _)
   | (with_reducible exact LeO.none _)
   | (with_reducible refine LeO.ite ?_ ?_)
   | (with_reducible refine LeO.bind ?_ (fun _ => ?_))
   | exact ih0 _ _ _ _ _ _ _
   | exact ih1 _ _ _ _ _
   | exact ih2 _ _ _
   | exact impl_OrderByDue.mono _ _
   | exact laws_eqInt64S.mono _ _ _
   | exact laws_eqRenewalS.mono _ _ _
   | exact laws_heldInt64S.mono _ _ _
   | exact laws_markInt64S.mono _ _ _
   | exact laws_markRenewalS.mono _ _ _
   | exact laws_szRenewalS.mono _ _ _
   | exact laws_toRenewalS.mono _ _
   | exact spec_OrderByDue.mono _ _
   | exact LeO.none _
   | refine LeO.ite ?_ ?_
   | refine LeO.bind ?_ (fun _ => ?_)
set_option maxHeartbeats 8000000 in
set_option maxRecDepth 100000 in
theorem laws_FnExactOrderByDue.calls (k : Nat) (A0 : Option Addr) (c0 : Nat) (l0 : List (S66)) (r : Bool) (w : World) (hr0 : Kd.C k66 w A0 l0.length l0) (hc0 : l0.length ≤ c0) (h : laws_FnExactOrderByDue.f k l0 = some r) :
  Calls Try.prog 12 #[.slice A0 l0.length c0] w fun e w' => e = .returned (.bool r) ∧ Below w.heap.size w w' := by
 have HR0 := Aside0.mk hr0
 have HC0 := Aside0.mk hc0
 clear hr0 hc0
 have HB := Aside0.mk (Below.refl w.heap.size w)
 have H : ((laws_szRenewalS.f k l0 1048576).bind fun t609 => (if t609 < 0 then (some true) else ((laws_toRenewalS.f k l0).bind fun t610 => ((spec_OrderByDue.f k t610).bind fun bt613 => ((laws_toRenewalS.f k l0).bind fun t617 => ((impl_OrderByDue.f k t617).bind fun bt620 => ((laws_eqInt64S.f k bt620.1 bt613.1).bind fun t624 => (if t624 = true then (laws_FnExactOrderByDue.j0 k l0 bt613.1 bt613.2 t617 bt620.1 bt620.2 (bt620.2 != bt613.2)) else (laws_FnExactOrderByDue.j0 k l0 bt613.1 bt613.2 t617 bt620.1 bt620.2 true))))))))) = some r := h
 clear h
 replace H := Option.bind_eq_some_iff.mp H
 obtain ⟨t609, A20, H⟩ := H
 replace H : (if t609 < 0 then (some true) else ((laws_toRenewalS.f k l0).bind fun t610 => ((spec_OrderByDue.f k t610).bind fun bt613 => ((laws_toRenewalS.f k l0).bind fun t617 => ((impl_OrderByDue.f k t617).bind fun bt620 => ((laws_eqInt64S.f k bt620.1 bt613.1).bind fun t624 => (if t624 = true then (laws_FnExactOrderByDue.j0 k l0 bt613.1 bt613.2 t617 bt620.1 bt620.2 (bt620.2 != bt613.2)) else (laws_FnExactOrderByDue.j0 k l0 bt613.1 bt613.2 t617 bt620.1 bt620.2 true)))))))) = some r := H
 have A2 := Aside0.mk A20
 clear A20
 by_cases c3 : t609 < 0
 ·rw [if_pos c3] at H
  have c3b0 : decide (t609 < 0) = true := decide_eq_true c3
  clear c3
  obtain rfl := Option.some.inj H
  go_enter Try.func12, Try.ntmps12
  go_wp2_with (first | ((with_reducible refine gate_callee (f := 20) rfl ?_); refine goesL_ (some 16) rfl rfl Try.func20 (by kernel_rfl) rfl #[.slice A0 l0.length c0, .int .i64 1048576] rfl ln_ ?_; (with_reducible refine (laws_szRenewalS.calls k _ _ l0 1048576 t609 _ ?side1 ?side2 A2.out).mono ?_); (case side1 => exact kc_ HR0.out); (case side2 => exact HC0.out); rintro e w4 ⟨rfl, hb⟩; refine ⟨_, rfl, ?_⟩; have n0_ := Aside0.mk (below_step hb_ hb); clear HB; have HB := n0_; clear n0_; (try clear hb); (try clear hb2); (try clear hk); (try clear hi)))
  go_ret
  exact ⟨ew_, hb_⟩
 ·rw [if_neg c3] at H
  have c3b0 : decide (t609 < 0) = false := decide_eq_false c3
  clear c3
  replace H := Option.bind_eq_some_iff.mp H
  obtain ⟨t610, A50, H⟩ := H
  replace H : ((spec_OrderByDue.f k t610).bind fun bt613 => ((laws_toRenewalS.f k l0).bind fun t617 => ((impl_OrderByDue.f k t617).bind fun bt620 => ((laws_eqInt64S.f k bt620.1 bt613.1).bind fun t624 => (if t624 = true then (laws_FnExactOrderByDue.j0 k l0 bt613.1 bt613.2 t617 bt620.1 bt620.2 (bt620.2 != bt613.2)) else (laws_FnExactOrderByDue.j0 k l0 bt613.1 bt613.2 t617 bt620.1 bt620.2 true)))))) = some r := H
  have A5 := Aside0.mk A50
  clear A50
  replace H := Option.bind_eq_some_iff.mp H
  obtain ⟨⟨t613, t614⟩, A60, H⟩ := H
  replace H : ((laws_toRenewalS.f k l0).bind fun t617 => ((impl_OrderByDue.f k t617).bind fun bt620 => ((laws_eqInt64S.f k bt620.1 t613).bind fun t624 => (if t624 = true then (laws_FnExactOrderByDue.j0 k l0 t613 t614 t617 bt620.1 bt620.2 (bt620.2 != t614)) else (laws_FnExactOrderByDue.j0 k l0 t613 t614 t617 bt620.1 bt620.2 true))))) = some r := H
  have A6 := Aside0.mk A60
  clear A60
  replace H := Option.bind_eq_some_iff.mp H
  obtain ⟨t617, A70, H⟩ := H
  replace H : ((impl_OrderByDue.f k t617).bind fun bt620 => ((laws_eqInt64S.f k bt620.1 t613).bind fun t624 => (if t624 = true then (laws_FnExactOrderByDue.j0 k l0 t613 t614 t617 bt620.1 bt620.2 (bt620.2 != t614)) else (laws_FnExactOrderByDue.j0 k l0 t613 t614 t617 bt620.1 bt620.2 true)))) = some r := H
  have A7 := Aside0.mk A70
  clear A70
  replace H := Option.bind_eq_some_iff.mp H
  obtain ⟨⟨t620, t621⟩, A80, H⟩ := H
  replace H : ((laws_eqInt64S.f k t620 t613).bind fun t624 => (if t624 = true then (laws_FnExactOrderByDue.j0 k l0 t613 t614 t617 t620 t621 (t621 != t614)) else (laws_FnExactOrderByDue.j0 k l0 t613 t614 t617 t620 t621 true))) = some r := H
  have A8 := Aside0.mk A80
  clear A80
  have HC9 := Aside0.mk H
  clear H
  go_enter Try.func12, Try.ntmps12
  go_upto_region 8 with (first | ((with_reducible refine gate_callee (f := 20) rfl ?_); refine goesL_ (some 16) rfl rfl Try.func20 (by kernel_rfl) rfl #[.slice A0 l0.length c0, .int .i64 1048576] rfl ln_ ?_; (with_reducible refine (laws_szRenewalS.calls k _ _ l0 1048576 t609 _ ?side1 ?side2 A2.out).mono ?_); (case side1 => exact kc_ HR0.out); (case side2 => exact HC0.out); rintro e w10 ⟨rfl, hb⟩; refine ⟨_, rfl, ?_⟩; have n0_ := Aside0.mk (below_step hb_ hb); clear HB; have HB := n0_; clear n0_; (try clear hb); (try clear hb2); (try clear hk); (try clear hi)) | ((with_reducible refine gate_callee (f := 22) rfl ?_); refine goesL_ (some 21) rfl rfl Try.func22 (by kernel_rfl) rfl #[.slice A0 l0.length c0] rfl ln_ ?_; (with_reducible refine (laws_toRenewalS.calls k _ _ l0 t610 _ ?side1 ?side2 A5.out).mono ?_); (case side1 => exact kc_ (Kd.C_below HR0.out HB.out)); (case side2 => exact HC0.out); rintro e w11 ⟨v611, rfl, ho0, hb⟩; refine ⟨_, rfl, ?_⟩; have n0_ := Aside0.mk (Kd.R_lower ho0 (below_size hb_)); have n1_ := Aside0.mk (below_step hb_ hb); clear HB; have HO612 := n0_; have HB := n1_; clear n0_ n1_; (try clear hb); (try clear hb2); (try clear hk); (try clear hi); (try clear ho0); obtain ⟨Ao12, co12, eo12⟩ := Kd.R_slice HO612.out; subst eo12) | ((with_reducible refine gate_callee (f := 44) rfl ?_); refine goesL_ (some 22) rfl rfl Try.func44 (by kernel_rfl) rfl #[.slice Ao12 t610.length co12] rfl ln_ ?_; (with_reducible refine (spec_OrderByDue.calls k _ _ t610 t613 t614 _ ?side1 ?side2 A6.out).mono ?_); (case side1 => repeat (first | exact (Kd.R_reads' HO612.out).2.2 | (with_reducible refine Kd.C_alloc ?_ _) | (with_reducible refine Kd.C_drewN ?_ _) | (with_reducible refine Kd.C_drew ?_))); (case side2 => exact (Kd.R_reads' HO612.out).2.1); rintro e w13 ⟨v615, rfl, ho0, hb⟩; refine ⟨_, rfl, ?_⟩; have n0_ := Aside0.mk (Kd.R_below (kr_ HO612) hb); have n1_ := Aside0.mk (Kd.R_lower ho0 (below_size hb_)); have n2_ := Aside0.mk (below_step hb_ hb); clear HO612; clear HB; have HO612 := n0_; have HO616 := n1_; have HB := n2_; clear n0_ n1_ n2_; (try clear hb); (try clear hb2); (try clear hk); (try clear hi); (try clear ho0)) | ((with_reducible refine gate_callee (f := 22) rfl ?_); refine goesL_ (some 26) rfl rfl Try.func22 (by kernel_rfl) rfl #[.slice A0 l0.length c0] rfl ln_ ?_; (with_reducible refine (laws_toRenewalS.calls k _ _ l0 t617 _ ?side1 ?side2 A7.out).mono ?_); (case side1 => exact kc_ (Kd.C_below HR0.out HB.out)); (case side2 => exact HC0.out); rintro e w14 ⟨v618, rfl, ho0, hb⟩; refine ⟨_, rfl, ?_⟩; have n0_ := Aside0.mk (Kd.R_elder' (kr_ HO612) (Kd.R_base ho0) hb); have n1_ := Aside0.mk (Kd.R_below (kr_ HO616) hb); have n2_ := Aside0.mk (Kd.R_lower (Kd.R_new' ho0 (Kd.R_lt (kr_ HO612))) (below_size hb_)); have n3_ := Aside0.mk (below_step hb_ hb); clear HO612; clear HO616; clear HB; have HO612 := n0_; have HO616 := n1_; have HO619 := n2_; have HB := n3_; clear n0_ n1_ n2_ n3_; (try clear hb); (try clear hb2); (try clear hk); (try clear hi); (try clear ho0); obtain ⟨Ao15, co15, eo15⟩ := Kd.R_slice HO619.out; subst eo15) | ((with_reducible refine gate_callee (f := 45) rfl ?_); refine goesL_ (some 29) rfl rfl Try.func45 (by kernel_rfl) rfl #[.slice Ao15 t617.length co15] rfl ln_ ?_; (with_reducible refine (impl_OrderByDue.calls k _ _ t617 t620 t621 _ ?side1 ?side2 A8.out).mono ?_); (case side1 => repeat (first | exact (Kd.R_reads' HO619.out).2.2 | (with_reducible refine Kd.C_alloc ?_ _) | (with_reducible refine Kd.C_drewN ?_ _) | (with_reducible refine Kd.C_drew ?_))); (case side2 => exact (Kd.R_reads' HO619.out).2.1); rintro e w16 ⟨v622, rfl, ho0, hb⟩; refine ⟨_, rfl, ?_⟩; have n0_ := Aside0.mk (Kd.R_below (kr_ HO612) hb); have n1_ := Aside0.mk (Kd.R_elder' (kr_ HO616) (Kd.R_base ho0) hb); have n2_ := Aside0.mk (Kd.R_below (kr_ HO619) hb); have n3_ := Aside0.mk (Kd.R_lower (Kd.R_new' ho0 (Kd.R_lt (kr_ HO616))) (below_size hb_)); have n4_ := Aside0.mk (below_step hb_ hb); clear HO612; clear HO616; clear HO619; clear HB; have HO612 := n0_; have HO616 := n1_; have HO619 := n2_; have HO623 := n3_; have HB := n4_; clear n0_ n1_ n2_ n3_ n4_; (try clear hb); (try clear hb2); (try clear hk); (try clear hi); (try clear ho0)))
  (try simp only [Act.put, List.setIfInBounds_toArray, List.set_cons_zero, List.set_cons_succ])
  go_cut [40] (fun v40 wc => ∃ (kq : Nat) (x40_8 : Bool), v40 = .bool x40_8 ∧ Aside0 (laws_FnExactOrderByDue.j0 kq l0 t613 t614 t617 t620 t621 x40_8 = some r) ∧ Aside0 (kq ≤ k) ∧ Aside0 (Kd.R (Kd.int .i64) 2 wc w.heap.size (fun k_ => some k_ ≠ (v622 : Value).ownBlock) v615 t613) ∧ Aside0 (Kd.R k55 55 wc w.heap.size (fun _ => True) (.slice Ao15 t617.length co15) t617) ∧ Aside0 (Kd.R (Kd.int .i64) 2 wc w.heap.size (fun k_ => some k_ ≠ (v615 : Value).ownBlock) v622 t620) ∧ Aside0 (Below w.heap.size w wc))
  case first =>
   have H := HC9.out
   clear HC9
   replace H := Option.bind_eq_some_iff.mp H
   obtain ⟨t624, A170, H⟩ := H
   replace H : (if t624 = true then (laws_FnExactOrderByDue.j0 k l0 t613 t614 t617 t620 t621 (t621 != t614)) else (laws_FnExactOrderByDue.j0 k l0 t613 t614 t617 t620 t621 true)) = some r := H
   have A17 := Aside0.mk A170
   clear A170
   by_cases c18 : t624 = true
   ·subst c18
    have H1 : (laws_FnExactOrderByDue.j0 k l0 t613 t614 t617 t620 t621 (t621 != t614)) = some r := by rw [if_pos rfl] at H; exact H
    clear H
    have H := H1
    clear H1
    have H' := Aside0.mk H
    clear H
    obtain ⟨Ao19, co19, eo19⟩ := Kd.R_slice HO623.out
    subst eo19
    obtain ⟨Ao20, co20, eo20⟩ := Kd.R_slice HO616.out
    subst eo20
    go_wp2_with (first | ((with_reducible refine gate_callee (f := 30) rfl ?_); refine goesL_ (some 34) rfl rfl Try.func30 (by kernel_rfl) rfl #[.slice Ao19 t620.length co19, .slice Ao20 t613.length co20] rfl ln_ ?_; (with_reducible refine (laws_eqInt64S.calls k _ _ t620 _ _ t613 true _ ?side1 ?side2 ?side3 ?side4 A17.out).mono ?_); (case side1 => repeat (first | exact (Kd.R_reads' HO623.out).2.2 | (with_reducible refine Kd.C_alloc ?_ _) | (with_reducible refine Kd.C_drewN ?_ _) | (with_reducible refine Kd.C_drew ?_))); (case side2 => exact (Kd.R_reads' HO623.out).2.1); (case side3 => repeat (first | exact (Kd.R_reads' HO616.out).2.2 | (with_reducible refine Kd.C_alloc ?_ _) | (with_reducible refine Kd.C_drewN ?_ _) | (with_reducible refine Kd.C_drew ?_))); (case side4 => exact (Kd.R_reads' HO616.out).2.1); rintro e w' ⟨rfl, ⟨nd, rfl⟩⟩; refine ⟨_, rfl, ?_⟩))
    go_meet
    case rel => exact ⟨_, ((t621 != t614)), (by first | rfl | (simp; done) | (simp [*]; done)), H', ⟨by first | omega | exact Nat.le_refl _⟩, ⟨by (with_reducible repeat (first | apply Kd.R_alloc | apply Kd.R_drewN | apply Kd.R_drew)); exact Kd.R_mono HO616.out (fun _ hk => hk.2)⟩, ⟨by (with_reducible repeat (first | apply Kd.R_alloc | apply Kd.R_drewN | apply Kd.R_drew)); exact Kd.R_mono HO619.out (fun _ hk => trivial)⟩, ⟨by (with_reducible repeat (first | apply Kd.R_alloc | apply Kd.R_drewN | apply Kd.R_drew)); exact Kd.R_mono HO623.out (fun _ hk => hk.2)⟩, ⟨hb_⟩⟩
   ·replace c18 := Bool.eq_false_iff.mpr c18
    subst c18
    have H1 : (laws_FnExactOrderByDue.j0 k l0 t613 t614 t617 t620 t621 true) = some r := by rw [if_neg (show ¬ (false = true) by decide)] at H; exact H
    clear H
    have H := H1
    clear H1
    have H' := Aside0.mk H
    clear H
    obtain ⟨Ao21, co21, eo21⟩ := Kd.R_slice HO623.out
    subst eo21
    obtain ⟨Ao22, co22, eo22⟩ := Kd.R_slice HO616.out
    subst eo22
    go_wp2_with (first | ((with_reducible refine gate_callee (f := 30) rfl ?_); refine goesL_ (some 34) rfl rfl Try.func30 (by kernel_rfl) rfl #[.slice Ao21 t620.length co21, .slice Ao22 t613.length co22] rfl ln_ ?_; (with_reducible refine (laws_eqInt64S.calls k _ _ t620 _ _ t613 false _ ?side1 ?side2 ?side3 ?side4 A17.out).mono ?_); (case side1 => repeat (first | exact (Kd.R_reads' HO623.out).2.2 | (with_reducible refine Kd.C_alloc ?_ _) | (with_reducible refine Kd.C_drewN ?_ _) | (with_reducible refine Kd.C_drew ?_))); (case side2 => exact (Kd.R_reads' HO623.out).2.1); (case side3 => repeat (first | exact (Kd.R_reads' HO616.out).2.2 | (with_reducible refine Kd.C_alloc ?_ _) | (with_reducible refine Kd.C_drewN ?_ _) | (with_reducible refine Kd.C_drew ?_))); (case side4 => exact (Kd.R_reads' HO616.out).2.1); rintro e w' ⟨rfl, ⟨nd, rfl⟩⟩; refine ⟨_, rfl, ?_⟩))
    go_meet
    case rel => exact ⟨_, (true), (by first | rfl | (simp; done) | (simp [*]; done)), H', ⟨by first | omega | exact Nat.le_refl _⟩, ⟨by (with_reducible repeat (first | apply Kd.R_alloc | apply Kd.R_drewN | apply Kd.R_drew)); exact Kd.R_mono HO616.out (fun _ hk => hk.2)⟩, ⟨by (with_reducible repeat (first | apply Kd.R_alloc | apply Kd.R_drewN | apply Kd.R_drew)); exact Kd.R_mono HO619.out (fun _ hk => trivial)⟩, ⟨by (with_reducible repeat (first | apply Kd.R_alloc | apply Kd.R_drewN | apply Kd.R_drew)); exact Kd.R_mono HO623.out (fun _ hk => hk.2)⟩, ⟨hb_⟩⟩
  case rest =>
   clear HC9
   try clear c1
   try clear c2
   try clear p2
   try clear c3
   try clear c3b0
   try clear c4
   try clear c12
   try clear c18
   try clear c20
   try clear c22
   obtain ⟨kq, x40_8, rfl, HA, HJ8, HO_4, HO_6, HO_7, HB⟩ := hcut
   cases kq with
   | zero => exact absurd HA.out (by simp [laws_FnExactOrderByDue.j0])
   | succ kj8 =>
    have H := HA.out
    clear HA
    simp only [laws_FnExactOrderByDue.j0] at H
    by_cases c23 : x40_8 = true
    ·subst c23
     have H1 : (some false) = some r := by rw [if_pos rfl] at H; exact H
     clear H
     have H := H1
     clear H1
     obtain rfl := Option.some.inj H
     go_wp2
     go_ret
     exact ⟨ew_, hb_⟩
    ·replace c23 := Bool.eq_false_iff.mpr c23
     subst c23
     have H1 : ((laws_toRenewalS.f kj8 l0).bind fun t625 => ((laws_eqRenewalS.f kj8 t617 t625).bind fun t628 => (if t628 = true then ((laws_markRenewalS.f kj8 t617 1).bind fun bt629 => (if bt629.1 < 0 then (laws_FnExactOrderByDue.j1 kj8 l0 t613 t614 t620 true) else ((laws_eqInt64S.f kj8 t620 t613).bind fun t631 => (if t631 = true then (laws_FnExactOrderByDue.j1 kj8 l0 t613 t614 t620 (t621 != t614)) else (laws_FnExactOrderByDue.j1 kj8 l0 t613 t614 t620 true))))) else (some false)))) = some r := by rw [if_neg (show ¬ (false = true) by decide)] at H; exact H
     clear H
     have H := H1
     clear H1
     replace H := Option.bind_eq_some_iff.mp H
     obtain ⟨t625, A240, H⟩ := H
     replace H : ((laws_eqRenewalS.f kj8 t617 t625).bind fun t628 => (if t628 = true then ((laws_markRenewalS.f kj8 t617 1).bind fun bt629 => (if bt629.1 < 0 then (laws_FnExactOrderByDue.j1 kj8 l0 t613 t614 t620 true) else ((laws_eqInt64S.f kj8 t620 t613).bind fun t631 => (if t631 = true then (laws_FnExactOrderByDue.j1 kj8 l0 t613 t614 t620 (t621 != t614)) else (laws_FnExactOrderByDue.j1 kj8 l0 t613 t614 t620 true))))) else (some false))) = some r := H
     have A24 := Aside0.mk A240
     clear A240
     replace H := Option.bind_eq_some_iff.mp H
     obtain ⟨t628, A250, H⟩ := H
     replace H : (if t628 = true then ((laws_markRenewalS.f kj8 t617 1).bind fun bt629 => (if bt629.1 < 0 then (laws_FnExactOrderByDue.j1 kj8 l0 t613 t614 t620 true) else ((laws_eqInt64S.f kj8 t620 t613).bind fun t631 => (if t631 = true then (laws_FnExactOrderByDue.j1 kj8 l0 t613 t614 t620 (t621 != t614)) else (laws_FnExactOrderByDue.j1 kj8 l0 t613 t614 t620 true))))) else (some false)) = some r := H
     have A25 := Aside0.mk A250
     clear A250
     by_cases c26 : t628 = true
     ·subst c26
      have H1 : ((laws_markRenewalS.f kj8 t617 1).bind fun bt629 => (if bt629.1 < 0 then (laws_FnExactOrderByDue.j1 kj8 l0 t613 t614 t620 true) else ((laws_eqInt64S.f kj8 t620 t613).bind fun t631 => (if t631 = true then (laws_FnExactOrderByDue.j1 kj8 l0 t613 t614 t620 (t621 != t614)) else (laws_FnExactOrderByDue.j1 kj8 l0 t613 t614 t620 true))))) = some r := by rw [if_pos rfl] at H; exact H
      clear H
      have H := H1
      clear H1
      replace H := Option.bind_eq_some_iff.mp H
      obtain ⟨⟨t629, t630⟩, A270, H⟩ := H
      replace H : (if t629 < 0 then (laws_FnExactOrderByDue.j1 kj8 l0 t613 t614 t620 true) else ((laws_eqInt64S.f kj8 t620 t613).bind fun t631 => (if t631 = true then (laws_FnExactOrderByDue.j1 kj8 l0 t613 t614 t620 (t621 != t614)) else (laws_FnExactOrderByDue.j1 kj8 l0 t613 t614 t620 true)))) = some r := H
      have A27 := Aside0.mk A270
      clear A270
      have HC28 := Aside0.mk H
      clear H
      go_upto_region 14 with (first | ((with_reducible refine gate_callee (f := 22) rfl ?_); refine goesL_ (some 43) rfl rfl Try.func22 (by kernel_rfl) rfl #[.slice A0 l0.length c0] rfl ln_ ?_; (with_reducible refine (laws_toRenewalS.calls kj8 _ _ l0 t625 _ ?side1 ?side2 A24.out).mono ?_); (case side1 => exact kc_ (Kd.C_below HR0.out HB.out)); (case side2 => exact HC0.out); rintro e w29 ⟨v626, rfl, ho0, hb⟩; refine ⟨_, rfl, ?_⟩; have n0_ := Aside0.mk (Kd.R_below (kr_ HO_4) hb); have n1_ := Aside0.mk (Kd.R_elder' (kr_ HO_6) (Kd.R_base ho0) hb); have n2_ := Aside0.mk (Kd.R_below (kr_ HO_7) hb); have n3_ := Aside0.mk (Kd.R_lower (Kd.R_new' ho0 (Kd.R_lt (kr_ HO_6))) (below_size hb_)); have n4_ := Aside0.mk (below_step hb_ hb); clear HO_4; clear HO_6; clear HO_7; clear HB; have HO_4 := n0_; have HO_6 := n1_; have HO_7 := n2_; have HO627 := n3_; have HB := n4_; clear n0_ n1_ n2_ n3_ n4_; (try clear hb); (try clear hb2); (try clear hk); (try clear hi); (try clear ho0); obtain ⟨Ao30, co30, eo30⟩ := Kd.R_slice HO627.out; subst eo30) | ((with_reducible refine gate_callee (f := 24) rfl ?_); refine goesL_ (some 44) rfl rfl Try.func24 (by kernel_rfl) rfl #[.slice Ao15 t617.length co15, .slice Ao30 t625.length co30] rfl ln_ ?_; (with_reducible refine (laws_eqRenewalS.calls kj8 _ _ t617 _ _ t625 true _ ?side1 ?side2 ?side3 ?side4 A25.out).mono ?_); (case side1 => repeat (first | exact (Kd.R_reads' HO_6.out).2.2 | (with_reducible refine Kd.C_alloc ?_ _) | (with_reducible refine Kd.C_drewN ?_ _) | (with_reducible refine Kd.C_drew ?_))); (case side2 => exact (Kd.R_reads' HO_6.out).2.1); (case side3 => repeat (first | exact (Kd.R_reads' HO627.out).2.2 | (with_reducible refine Kd.C_alloc ?_ _) | (with_reducible refine Kd.C_drewN ?_ _) | (with_reducible refine Kd.C_drew ?_))); (case side4 => exact (Kd.R_reads' HO627.out).2.1); rintro e w31 ⟨rfl, hb⟩; refine ⟨_, rfl, ?_⟩; have n0_ := Aside0.mk (Kd.R_below (kr_ HO_4) hb); have n1_ := Aside0.mk (Kd.R_below (kr_ HO_6) hb); have n2_ := Aside0.mk (Kd.R_below (kr_ HO_7) hb); have n3_ := Aside0.mk (Kd.R_below (kr_ HO627) hb); have n4_ := Aside0.mk (below_step hb_ hb); clear HO_4; clear HO_6; clear HO_7; clear HO627; clear HB; have HO_4 := n0_; have HO_6 := n1_; have HO_7 := n2_; have HO627 := n3_; have HB := n4_; clear n0_ n1_ n2_ n3_ n4_; (try clear hb); (try clear hb2); (try clear hk); (try clear hi)) | ((with_reducible refine gate_callee (f := 33) rfl ?_); refine goesL_ (some 48) rfl rfl Try.func33 (by kernel_rfl) rfl #[.slice Ao15 t617.length co15, .int .i64 1] rfl ln_ ?_; (with_reducible refine (laws_markRenewalS.calls kj8 (fun k_ => some k_ = (.slice Ao15 t617.length co15 : Value).ownBlock) (.slice Ao15 t617.length co15) t617 1 t629 t630 w _ ?side1 ?side2 A27.out).mono ?_); (case side1 => repeat (first | (with_reducible first | exact HB.out | apply below_alloc | apply pw_below_drewN | apply below_drew1) | exact HB.out)); (case side2 => exact Kd.R_tight rfl HO_6.out); rintro e w32 ⟨rfl, hy0, hb, hkp⟩; refine ⟨_, rfl, ?_⟩; have n0_ := Aside0.mk (Kd.R_mono (ok' := fun k_ => some k_ ≠ (v622 : Value).ownBlock) (Kd.R_keptB ((Kd.R_apart' HO_4.out (Kd.R_typed HO_6.out) (by decide))) hkp (fun k_ hk_ hs_ => (hk_.2) hs_)) (fun k_ hk_ => hk_.1.1)); have n1_ := Aside0.mk (Kd.R_reok rfl hy0 (fun k_ e_ => HO_6.out.1 k_ e_)); have n2_ := Aside0.mk (Kd.R_mono (ok' := fun k_ => some k_ ≠ (v615 : Value).ownBlock) (Kd.R_keptB ((Kd.R_apart' HO_7.out (Kd.R_typed HO_6.out) (by decide))) hkp (fun k_ hk_ hs_ => (hk_.2) hs_)) (fun k_ hk_ => hk_.1.1)); have n3_ := Aside0.mk (Kd.R_mono (ok' := fun k_ => some k_ ≠ (.slice Ao15 t617.length co15 : Value).ownBlock) (Kd.R_keptB (HO627.out) hkp (fun k_ hk_ hs_ => (hk_.2) hs_)) (fun k_ hk_ => hk_.1.2)); have n4_ := Aside0.mk (hb); clear HO_4; clear HO_6; clear HO_7; clear HO627; clear HB; have HO_4 := n0_; have HO_6 := n1_; have HO_7 := n2_; have HO627 := n3_; have HB := n4_; clear n0_ n1_ n2_ n3_ n4_; (try clear hb); (try clear hkp); (try clear hy0)))
      (try simp only [Act.put, List.setIfInBounds_toArray, List.set_cons_zero, List.set_cons_succ])
      go_cut [61] (fun v61 wc => ∃ (kq : Nat) (x61_27 : Bool), v61 = .bool x61_27 ∧ Aside0 (laws_FnExactOrderByDue.j1 kq l0 t613 t614 t620 x61_27 = some r) ∧ Aside0 (kq ≤ kj8) ∧ Aside0 (Kd.R (Kd.int .i64) 2 wc w.heap.size (fun k_ => some k_ ≠ (v622 : Value).ownBlock) v615 t613) ∧ Aside0 (Kd.R (Kd.int .i64) 2 wc w.heap.size (fun k_ => some k_ ≠ (v615 : Value).ownBlock) v622 t620) ∧ Aside0 (Below w.heap.size w wc))
      case first =>
       have H := HC28.out
       clear HC28
       by_cases c33 : t629 < 0
       ·rw [if_pos c33] at H
        have c33b0 : decide (t629 < 0) = true := decide_eq_true c33
        clear c33
        (first | rw [c33b0] | (simp only [i64_w, i32_w]; rw [c33b0]) | skip)
        have H' := Aside0.mk H
        clear H
        go_wp2
        go_meet
        case rel => exact ⟨_, (true), (by first | rfl | (simp; done) | (simp [*]; done)), H', ⟨by have := HJ8.out; first | omega | exact Nat.le_refl _⟩, ⟨by (with_reducible repeat (first | apply Kd.R_alloc | apply Kd.R_drewN | apply Kd.R_drew)); exact HO_4.out⟩, ⟨by (with_reducible repeat (first | apply Kd.R_alloc | apply Kd.R_drewN | apply Kd.R_drew)); exact HO_7.out⟩, ⟨hb_⟩⟩
       ·rw [if_neg c33] at H
        have c33b0 : decide (t629 < 0) = false := decide_eq_false c33
        clear c33
        (first | rw [c33b0] | (simp only [i64_w, i32_w]; rw [c33b0]) | skip)
        replace H := Option.bind_eq_some_iff.mp H
        obtain ⟨t631, A340, H⟩ := H
        replace H : (if t631 = true then (laws_FnExactOrderByDue.j1 kj8 l0 t613 t614 t620 (t621 != t614)) else (laws_FnExactOrderByDue.j1 kj8 l0 t613 t614 t620 true)) = some r := H
        have A34 := Aside0.mk A340
        clear A340
        by_cases c35 : t631 = true
        ·subst c35
         have H1 : (laws_FnExactOrderByDue.j1 kj8 l0 t613 t614 t620 (t621 != t614)) = some r := by rw [if_pos rfl] at H; exact H
         clear H
         have H := H1
         clear H1
         have H' := Aside0.mk H
         clear H
         obtain ⟨Ao36, co36, eo36⟩ := Kd.R_slice HO_7.out
         subst eo36
         obtain ⟨Ao37, co37, eo37⟩ := Kd.R_slice HO_4.out
         subst eo37
         go_wp2_with (first | (go_at_call 30; (with_reducible refine (laws_eqInt64S.calls kj8 _ _ t620 _ _ t613 true _ ?side1 ?side2 ?side3 ?side4 A34.out).mono ?_); (case side1 => repeat (first | exact (Kd.R_reads' HO_7.out).2.2 | (with_reducible refine Kd.C_alloc ?_ _) | (with_reducible refine Kd.C_drewN ?_ _) | (with_reducible refine Kd.C_drew ?_))); (case side2 => exact (Kd.R_reads' HO_7.out).2.1); (case side3 => repeat (first | exact (Kd.R_reads' HO_4.out).2.2 | (with_reducible refine Kd.C_alloc ?_ _) | (with_reducible refine Kd.C_drewN ?_ _) | (with_reducible refine Kd.C_drew ?_))); (case side4 => exact (Kd.R_reads' HO_4.out).2.1); rintro e w' ⟨rfl, ⟨nd, rfl⟩⟩))
         go_meet
         case rel => exact ⟨_, ((t621 != t614)), (by first | rfl | (simp; done) | (simp [*]; done)), H', ⟨by have := HJ8.out; first | omega | exact Nat.le_refl _⟩, ⟨by (with_reducible repeat (first | apply Kd.R_alloc | apply Kd.R_drewN | apply Kd.R_drew)); exact HO_4.out⟩, ⟨by (with_reducible repeat (first | apply Kd.R_alloc | apply Kd.R_drewN | apply Kd.R_drew)); exact HO_7.out⟩, ⟨hb_⟩⟩
        ·replace c35 := Bool.eq_false_iff.mpr c35
         subst c35
         have H1 : (laws_FnExactOrderByDue.j1 kj8 l0 t613 t614 t620 true) = some r := by rw [if_neg (show ¬ (false = true) by decide)] at H; exact H
         clear H
         have H := H1
         clear H1
         have H' := Aside0.mk H
         clear H
         obtain ⟨Ao38, co38, eo38⟩ := Kd.R_slice HO_7.out
         subst eo38
         obtain ⟨Ao39, co39, eo39⟩ := Kd.R_slice HO_4.out
         subst eo39
         go_wp2_with (first | (go_at_call 30; (with_reducible refine (laws_eqInt64S.calls kj8 _ _ t620 _ _ t613 false _ ?side1 ?side2 ?side3 ?side4 A34.out).mono ?_); (case side1 => repeat (first | exact (Kd.R_reads' HO_7.out).2.2 | (with_reducible refine Kd.C_alloc ?_ _) | (with_reducible refine Kd.C_drewN ?_ _) | (with_reducible refine Kd.C_drew ?_))); (case side2 => exact (Kd.R_reads' HO_7.out).2.1); (case side3 => repeat (first | exact (Kd.R_reads' HO_4.out).2.2 | (with_reducible refine Kd.C_alloc ?_ _) | (with_reducible refine Kd.C_drewN ?_ _) | (with_reducible refine Kd.C_drew ?_))); (case side4 => exact (Kd.R_reads' HO_4.out).2.1); rintro e w' ⟨rfl, ⟨nd, rfl⟩⟩))
         go_meet
         case rel => exact ⟨_, (true), (by first | rfl | (simp; done) | (simp [*]; done)), H', ⟨by have := HJ8.out; first | omega | exact Nat.le_refl _⟩, ⟨by (with_reducible repeat (first | apply Kd.R_alloc | apply Kd.R_drewN | apply Kd.R_drew)); exact HO_4.out⟩, ⟨by (with_reducible repeat (first | apply Kd.R_alloc | apply Kd.R_drewN | apply Kd.R_drew)); exact HO_7.out⟩, ⟨hb_⟩⟩
      case rest =>
       clear HC28
       try clear c1
       try clear c2
       try clear p2
       try clear c3
       try clear c3b0
       try clear c4
       try clear c12
       try clear c18
       try clear c20
       try clear c22
       try clear c23
       try clear c24
       try clear c26
       try clear c30
       try clear c33
       try clear c33b0
       try clear c35
       try clear p2
       obtain ⟨kq, x61_27, rfl, HA, HJ27, HO_4, HO_7, HB⟩ := hcut
       cases kq with
       | zero => exact absurd HA.out (by simp [laws_FnExactOrderByDue.j1])
       | succ kj27 =>
        have H := HA.out
        clear HA
        simp only [laws_FnExactOrderByDue.j1] at H
        by_cases c40 : x61_27 = true
        ·subst c40
         have H1 : (some false) = some r := by rw [if_pos rfl] at H; exact H
         clear H
         have H := H1
         clear H1
         obtain rfl := Option.some.inj H
         go_wp2
         go_ret
         exact ⟨ew_, hb_⟩
        ·replace c40 := Bool.eq_false_iff.mpr c40
         subst c40
         have H1 : ((laws_markInt64S.f kj27 t620 1).bind fun bt632 => ((laws_heldInt64S.f kj27 bt632.2 1).bind fun t634 => (if t634 < 0 then (some false) else (if t634 = bt632.1 then ((laws_toRenewalS.f kj27 l0).bind fun t635 => ((impl_OrderByDue.f kj27 t635).bind fun bt638 => ((laws_eqInt64S.f kj27 bt638.1 t613).bind fun t642 => (if t642 = true then (laws_FnExactOrderByDue.j2 kj27 bt632.2 bt632.1 (bt638.2 != t614)) else (laws_FnExactOrderByDue.j2 kj27 bt632.2 bt632.1 true))))) else (some false))))) = some r := by rw [if_neg (show ¬ (false = true) by decide)] at H; exact H
         clear H
         have H := H1
         clear H1
         replace H := Option.bind_eq_some_iff.mp H
         obtain ⟨⟨t632, t633⟩, A410, H⟩ := H
         replace H : ((laws_heldInt64S.f kj27 t633 1).bind fun t634 => (if t634 < 0 then (some false) else (if t634 = t632 then ((laws_toRenewalS.f kj27 l0).bind fun t635 => ((impl_OrderByDue.f kj27 t635).bind fun bt638 => ((laws_eqInt64S.f kj27 bt638.1 t613).bind fun t642 => (if t642 = true then (laws_FnExactOrderByDue.j2 kj27 t633 t632 (bt638.2 != t614)) else (laws_FnExactOrderByDue.j2 kj27 t633 t632 true))))) else (some false)))) = some r := H
         have A41 := Aside0.mk A410
         clear A410
         replace H := Option.bind_eq_some_iff.mp H
         obtain ⟨t634, A420, H⟩ := H
         replace H : (if t634 < 0 then (some false) else (if t634 = t632 then ((laws_toRenewalS.f kj27 l0).bind fun t635 => ((impl_OrderByDue.f kj27 t635).bind fun bt638 => ((laws_eqInt64S.f kj27 bt638.1 t613).bind fun t642 => (if t642 = true then (laws_FnExactOrderByDue.j2 kj27 t633 t632 (bt638.2 != t614)) else (laws_FnExactOrderByDue.j2 kj27 t633 t632 true))))) else (some false))) = some r := H
         have A42 := Aside0.mk A420
         clear A420
         by_cases c43 : t634 < 0
         ·rw [if_pos c43] at H
          have c43b0 : decide (t634 < 0) = true := decide_eq_true c43
          clear c43
          obtain rfl := Option.some.inj H
          obtain ⟨Ao44, co44, eo44⟩ := Kd.R_slice HO_7.out
          subst eo44
          go_wp2_with (first | ((with_reducible refine gate_callee (f := 34) rfl ?_); refine goesL_ (some 64) rfl rfl Try.func34 (by kernel_rfl) rfl #[.slice Ao44 t620.length co44, .int .i64 1] rfl ln_ ?_; (with_reducible refine (laws_markInt64S.calls kj27 (fun k_ => some k_ = (.slice Ao44 t620.length co44 : Value).ownBlock) (.slice Ao44 t620.length co44) t620 1 t632 t633 w _ ?side1 ?side2 A41.out).mono ?_); (case side1 => repeat (first | (with_reducible first | exact HB.out | apply below_alloc | apply pw_below_drewN | apply below_drew1) | exact HB.out)); (case side2 => exact Kd.R_tight rfl HO_7.out); rintro e w45 ⟨rfl, hy0, hb, hkp⟩; refine ⟨_, rfl, ?_⟩; have n0_ := Aside0.mk (Kd.R_mono (ok' := fun k_ => some k_ ≠ (.slice Ao44 t620.length co44 : Value).ownBlock) (Kd.R_keptB (HO_4.out) hkp (fun k_ hk_ hs_ => (hk_) hs_)) (fun k_ hk_ => hk_.1)); have n1_ := Aside0.mk (Kd.R_reok rfl hy0 (fun k_ e_ => HO_7.out.1 k_ e_)); have n2_ := Aside0.mk (hb); clear HO_4; clear HO_7; clear HB; have HO_4 := n0_; have HO_7 := n1_; have HB := n2_; clear n0_ n1_ n2_; (try clear hb); (try clear hkp); (try clear hy0)) | ((with_reducible refine gate_callee (f := 35) rfl ?_); refine goesL_ (some 67) rfl rfl Try.func35 (by kernel_rfl) rfl #[.slice Ao44 t633.length co44, .int .i64 1] rfl (by (try simp only [List.map_toArray, List.map_cons, List.map_nil]); first | done | (rw [show t633.length = t620.length from (Kd.R_reads' HO_7.out).1.symm] <;> rfl) | rfl | (simp only [List.length_drop, List.length_take]; rfl)) ?_; (with_reducible refine (laws_heldInt64S.calls kj27 _ _ t633 1 t634 _ ?side1 ?side2 A42.out).mono ?_); (case side1 => repeat (first | exact (Kd.R_reads' HO_7.out).2.2 | (with_reducible refine Kd.C_alloc ?_ _) | (with_reducible refine Kd.C_drewN ?_ _) | (with_reducible refine Kd.C_drew ?_))); (case side2 => rw [show t633.length = t620.length from (Kd.R_reads' HO_7.out).1.symm]; exact (Kd.R_reads' HO_7.out).2.1); rintro e w' ⟨rfl, ⟨nd, rfl⟩⟩; refine ⟨_, rfl, ?_⟩))
          go_ret
          exact ⟨ew_, hb_⟩
         ·rw [if_neg c43] at H
          have c43b0 : decide (t634 < 0) = false := decide_eq_false c43
          clear c43
          by_cases c46 : t634 = t632
          ·rw [if_pos c46] at H
           have c46b0 : (t634 == t632) = true := beq_iff_eq.mpr c46
           have c46b1 : (t634 != t632) = false := bne_eq_false_iff_eq.mpr c46
           clear c46
           replace H := Option.bind_eq_some_iff.mp H
           obtain ⟨t635, A470, H⟩ := H
           replace H : ((impl_OrderByDue.f kj27 t635).bind fun bt638 => ((laws_eqInt64S.f kj27 bt638.1 t613).bind fun t642 => (if t642 = true then (laws_FnExactOrderByDue.j2 kj27 t633 t632 (bt638.2 != t614)) else (laws_FnExactOrderByDue.j2 kj27 t633 t632 true)))) = some r := H
           have A47 := Aside0.mk A470
           clear A470
           replace H := Option.bind_eq_some_iff.mp H
           obtain ⟨⟨t638, t639⟩, A480, H⟩ := H
           replace H : ((laws_eqInt64S.f kj27 t638 t613).bind fun t642 => (if t642 = true then (laws_FnExactOrderByDue.j2 kj27 t633 t632 (t639 != t614)) else (laws_FnExactOrderByDue.j2 kj27 t633 t632 true))) = some r := H
           have A48 := Aside0.mk A480
           clear A480
           have HC49 := Aside0.mk H
           clear H
           obtain ⟨Ao50, co50, eo50⟩ := Kd.R_slice HO_7.out
           subst eo50
           go_upto_region 25 with (first | ((with_reducible refine gate_callee (f := 34) rfl ?_); refine goesL_ (some 64) rfl rfl Try.func34 (by kernel_rfl) rfl #[.slice Ao50 t620.length co50, .int .i64 1] rfl ln_ ?_; (with_reducible refine (laws_markInt64S.calls kj27 (fun k_ => some k_ = (.slice Ao50 t620.length co50 : Value).ownBlock) (.slice Ao50 t620.length co50) t620 1 t632 t633 w _ ?side1 ?side2 A41.out).mono ?_); (case side1 => repeat (first | (with_reducible first | exact HB.out | apply below_alloc | apply pw_below_drewN | apply below_drew1) | exact HB.out)); (case side2 => exact Kd.R_tight rfl HO_7.out); rintro e w51 ⟨rfl, hy0, hb, hkp⟩; refine ⟨_, rfl, ?_⟩; have n0_ := Aside0.mk (Kd.R_mono (ok' := fun k_ => some k_ ≠ (.slice Ao50 t620.length co50 : Value).ownBlock) (Kd.R_keptB (HO_4.out) hkp (fun k_ hk_ hs_ => (hk_) hs_)) (fun k_ hk_ => hk_.1)); have n1_ := Aside0.mk (Kd.R_reok rfl hy0 (fun k_ e_ => HO_7.out.1 k_ e_)); have n2_ := Aside0.mk (hb); clear HO_4; clear HO_7; clear HB; have HO_4 := n0_; have HO_7 := n1_; have HB := n2_; clear n0_ n1_ n2_; (try clear hb); (try clear hkp); (try clear hy0)) | ((with_reducible refine gate_callee (f := 35) rfl ?_); refine goesL_ (some 67) rfl rfl Try.func35 (by kernel_rfl) rfl #[.slice Ao50 t633.length co50, .int .i64 1] rfl (by (try simp only [List.map_toArray, List.map_cons, List.map_nil]); first | done | (rw [show t633.length = t620.length from (Kd.R_reads' HO_7.out).1.symm] <;> rfl) | rfl | (simp only [List.length_drop, List.length_take]; rfl)) ?_; (with_reducible refine (laws_heldInt64S.calls kj27 _ _ t633 1 t634 _ ?side1 ?side2 A42.out).mono ?_); (case side1 => repeat (first | exact (Kd.R_reads' HO_7.out).2.2 | (with_reducible refine Kd.C_alloc ?_ _) | (with_reducible refine Kd.C_drewN ?_ _) | (with_reducible refine Kd.C_drew ?_))); (case side2 => rw [show t633.length = t620.length from (Kd.R_reads' HO_7.out).1.symm]; exact (Kd.R_reads' HO_7.out).2.1); rintro e w' ⟨rfl, ⟨nd, rfl⟩⟩; refine ⟨_, rfl, ?_⟩) | ((with_reducible refine gate_callee (f := 22) rfl ?_); refine goesL_ (some 75) rfl rfl Try.func22 (by kernel_rfl) rfl #[.slice A0 l0.length c0] rfl ln_ ?_; (with_reducible refine (laws_toRenewalS.calls kj27 _ _ l0 t635 _ ?side1 ?side2 A47.out).mono ?_); (case side1 => exact kc_ (Kd.C_below HR0.out hb_)); (case side2 => exact HC0.out); rintro e w52 ⟨v636, rfl, ho0, hb⟩; refine ⟨_, rfl, ?_⟩; have n0_ := Aside0.mk (Kd.R_below (kr_ HO_4) hb); have n1_ := Aside0.mk (Kd.R_below (kr_ HO_7) hb); have n2_ := Aside0.mk (Kd.R_lower ho0 (below_size hb_)); have n3_ := Aside0.mk (below_step hb_ hb); clear HO_4; clear HO_7; clear HB; have HO_4 := n0_; have HO_7 := n1_; have HO637 := n2_; have HB := n3_; clear n0_ n1_ n2_ n3_; (try clear hb); (try clear hb2); (try clear hk); (try clear hi); (try clear ho0); obtain ⟨Ao53, co53, eo53⟩ := Kd.R_slice HO637.out; subst eo53) | ((with_reducible refine gate_callee (f := 45) rfl ?_); refine goesL_ (some 76) rfl rfl Try.func45 (by kernel_rfl) rfl #[.slice Ao53 t635.length co53] rfl ln_ ?_; (with_reducible refine (impl_OrderByDue.calls kj27 _ _ t635 t638 t639 _ ?side1 ?side2 A48.out).mono ?_); (case side1 => repeat (first | exact (Kd.R_reads' HO637.out).2.2 | (with_reducible refine Kd.C_alloc ?_ _) | (with_reducible refine Kd.C_drewN ?_ _) | (with_reducible refine Kd.C_drew ?_))); (case side2 => exact (Kd.R_reads' HO637.out).2.1); rintro e w54 ⟨v640, rfl, ho0, hb⟩; refine ⟨_, rfl, ?_⟩; have n0_ := Aside0.mk (Kd.R_elder' (kr_ HO_4) (Kd.R_base ho0) hb); have n1_ := Aside0.mk (Kd.R_elder' (kr_ HO_7) (Kd.R_base ho0) hb); have n2_ := Aside0.mk (Kd.R_below (kr_ HO637) hb); have n3_ := Aside0.mk (Kd.R_lower (Kd.R_new' (Kd.R_new' ho0 (Kd.R_lt (kr_ HO_4))) (Kd.R_lt (kr_ HO_7))) (below_size hb_)); have n4_ := Aside0.mk (below_step hb_ hb); clear HO_4; clear HO_7; clear HO637; clear HB; have HO_4 := n0_; have HO_7 := n1_; have HO637 := n2_; have HO641 := n3_; have HB := n4_; clear n0_ n1_ n2_ n3_ n4_; (try clear hb); (try clear hb2); (try clear hk); (try clear hi); (try clear ho0)))
           (try simp only [Act.put, List.setIfInBounds_toArray, List.set_cons_zero, List.set_cons_succ])
           go_cut [87] (fun v87 wc => ∃ (kq : Nat) (x87_48 : Bool), v87 = .bool x87_48 ∧ Aside0 (laws_FnExactOrderByDue.j2 kq t633 t632 x87_48 = some r) ∧ Aside0 (kq ≤ kj27) ∧ Aside0 (Kd.R (Kd.int .i64) 2 wc w.heap.size (fun _ => True) (.slice Ao50 t620.length co50) t633) ∧ Aside0 (Below w.heap.size w wc))
           case first =>
            have H := HC49.out
            clear HC49
            replace H := Option.bind_eq_some_iff.mp H
            obtain ⟨t642, A550, H⟩ := H
            replace H : (if t642 = true then (laws_FnExactOrderByDue.j2 kj27 t633 t632 (t639 != t614)) else (laws_FnExactOrderByDue.j2 kj27 t633 t632 true)) = some r := H
            have A55 := Aside0.mk A550
            clear A550
            by_cases c56 : t642 = true
            ·subst c56
             have H1 : (laws_FnExactOrderByDue.j2 kj27 t633 t632 (t639 != t614)) = some r := by rw [if_pos rfl] at H; exact H
             clear H
             have H := H1
             clear H1
             have H' := Aside0.mk H
             clear H
             obtain ⟨Ao57, co57, eo57⟩ := Kd.R_slice HO641.out
             subst eo57
             obtain ⟨Ao58, co58, eo58⟩ := Kd.R_slice HO_4.out
             subst eo58
             go_wp2_with (first | ((with_reducible refine gate_callee (f := 30) rfl ?_); refine goesL_ (some 81) rfl rfl Try.func30 (by kernel_rfl) rfl #[.slice Ao57 t638.length co57, .slice Ao58 t613.length co58] rfl ln_ ?_; (with_reducible refine (laws_eqInt64S.calls kj27 _ _ t638 _ _ t613 true _ ?side1 ?side2 ?side3 ?side4 A55.out).mono ?_); (case side1 => repeat (first | exact (Kd.R_reads' HO641.out).2.2 | (with_reducible refine Kd.C_alloc ?_ _) | (with_reducible refine Kd.C_drewN ?_ _) | (with_reducible refine Kd.C_drew ?_))); (case side2 => exact (Kd.R_reads' HO641.out).2.1); (case side3 => repeat (first | exact (Kd.R_reads' HO_4.out).2.2 | (with_reducible refine Kd.C_alloc ?_ _) | (with_reducible refine Kd.C_drewN ?_ _) | (with_reducible refine Kd.C_drew ?_))); (case side4 => exact (Kd.R_reads' HO_4.out).2.1); rintro e w' ⟨rfl, ⟨nd, rfl⟩⟩; refine ⟨_, rfl, ?_⟩))
             go_meet
             case rel => exact ⟨_, ((t639 != t614)), (by first | rfl | (simp; done) | (simp [*]; done)), H', ⟨by have := HJ8.out; have := HJ27.out; first | omega | exact Nat.le_refl _⟩, ⟨by (with_reducible repeat (first | apply Kd.R_alloc | apply Kd.R_drewN | apply Kd.R_drew)); exact Kd.R_mono HO_7.out (fun _ hk => trivial)⟩, ⟨hb_⟩⟩
            ·replace c56 := Bool.eq_false_iff.mpr c56
             subst c56
             have H1 : (laws_FnExactOrderByDue.j2 kj27 t633 t632 true) = some r := by rw [if_neg (show ¬ (false = true) by decide)] at H; exact H
             clear H
             have H := H1
             clear H1
             have H' := Aside0.mk H
             clear H
             obtain ⟨Ao59, co59, eo59⟩ := Kd.R_slice HO641.out
             subst eo59
             obtain ⟨Ao60, co60, eo60⟩ := Kd.R_slice HO_4.out
             subst eo60
             go_wp2_with (first | ((with_reducible refine gate_callee (f := 30) rfl ?_); refine goesL_ (some 81) rfl rfl Try.func30 (by kernel_rfl) rfl #[.slice Ao59 t638.length co59, .slice Ao60 t613.length co60] rfl ln_ ?_; (with_reducible refine (laws_eqInt64S.calls kj27 _ _ t638 _ _ t613 false _ ?side1 ?side2 ?side3 ?side4 A55.out).mono ?_); (case side1 => repeat (first | exact (Kd.R_reads' HO641.out).2.2 | (with_reducible refine Kd.C_alloc ?_ _) | (with_reducible refine Kd.C_drewN ?_ _) | (with_reducible refine Kd.C_drew ?_))); (case side2 => exact (Kd.R_reads' HO641.out).2.1); (case side3 => repeat (first | exact (Kd.R_reads' HO_4.out).2.2 | (with_reducible refine Kd.C_alloc ?_ _) | (with_reducible refine Kd.C_drewN ?_ _) | (with_reducible refine Kd.C_drew ?_))); (case side4 => exact (Kd.R_reads' HO_4.out).2.1); rintro e w' ⟨rfl, ⟨nd, rfl⟩⟩; refine ⟨_, rfl, ?_⟩))
             go_meet
             case rel => exact ⟨_, (true), (by first | rfl | (simp; done) | (simp [*]; done)), H', ⟨by have := HJ8.out; have := HJ27.out; first | omega | exact Nat.le_refl _⟩, ⟨by (with_reducible repeat (first | apply Kd.R_alloc | apply Kd.R_drewN | apply Kd.R_drew)); exact Kd.R_mono HO_7.out (fun _ hk => trivial)⟩, ⟨hb_⟩⟩
           case rest =>
            clear HC49
            try clear c1
            try clear c2
            try clear p2
            try clear c3
            try clear c3b0
            try clear c4
            try clear c5
            try clear c12
            try clear c18
            try clear c20
            try clear c22
            try clear c23
            try clear c24
            try clear c26
            try clear c30
            try clear c33
            try clear c33b0
            try clear c34
            try clear c35
            try clear c40
            try clear c43
            try clear c43b0
            try clear c44
            try clear c45
            try clear c46
            try clear c46b0
            try clear c46b1
            try clear c56
            try clear p2
            obtain ⟨kq, x87_48, rfl, HA, HJ48, HO_7, HB⟩ := hcut
            have hl7_48 := (Kd.R_reads' HO_7.out).1
            rw [hl7_48] at HO_7
            (try simp only [hl7_48])
            cases kq with
            | zero => exact absurd HA.out (by simp [laws_FnExactOrderByDue.j2])
            | succ kj48 =>
             have H := HA.out
             clear HA
             simp only [laws_FnExactOrderByDue.j2] at H
             by_cases c61 : x87_48 = true
             ·subst c61
              have H1 : (some false) = some r := by rw [if_pos rfl] at H; exact H
              clear H
              have H := H1
              clear H1
              obtain rfl := Option.some.inj H
              go_wp2
              go_ret
              exact ⟨ew_, hb_⟩
             ·replace c61 := Bool.eq_false_iff.mpr c61
              subst c61
              have H1 : ((laws_heldInt64S.f kj48 t633 1).bind fun t643 => (if t643 < 0 then (some false) else (if t643 = t632 then (some true) else (some false)))) = some r := by rw [if_neg (show ¬ (false = true) by decide)] at H; exact H
              clear H
              have H := H1
              clear H1
              replace H := Option.bind_eq_some_iff.mp H
              obtain ⟨t643, A620, H⟩ := H
              replace H : (if t643 < 0 then (some false) else (if t643 = t632 then (some true) else (some false))) = some r := H
              have A62 := Aside0.mk A620
              clear A620
              by_cases c63 : t643 < 0
              ·rw [if_pos c63] at H
               have c63b0 : decide (t643 < 0) = true := decide_eq_true c63
               clear c63
               obtain rfl := Option.some.inj H
               go_wp2_with (first | ((with_reducible refine gate_callee (f := 35) rfl ?_); refine goesL_ (some 90) rfl rfl Try.func35 (by kernel_rfl) rfl #[.slice Ao50 t633.length co50, .int .i64 1] rfl ln_ ?_; (with_reducible refine (laws_heldInt64S.calls kj48 _ _ t633 1 t643 _ ?side1 ?side2 A62.out).mono ?_); (case side1 => repeat (first | exact (Kd.R_reads' HO_7.out).2.2 | (with_reducible refine Kd.C_alloc ?_ _) | (with_reducible refine Kd.C_drewN ?_ _) | (with_reducible refine Kd.C_drew ?_))); (case side2 => exact (Kd.R_reads' HO_7.out).2.1); rintro e w' ⟨rfl, ⟨nd, rfl⟩⟩; refine ⟨_, rfl, ?_⟩))
               go_ret
               exact ⟨ew_, hb_⟩
              ·rw [if_neg c63] at H
               have c63b0 : decide (t643 < 0) = false := decide_eq_false c63
               clear c63
               by_cases c64 : t643 = t632
               ·rw [if_pos c64] at H
                have c64b0 : (t643 == t632) = true := beq_iff_eq.mpr c64
                have c64b1 : (t643 != t632) = false := bne_eq_false_iff_eq.mpr c64
                clear c64
                obtain rfl := Option.some.inj H
                go_wp2_with (first | ((with_reducible refine gate_callee (f := 35) rfl ?_); refine goesL_ (some 90) rfl rfl Try.func35 (by kernel_rfl) rfl #[.slice Ao50 t633.length co50, .int .i64 1] rfl ln_ ?_; (with_reducible refine (laws_heldInt64S.calls kj48 _ _ t633 1 t643 _ ?side1 ?side2 A62.out).mono ?_); (case side1 => repeat (first | exact (Kd.R_reads' HO_7.out).2.2 | (with_reducible refine Kd.C_alloc ?_ _) | (with_reducible refine Kd.C_drewN ?_ _) | (with_reducible refine Kd.C_drew ?_))); (case side2 => exact (Kd.R_reads' HO_7.out).2.1); rintro e w' ⟨rfl, ⟨nd, rfl⟩⟩; refine ⟨_, rfl, ?_⟩))
                go_ret
                exact ⟨ew_, hb_⟩
               ·rw [if_neg c64] at H
                have c64b0 : (t643 == t632) = false := beq_eq_false_iff_ne.mpr c64
                have c64b1 : (t643 != t632) = true := bne_iff_ne.mpr c64
                obtain rfl := Option.some.inj H
                go_wp2_with (first | ((with_reducible refine gate_callee (f := 35) rfl ?_); refine goesL_ (some 90) rfl rfl Try.func35 (by kernel_rfl) rfl #[.slice Ao50 t633.length co50, .int .i64 1] rfl ln_ ?_; (with_reducible refine (laws_heldInt64S.calls kj48 _ _ t633 1 t643 _ ?side1 ?side2 A62.out).mono ?_); (case side1 => repeat (first | exact (Kd.R_reads' HO_7.out).2.2 | (with_reducible refine Kd.C_alloc ?_ _) | (with_reducible refine Kd.C_drewN ?_ _) | (with_reducible refine Kd.C_drew ?_))); (case side2 => exact (Kd.R_reads' HO_7.out).2.1); rintro e w' ⟨rfl, ⟨nd, rfl⟩⟩; refine ⟨_, rfl, ?_⟩))
                go_ret
                exact ⟨ew_, hb_⟩
          ·rw [if_neg c46] at H
           have c46b0 : (t634 == t632) = false := beq_eq_false_iff_ne.mpr c46
           have c46b1 : (t634 != t632) = true := bne_iff_ne.mpr c46
           obtain rfl := Option.some.inj H
           obtain ⟨Ao65, co65, eo65⟩ := Kd.R_slice HO_7.out
           subst eo65
           go_wp2_with (first | ((with_reducible refine gate_callee (f := 34) rfl ?_); refine goesL_ (some 64) rfl rfl Try.func34 (by kernel_rfl) rfl #[.slice Ao65 t620.length co65, .int .i64 1] rfl ln_ ?_; (with_reducible refine (laws_markInt64S.calls kj27 (fun k_ => some k_ = (.slice Ao65 t620.length co65 : Value).ownBlock) (.slice Ao65 t620.length co65) t620 1 t632 t633 w _ ?side1 ?side2 A41.out).mono ?_); (case side1 => repeat (first | (with_reducible first | exact HB.out | apply below_alloc | apply pw_below_drewN | apply below_drew1) | exact HB.out)); (case side2 => exact Kd.R_tight rfl HO_7.out); rintro e w66 ⟨rfl, hy0, hb, hkp⟩; refine ⟨_, rfl, ?_⟩; have n0_ := Aside0.mk (Kd.R_mono (ok' := fun k_ => some k_ ≠ (.slice Ao65 t620.length co65 : Value).ownBlock) (Kd.R_keptB (HO_4.out) hkp (fun k_ hk_ hs_ => (hk_) hs_)) (fun k_ hk_ => hk_.1)); have n1_ := Aside0.mk (Kd.R_reok rfl hy0 (fun k_ e_ => HO_7.out.1 k_ e_)); have n2_ := Aside0.mk (hb); clear HO_4; clear HO_7; clear HB; have HO_4 := n0_; have HO_7 := n1_; have HB := n2_; clear n0_ n1_ n2_; (try clear hb); (try clear hkp); (try clear hy0)) | ((with_reducible refine gate_callee (f := 35) rfl ?_); refine goesL_ (some 67) rfl rfl Try.func35 (by kernel_rfl) rfl #[.slice Ao65 t633.length co65, .int .i64 1] rfl (by (try simp only [List.map_toArray, List.map_cons, List.map_nil]); first | done | (rw [show t633.length = t620.length from (Kd.R_reads' HO_7.out).1.symm] <;> rfl) | rfl | (simp only [List.length_drop, List.length_take]; rfl)) ?_; (with_reducible refine (laws_heldInt64S.calls kj27 _ _ t633 1 t634 _ ?side1 ?side2 A42.out).mono ?_); (case side1 => repeat (first | exact (Kd.R_reads' HO_7.out).2.2 | (with_reducible refine Kd.C_alloc ?_ _) | (with_reducible refine Kd.C_drewN ?_ _) | (with_reducible refine Kd.C_drew ?_))); (case side2 => rw [show t633.length = t620.length from (Kd.R_reads' HO_7.out).1.symm]; exact (Kd.R_reads' HO_7.out).2.1); rintro e w' ⟨rfl, ⟨nd, rfl⟩⟩; refine ⟨_, rfl, ?_⟩))
           go_ret
           exact ⟨ew_, hb_⟩
     ·replace c26 := Bool.eq_false_iff.mpr c26
      subst c26
      have H1 : (some false) = some r := by rw [if_neg (show ¬ (false = true) by decide)] at H; exact H
      clear H
      have H := H1
      clear H1
      obtain rfl := Option.some.inj H
      go_wp2_with (first | ((with_reducible refine gate_callee (f := 22) rfl ?_); refine goesL_ (some 43) rfl rfl Try.func22 (by kernel_rfl) rfl #[.slice A0 l0.length c0] rfl ln_ ?_; (with_reducible refine (laws_toRenewalS.calls kj8 _ _ l0 t625 _ ?side1 ?side2 A24.out).mono ?_); (case side1 => exact kc_ (Kd.C_below HR0.out HB.out)); (case side2 => exact HC0.out); rintro e w67 ⟨v626, rfl, ho0, hb⟩; refine ⟨_, rfl, ?_⟩; have n0_ := Aside0.mk (Kd.R_below (kr_ HO_4) hb); have n1_ := Aside0.mk (Kd.R_elder' (kr_ HO_6) (Kd.R_base ho0) hb); have n2_ := Aside0.mk (Kd.R_below (kr_ HO_7) hb); have n3_ := Aside0.mk (Kd.R_lower (Kd.R_new' ho0 (Kd.R_lt (kr_ HO_6))) (below_size hb_)); have n4_ := Aside0.mk (below_step hb_ hb); clear HO_4; clear HO_6; clear HO_7; clear HB; have HO_4 := n0_; have HO_6 := n1_; have HO_7 := n2_; have HO627 := n3_; have HB := n4_; clear n0_ n1_ n2_ n3_ n4_; (try clear hb); (try clear hb2); (try clear hk); (try clear hi); (try clear ho0); obtain ⟨Ao68, co68, eo68⟩ := Kd.R_slice HO627.out; subst eo68) | ((with_reducible refine gate_callee (f := 24) rfl ?_); refine goesL_ (some 44) rfl rfl Try.func24 (by kernel_rfl) rfl #[.slice Ao15 t617.length co15, .slice Ao68 t625.length co68] rfl ln_ ?_; (with_reducible refine (laws_eqRenewalS.calls kj8 _ _ t617 _ _ t625 false _ ?side1 ?side2 ?side3 ?side4 A25.out).mono ?_); (case side1 => repeat (first | exact (Kd.R_reads' HO_6.out).2.2 | (with_reducible refine Kd.C_alloc ?_ _) | (with_reducible refine Kd.C_drewN ?_ _) | (with_reducible refine Kd.C_drew ?_))); (case side2 => exact (Kd.R_reads' HO_6.out).2.1); (case side3 => repeat (first | exact (Kd.R_reads' HO627.out).2.2 | (with_reducible refine Kd.C_alloc ?_ _) | (with_reducible refine Kd.C_drewN ?_ _) | (with_reducible refine Kd.C_drew ?_))); (case side4 => exact (Kd.R_reads' HO627.out).2.1); rintro e w69 ⟨rfl, hb⟩; refine ⟨_, rfl, ?_⟩; have n0_ := Aside0.mk (Kd.R_below (kr_ HO_4) hb); have n1_ := Aside0.mk (Kd.R_below (kr_ HO_6) hb); have n2_ := Aside0.mk (Kd.R_below (kr_ HO_7) hb); have n3_ := Aside0.mk (Kd.R_below (kr_ HO627) hb); have n4_ := Aside0.mk (below_step hb_ hb); clear HO_4; clear HO_6; clear HO_7; clear HO627; clear HB; have HO_4 := n0_; have HO_6 := n1_; have HO_7 := n2_; have HO627 := n3_; have HB := n4_; clear n0_ n1_ n2_ n3_ n4_; (try clear hb); (try clear hb2); (try clear hk); (try clear hi)))
      go_ret
      exact ⟨ew_, hb_⟩

end Go.Proofs.Ytkegmjebkikniaa.P
