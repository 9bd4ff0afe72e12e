/- Texts of this claim, packed: Px4. -/
import Derived.Test.YtfenjlkopofopaaZFnWear5
section
-- Written by gprint.py (own program, over the printer of the kit) out of the translation. Lean checks it.
namespace Go.Proofs.Ytfenjlkopofopaa.P
open Go.RowKit Go.Proofs.YtfenjlkopofopaaW.PrintWords Go.Proofs.YtfenjlkopofopaaW.PrintLast Go.Proofs.YtfenjlkopofopaaW.PrintMore Go.Proofs.YtfenjlkopofopaaW.Pk
open Bool renaming true → T_, false → F_
open List renaming setIfInBounds_toArray → sT_, set_cons_zero → s0_, set_cons_succ → sS_
attribute [local go_sem] max2_int min2_int max_two min_two max_three min_three max_four min_four   -- for this text's walks alone
set_option linter.unusedVariables false
set_option linter.unusedSimpArgs false

/-! ### impl_isCheck: function 128 -/
def impl_isCheck.f (l0 : List (S72)) (a1_0 : ByteArray) (a1_1 : Int) (a1_2 : Int) : Option (Bool) := (impl_gearNamed.f l0 a1_0).bind fun t412 => (if t412 ≥ 0 then (if 0 ≤ t412 then (if t412 < (l0.length : Int) then ((impl_within.f a1_1 ((rd_T72 l0 t412).f1) 20000).bind fun t414 => (if t414 = true then ((impl_within.f a1_2 0 1000000).bind fun t415 => (some t415)) else (some false))) else (none)) else (none)) else (some false))
set_option maxHeartbeats 8000000 in
set_option maxRecDepth 100000 in
theorem impl_isCheck.calls (A0 : Option Addr) (c0 : Nat) (l0 : List (S72)) (a1_0 : ByteArray) (a1_1 : Int) (a1_2 : Int) (r : Bool) (w : World) (hr0 : Kd.C k72 w A0 l0.length l0) (hc0 : l0.length ≤ c0) (h : impl_isCheck.f l0 a1_0 a1_1 a1_2 = some r) :
  Calls Try.prog 128 #[.slice A0 l0.length c0, .agg #[.string a1_0, .int .i64 a1_1, .int .i64 a1_2]] w fun e w' => e = .returned (.bool r) ∧ Below w.heap.size w w' := by
 have hu75 := Try.underlying75
 have HR0 := ak_ hr0
 have HC0 := ak_ hc0
 clear hr0 hc0
 have HB := ak_ (Below.refl w.heap.size w)
 have H : ((impl_gearNamed.f l0 a1_0).bind fun t412 => (if t412 ≥ 0 then (if 0 ≤ t412 then (if t412 < (l0.length : Int) then ((impl_within.f a1_1 ((rd_T72 l0 t412).f1) 20000).bind fun t414 => (if t414 = true then ((impl_within.f a1_2 0 1000000).bind fun t415 => (some t415)) else (some false))) else (none)) else (none)) else (some false))) = some r := h
 clear h
 replace H := ob_ H
 obtain ⟨t412, A30, H⟩ := H
 replace H : (if t412 ≥ 0 then (if 0 ≤ t412 then (if t412 < (l0.length : Int) then ((impl_within.f a1_1 ((rd_T72 l0 t412).f1) 20000).bind fun t414 => (if t414 = true then ((impl_within.f a1_2 0 1000000).bind fun t415 => (some t415)) else (some false))) else (none)) else (none)) else (some false)) = some r := H
 have A3 := ak_ A30
 clear A30
 by_cases c4 : t412 ≥ 0
 ·rw [if_pos c4] at H
  have c4b0 : decide (0 ≤ t412) = true := dt_ c4
  clear c4
  by_cases c5 : 0 ≤ t412
  ·rw [if_pos c5] at H
   have c5b0 : decide (0 ≤ t412) = true := dt_ c5
   clear c5
   by_cases c6 : t412 < (l0.length : Int)
   ·rw [if_pos c6] at H
    have c6b0 : decide (t412 < (l0.length : Int)) = true := dt_ c6
    clear c6
    replace H := ob_ H
    obtain ⟨t414, A70, H⟩ := H
    replace H : (if t414 = true then ((impl_within.f a1_2 0 1000000).bind fun t415 => (some t415)) else (some false)) = some r := H
    have A7 := ak_ A70
    clear A70
    by_cases c8 : t414 = true
    ·subst c8
     have H1 : ((impl_within.f a1_2 0 1000000).bind fun t415 => (some t415)) = some r := by rw [if_pos rfl] at H; exact H
     clear H
     have H := H1
     clear H1
     replace H := ob_ H
     obtain ⟨t415, A90, H⟩ := H
     replace H : (some t415) = some r := H
     have A9 := ak_ A90
     clear A90
     obtain rfl := Option.some.inj H
     go_enter Try.func128, Try.ntmps128
     go_wp2_with (first | ((with_reducible refine gate_dst (N := 3) rfl ?_); refine box_event ?hg (N := 3) ?hd (cs := #[.string a1_0, .int .i64 a1_1, .int .i64 a1_2]) (t := 75) ?hr ?_; (case hd => rfl); (case hg => rfl); (case hr => first | (go_simp; done) | (go_simp; rfl)); intro gb411 hg w10 hbox hb; have n0_ := ak_ (below_step hb_ hb); have n1_ := ak_ (hbox); have n2_ := ak_ ((by rw [hg]; exact (below_size hb_) : w.heap.size ≤ gb411)); have n3_ := ak_ ((by rw [hg]; exact (below_size hb_) : w.heap.size ≤ gb411)); clear HB; have HB := n0_; have BK411 := n1_; have GW411 := n2_; have GE411 := n3_; clear n0_ n1_ n2_ n3_; clear hb hbox hg; have hcz11_0 : w10.cell? ⟨gb411, 0, none⟩ = some (.string a1_0) := (blk_cell BK411.out 0).trans rfl; have hcz11_1 : w10.cell? ⟨gb411, 1, none⟩ = some (.int .i64 a1_1) := (blk_cell BK411.out 1).trans rfl; have hcz11_2 : w10.cell? ⟨gb411, 2, none⟩ = some (.int .i64 a1_2) := (blk_cell BK411.out 2).trans rfl; have hfz11_0 := blk_frozen BK411.out 0; have hfz11_1 := blk_frozen BK411.out 1; have hfz11_2 := blk_frozen BK411.out 2) | (go_at_call 77; (with_reducible refine (impl_gearNamed.calls _ _ l0 a1_0 t412 _ ?side1 ?side2 A3.out).mono ?_); (case side1 => exact kc_ (Kd.C_below HR0.out HB.out)); (case side2 => exact HC0.out); rintro e w12 ⟨rfl, hb⟩; have n0_ := ak_ (blk_below (g := gb411) (o := .cells #[.string a1_0, .int .i64 a1_1, .int .i64 a1_2] 75 (0, 0)) (bk_ BK411) hb); have n1_ := ak_ (below_step (hg_ GE411) hb); clear BK411 HB; have BK411 := n0_; have HB := n1_; clear n0_ n1_; (try clear hb); (try clear hb2); (try clear hk); (try clear hi); have hcz13_0 : w12.cell? ⟨gb411, 0, none⟩ = some (.string a1_0) := (blk_cell BK411.out 0).trans rfl; have hcz13_1 : w12.cell? ⟨gb411, 1, none⟩ = some (.int .i64 a1_1) := (blk_cell BK411.out 1).trans rfl; have hcz13_2 : w12.cell? ⟨gb411, 2, none⟩ = some (.int .i64 a1_2) := (blk_cell BK411.out 2).trans rfl; have hfz13_0 := blk_frozen BK411.out 0; have hfz13_1 := blk_frozen BK411.out 1; have hfz13_2 := blk_frozen BK411.out 2; have p413 : 0 ≤ (t412 : Int) := od_; have q413 : t412 < (l0.length : Int) := od_; obtain ⟨ad413, e413, hx413_0, hx413_1, hx413_2, hx413_3⟩ := at_T72 HR0.out t412 p413 q413; cases e413; replace hx413_0 := cq_ HB hx413_0; replace hx413_1 := cq_ HB hx413_1; replace hx413_2 := cq_ HB hx413_2; replace hx413_3 := cq_ HB hx413_3; replace p413 := eq_true p413; replace q413 := eq_true q413) | (go_at_call 99; (with_reducible refine (impl_within.calls a1_1 ((rd_T72 l0 t412).f1) 20000 true _ A7.out).mono ?_); rintro e w' ⟨rfl, ⟨nd, rfl⟩⟩; (try first | exact ⟨rfl, _, World.drewN_drewN _ _ _⟩ | exact ⟨rfl, _, Eq.trans (World.drewN_drewN _ _ _) (congrArg (World.drewN _) (Nat.add_assoc _ _ _))⟩)) | (go_at_call 99; (with_reducible refine (impl_within.calls a1_2 0 1000000 t415 _ A9.out).mono ?_); rintro e w' ⟨rfl, ⟨nd, rfl⟩⟩; (try first | exact ⟨rfl, _, World.drewN_drewN _ _ _⟩ | exact ⟨rfl, _, Eq.trans (World.drewN_drewN _ _ _) (congrArg (World.drewN _) (Nat.add_assoc _ _ _))⟩)))
     repeat (go_quiet (first | ((with_reducible refine gate_dst (N := 3) rfl ?_); refine box_event ?hg (N := 3) ?hd (cs := #[.string a1_0, .int .i64 a1_1, .int .i64 a1_2]) (t := 75) ?hr ?_; (case hd => rfl); (case hg => rfl); (case hr => first | (go_simp; done) | (go_simp; rfl)); intro gb411 hg w10 hbox hb; have n0_ := ak_ (below_step hb_ hb); have n1_ := ak_ (hbox); have n2_ := ak_ ((by rw [hg]; exact (below_size hb_) : w.heap.size ≤ gb411)); have n3_ := ak_ ((by rw [hg]; exact (below_size hb_) : w.heap.size ≤ gb411)); clear HB; have HB := n0_; have BK411 := n1_; have GW411 := n2_; have GE411 := n3_; clear n0_ n1_ n2_ n3_; clear hb hbox hg; have hcz11_0 : w10.cell? ⟨gb411, 0, none⟩ = some (.string a1_0) := (blk_cell BK411.out 0).trans rfl; have hcz11_1 : w10.cell? ⟨gb411, 1, none⟩ = some (.int .i64 a1_1) := (blk_cell BK411.out 1).trans rfl; have hcz11_2 : w10.cell? ⟨gb411, 2, none⟩ = some (.int .i64 a1_2) := (blk_cell BK411.out 2).trans rfl; have hfz11_0 := blk_frozen BK411.out 0; have hfz11_1 := blk_frozen BK411.out 1; have hfz11_2 := blk_frozen BK411.out 2) | (go_at_call 77; (with_reducible refine (impl_gearNamed.calls _ _ l0 a1_0 t412 _ ?side1 ?side2 A3.out).mono ?_); (case side1 => exact kc_ (Kd.C_below HR0.out HB.out)); (case side2 => exact HC0.out); rintro e w12 ⟨rfl, hb⟩; have n0_ := ak_ (blk_below (g := gb411) (o := .cells #[.string a1_0, .int .i64 a1_1, .int .i64 a1_2] 75 (0, 0)) (bk_ BK411) hb); have n1_ := ak_ (below_step (hg_ GE411) hb); clear BK411 HB; have BK411 := n0_; have HB := n1_; clear n0_ n1_; (try clear hb); (try clear hb2); (try clear hk); (try clear hi); have hcz13_0 : w12.cell? ⟨gb411, 0, none⟩ = some (.string a1_0) := (blk_cell BK411.out 0).trans rfl; have hcz13_1 : w12.cell? ⟨gb411, 1, none⟩ = some (.int .i64 a1_1) := (blk_cell BK411.out 1).trans rfl; have hcz13_2 : w12.cell? ⟨gb411, 2, none⟩ = some (.int .i64 a1_2) := (blk_cell BK411.out 2).trans rfl; have hfz13_0 := blk_frozen BK411.out 0; have hfz13_1 := blk_frozen BK411.out 1; have hfz13_2 := blk_frozen BK411.out 2; have p413 : 0 ≤ (t412 : Int) := od_; have q413 : t412 < (l0.length : Int) := od_; obtain ⟨ad413, e413, hx413_0, hx413_1, hx413_2, hx413_3⟩ := at_T72 HR0.out t412 p413 q413; cases e413; replace hx413_0 := cq_ HB hx413_0; replace hx413_1 := cq_ HB hx413_1; replace hx413_2 := cq_ HB hx413_2; replace hx413_3 := cq_ HB hx413_3; replace p413 := eq_true p413; replace q413 := eq_true q413) | (go_at_call 99; (with_reducible refine (impl_within.calls a1_1 ((rd_T72 l0 t412).f1) 20000 true _ A7.out).mono ?_); rintro e w' ⟨rfl, ⟨nd, rfl⟩⟩; (try first | exact ⟨rfl, _, World.drewN_drewN _ _ _⟩ | exact ⟨rfl, _, Eq.trans (World.drewN_drewN _ _ _) (congrArg (World.drewN _) (Nat.add_assoc _ _ _))⟩)) | (go_at_call 99; (with_reducible refine (impl_within.calls a1_2 0 1000000 t415 _ A9.out).mono ?_); rintro e w' ⟨rfl, ⟨nd, rfl⟩⟩; (try first | exact ⟨rfl, _, World.drewN_drewN _ _ _⟩ | exact ⟨rfl, _, Eq.trans (World.drewN_drewN _ _ _) (congrArg (World.drewN _) (Nat.add_assoc _ _ _))⟩))); try go_wp2_with (first | ((with_reducible refine gate_dst (N := 3) rfl ?_); refine box_event ?hg (N := 3) ?hd (cs := #[.string a1_0, .int .i64 a1_1, .int .i64 a1_2]) (t := 75) ?hr ?_; (case hd => rfl); (case hg => rfl); (case hr => first | (go_simp; done) | (go_simp; rfl)); intro gb411 hg w10 hbox hb; have n0_ := ak_ (below_step hb_ hb); have n1_ := ak_ (hbox); have n2_ := ak_ ((by rw [hg]; exact (below_size hb_) : w.heap.size ≤ gb411)); have n3_ := ak_ ((by rw [hg]; exact (below_size hb_) : w.heap.size ≤ gb411)); clear HB; have HB := n0_; have BK411 := n1_; have GW411 := n2_; have GE411 := n3_; clear n0_ n1_ n2_ n3_; clear hb hbox hg; have hcz11_0 : w10.cell? ⟨gb411, 0, none⟩ = some (.string a1_0) := (blk_cell BK411.out 0).trans rfl; have hcz11_1 : w10.cell? ⟨gb411, 1, none⟩ = some (.int .i64 a1_1) := (blk_cell BK411.out 1).trans rfl; have hcz11_2 : w10.cell? ⟨gb411, 2, none⟩ = some (.int .i64 a1_2) := (blk_cell BK411.out 2).trans rfl; have hfz11_0 := blk_frozen BK411.out 0; have hfz11_1 := blk_frozen BK411.out 1; have hfz11_2 := blk_frozen BK411.out 2) | (go_at_call 77; (with_reducible refine (impl_gearNamed.calls _ _ l0 a1_0 t412 _ ?side1 ?side2 A3.out).mono ?_); (case side1 => exact kc_ (Kd.C_below HR0.out HB.out)); (case side2 => exact HC0.out); rintro e w12 ⟨rfl, hb⟩; have n0_ := ak_ (blk_below (g := gb411) (o := .cells #[.string a1_0, .int .i64 a1_1, .int .i64 a1_2] 75 (0, 0)) (bk_ BK411) hb); have n1_ := ak_ (below_step (hg_ GE411) hb); clear BK411 HB; have BK411 := n0_; have HB := n1_; clear n0_ n1_; (try clear hb); (try clear hb2); (try clear hk); (try clear hi); have hcz13_0 : w12.cell? ⟨gb411, 0, none⟩ = some (.string a1_0) := (blk_cell BK411.out 0).trans rfl; have hcz13_1 : w12.cell? ⟨gb411, 1, none⟩ = some (.int .i64 a1_1) := (blk_cell BK411.out 1).trans rfl; have hcz13_2 : w12.cell? ⟨gb411, 2, none⟩ = some (.int .i64 a1_2) := (blk_cell BK411.out 2).trans rfl; have hfz13_0 := blk_frozen BK411.out 0; have hfz13_1 := blk_frozen BK411.out 1; have hfz13_2 := blk_frozen BK411.out 2; have p413 : 0 ≤ (t412 : Int) := od_; have q413 : t412 < (l0.length : Int) := od_; obtain ⟨ad413, e413, hx413_0, hx413_1, hx413_2, hx413_3⟩ := at_T72 HR0.out t412 p413 q413; cases e413; replace hx413_0 := cq_ HB hx413_0; replace hx413_1 := cq_ HB hx413_1; replace hx413_2 := cq_ HB hx413_2; replace hx413_3 := cq_ HB hx413_3; replace p413 := eq_true p413; replace q413 := eq_true q413) | (go_at_call 99; (with_reducible refine (impl_within.calls a1_1 ((rd_T72 l0 t412).f1) 20000 true _ A7.out).mono ?_); rintro e w' ⟨rfl, ⟨nd, rfl⟩⟩; (try first | exact ⟨rfl, _, World.drewN_drewN _ _ _⟩ | exact ⟨rfl, _, Eq.trans (World.drewN_drewN _ _ _) (congrArg (World.drewN _) (Nat.add_assoc _ _ _))⟩)) | (go_at_call 99; (with_reducible refine (impl_within.calls a1_2 0 1000000 t415 _ A9.out).mono ?_); rintro e w' ⟨rfl, ⟨nd, rfl⟩⟩; (try first | exact ⟨rfl, _, World.drewN_drewN _ _ _⟩ | exact ⟨rfl, _, Eq.trans (World.drewN_drewN _ _ _) (congrArg (World.drewN _) (Nat.add_assoc _ _ _))⟩))))
     go_ret
     exact ⟨ew_, (hg_ GE411)⟩
    ·replace c8 := Bool.eq_false_iff.mpr c8
     subst c8
     have H1 : (some false) = some r := by rw [if_neg (show ¬ (false = true) by decide)] at H; exact H
     clear H
     have H := H1
     clear H1
     obtain rfl := Option.some.inj H
     go_enter Try.func128, Try.ntmps128
     go_wp2_with (first | ((with_reducible refine gate_dst (N := 3) rfl ?_); refine box_event ?hg (N := 3) ?hd (cs := #[.string a1_0, .int .i64 a1_1, .int .i64 a1_2]) (t := 75) ?hr ?_; (case hd => rfl); (case hg => rfl); (case hr => first | (go_simp; done) | (go_simp; rfl)); intro gb411 hg w14 hbox hb; have n0_ := ak_ (below_step hb_ hb); have n1_ := ak_ (hbox); have n2_ := ak_ ((by rw [hg]; exact (below_size hb_) : w.heap.size ≤ gb411)); have n3_ := ak_ ((by rw [hg]; exact (below_size hb_) : w.heap.size ≤ gb411)); clear HB; have HB := n0_; have BK411 := n1_; have GW411 := n2_; have GE411 := n3_; clear n0_ n1_ n2_ n3_; clear hb hbox hg; have hcz15_0 : w14.cell? ⟨gb411, 0, none⟩ = some (.string a1_0) := (blk_cell BK411.out 0).trans rfl; have hcz15_1 : w14.cell? ⟨gb411, 1, none⟩ = some (.int .i64 a1_1) := (blk_cell BK411.out 1).trans rfl; have hcz15_2 : w14.cell? ⟨gb411, 2, none⟩ = some (.int .i64 a1_2) := (blk_cell BK411.out 2).trans rfl; have hfz15_0 := blk_frozen BK411.out 0; have hfz15_1 := blk_frozen BK411.out 1; have hfz15_2 := blk_frozen BK411.out 2) | (go_at_call 77; (with_reducible refine (impl_gearNamed.calls _ _ l0 a1_0 t412 _ ?side1 ?side2 A3.out).mono ?_); (case side1 => exact kc_ (Kd.C_below HR0.out HB.out)); (case side2 => exact HC0.out); rintro e w16 ⟨rfl, hb⟩; have n0_ := ak_ (blk_below (g := gb411) (o := .cells #[.string a1_0, .int .i64 a1_1, .int .i64 a1_2] 75 (0, 0)) (bk_ BK411) hb); have n1_ := ak_ (below_step (hg_ GE411) hb); clear BK411 HB; have BK411 := n0_; have HB := n1_; clear n0_ n1_; (try clear hb); (try clear hb2); (try clear hk); (try clear hi); have hcz17_0 : w16.cell? ⟨gb411, 0, none⟩ = some (.string a1_0) := (blk_cell BK411.out 0).trans rfl; have hcz17_1 : w16.cell? ⟨gb411, 1, none⟩ = some (.int .i64 a1_1) := (blk_cell BK411.out 1).trans rfl; have hcz17_2 : w16.cell? ⟨gb411, 2, none⟩ = some (.int .i64 a1_2) := (blk_cell BK411.out 2).trans rfl; have hfz17_0 := blk_frozen BK411.out 0; have hfz17_1 := blk_frozen BK411.out 1; have hfz17_2 := blk_frozen BK411.out 2; have p413 : 0 ≤ (t412 : Int) := od_; have q413 : t412 < (l0.length : Int) := od_; obtain ⟨ad413, e413, hx413_0, hx413_1, hx413_2, hx413_3⟩ := at_T72 HR0.out t412 p413 q413; cases e413; replace hx413_0 := cq_ HB hx413_0; replace hx413_1 := cq_ HB hx413_1; replace hx413_2 := cq_ HB hx413_2; replace hx413_3 := cq_ HB hx413_3; replace p413 := eq_true p413; replace q413 := eq_true q413) | (go_at_call 99; (with_reducible refine (impl_within.calls a1_1 ((rd_T72 l0 t412).f1) 20000 false _ A7.out).mono ?_); rintro e w' ⟨rfl, ⟨nd, rfl⟩⟩; (try first | exact ⟨rfl, _, World.drewN_drewN _ _ _⟩ | exact ⟨rfl, _, Eq.trans (World.drewN_drewN _ _ _) (congrArg (World.drewN _) (Nat.add_assoc _ _ _))⟩)))
     repeat (go_quiet (first | ((with_reducible refine gate_dst (N := 3) rfl ?_); refine box_event ?hg (N := 3) ?hd (cs := #[.string a1_0, .int .i64 a1_1, .int .i64 a1_2]) (t := 75) ?hr ?_; (case hd => rfl); (case hg => rfl); (case hr => first | (go_simp; done) | (go_simp; rfl)); intro gb411 hg w14 hbox hb; have n0_ := ak_ (below_step hb_ hb); have n1_ := ak_ (hbox); have n2_ := ak_ ((by rw [hg]; exact (below_size hb_) : w.heap.size ≤ gb411)); have n3_ := ak_ ((by rw [hg]; exact (below_size hb_) : w.heap.size ≤ gb411)); clear HB; have HB := n0_; have BK411 := n1_; have GW411 := n2_; have GE411 := n3_; clear n0_ n1_ n2_ n3_; clear hb hbox hg; have hcz15_0 : w14.cell? ⟨gb411, 0, none⟩ = some (.string a1_0) := (blk_cell BK411.out 0).trans rfl; have hcz15_1 : w14.cell? ⟨gb411, 1, none⟩ = some (.int .i64 a1_1) := (blk_cell BK411.out 1).trans rfl; have hcz15_2 : w14.cell? ⟨gb411, 2, none⟩ = some (.int .i64 a1_2) := (blk_cell BK411.out 2).trans rfl; have hfz15_0 := blk_frozen BK411.out 0; have hfz15_1 := blk_frozen BK411.out 1; have hfz15_2 := blk_frozen BK411.out 2) | (go_at_call 77; (with_reducible refine (impl_gearNamed.calls _ _ l0 a1_0 t412 _ ?side1 ?side2 A3.out).mono ?_); (case side1 => exact kc_ (Kd.C_below HR0.out HB.out)); (case side2 => exact HC0.out); rintro e w16 ⟨rfl, hb⟩; have n0_ := ak_ (blk_below (g := gb411) (o := .cells #[.string a1_0, .int .i64 a1_1, .int .i64 a1_2] 75 (0, 0)) (bk_ BK411) hb); have n1_ := ak_ (below_step (hg_ GE411) hb); clear BK411 HB; have BK411 := n0_; have HB := n1_; clear n0_ n1_; (try clear hb); (try clear hb2); (try clear hk); (try clear hi); have hcz17_0 : w16.cell? ⟨gb411, 0, none⟩ = some (.string a1_0) := (blk_cell BK411.out 0).trans rfl; have hcz17_1 : w16.cell? ⟨gb411, 1, none⟩ = some (.int .i64 a1_1) := (blk_cell BK411.out 1).trans rfl; have hcz17_2 : w16.cell? ⟨gb411, 2, none⟩ = some (.int .i64 a1_2) := (blk_cell BK411.out 2).trans rfl; have hfz17_0 := blk_frozen BK411.out 0; have hfz17_1 := blk_frozen BK411.out 1; have hfz17_2 := blk_frozen BK411.out 2; have p413 : 0 ≤ (t412 : Int) := od_; have q413 : t412 < (l0.length : Int) := od_; obtain ⟨ad413, e413, hx413_0, hx413_1, hx413_2, hx413_3⟩ := at_T72 HR0.out t412 p413 q413; cases e413; replace hx413_0 := cq_ HB hx413_0; replace hx413_1 := cq_ HB hx413_1; replace hx413_2 := cq_ HB hx413_2; replace hx413_3 := cq_ HB hx413_3; replace p413 := eq_true p413; replace q413 := eq_true q413) | (go_at_call 99; (with_reducible refine (impl_within.calls a1_1 ((rd_T72 l0 t412).f1) 20000 false _ A7.out).mono ?_); rintro e w' ⟨rfl, ⟨nd, rfl⟩⟩; (try first | exact ⟨rfl, _, World.drewN_drewN _ _ _⟩ | exact ⟨rfl, _, Eq.trans (World.drewN_drewN _ _ _) (congrArg (World.drewN _) (Nat.add_assoc _ _ _))⟩))); try go_wp2_with (first | ((with_reducible refine gate_dst (N := 3) rfl ?_); refine box_event ?hg (N := 3) ?hd (cs := #[.string a1_0, .int .i64 a1_1, .int .i64 a1_2]) (t := 75) ?hr ?_; (case hd => rfl); (case hg => rfl); (case hr => first | (go_simp; done) | (go_simp; rfl)); intro gb411 hg w14 hbox hb; have n0_ := ak_ (below_step hb_ hb); have n1_ := ak_ (hbox); have n2_ := ak_ ((by rw [hg]; exact (below_size hb_) : w.heap.size ≤ gb411)); have n3_ := ak_ ((by rw [hg]; exact (below_size hb_) : w.heap.size ≤ gb411)); clear HB; have HB := n0_; have BK411 := n1_; have GW411 := n2_; have GE411 := n3_; clear n0_ n1_ n2_ n3_; clear hb hbox hg; have hcz15_0 : w14.cell? ⟨gb411, 0, none⟩ = some (.string a1_0) := (blk_cell BK411.out 0).trans rfl; have hcz15_1 : w14.cell? ⟨gb411, 1, none⟩ = some (.int .i64 a1_1) := (blk_cell BK411.out 1).trans rfl; have hcz15_2 : w14.cell? ⟨gb411, 2, none⟩ = some (.int .i64 a1_2) := (blk_cell BK411.out 2).trans rfl; have hfz15_0 := blk_frozen BK411.out 0; have hfz15_1 := blk_frozen BK411.out 1; have hfz15_2 := blk_frozen BK411.out 2) | (go_at_call 77; (with_reducible refine (impl_gearNamed.calls _ _ l0 a1_0 t412 _ ?side1 ?side2 A3.out).mono ?_); (case side1 => exact kc_ (Kd.C_below HR0.out HB.out)); (case side2 => exact HC0.out); rintro e w16 ⟨rfl, hb⟩; have n0_ := ak_ (blk_below (g := gb411) (o := .cells #[.string a1_0, .int .i64 a1_1, .int .i64 a1_2] 75 (0, 0)) (bk_ BK411) hb); have n1_ := ak_ (below_step (hg_ GE411) hb); clear BK411 HB; have BK411 := n0_; have HB := n1_; clear n0_ n1_; (try clear hb); (try clear hb2); (try clear hk); (try clear hi); have hcz17_0 : w16.cell? ⟨gb411, 0, none⟩ = some (.string a1_0) := (blk_cell BK411.out 0).trans rfl; have hcz17_1 : w16.cell? ⟨gb411, 1, none⟩ = some (.int .i64 a1_1) := (blk_cell BK411.out 1).trans rfl; have hcz17_2 : w16.cell? ⟨gb411, 2, none⟩ = some (.int .i64 a1_2) := (blk_cell BK411.out 2).trans rfl; have hfz17_0 := blk_frozen BK411.out 0; have hfz17_1 := blk_frozen BK411.out 1; have hfz17_2 := blk_frozen BK411.out 2; have p413 : 0 ≤ (t412 : Int) := od_; have q413 : t412 < (l0.length : Int) := od_; obtain ⟨ad413, e413, hx413_0, hx413_1, hx413_2, hx413_3⟩ := at_T72 HR0.out t412 p413 q413; cases e413; replace hx413_0 := cq_ HB hx413_0; replace hx413_1 := cq_ HB hx413_1; replace hx413_2 := cq_ HB hx413_2; replace hx413_3 := cq_ HB hx413_3; replace p413 := eq_true p413; replace q413 := eq_true q413) | (go_at_call 99; (with_reducible refine (impl_within.calls a1_1 ((rd_T72 l0 t412).f1) 20000 false _ A7.out).mono ?_); rintro e w' ⟨rfl, ⟨nd, rfl⟩⟩; (try first | exact ⟨rfl, _, World.drewN_drewN _ _ _⟩ | exact ⟨rfl, _, Eq.trans (World.drewN_drewN _ _ _) (congrArg (World.drewN _) (Nat.add_assoc _ _ _))⟩))))
     go_ret
     exact ⟨ew_, (hg_ GE411)⟩
   ·rw [if_neg c6] at H
    exact absurd H (by simp)
  ·rw [if_neg c5] at H
   exact absurd H (by simp)
 ·rw [if_neg c4] at H
  have c4b0 : decide (0 ≤ t412) = false := decide_eq_false c4
  clear c4
  obtain rfl := Option.some.inj H
  go_enter Try.func128, Try.ntmps128
  go_wp2_with (first | ((with_reducible refine gate_dst (N := 3) rfl ?_); refine box_event ?hg (N := 3) ?hd (cs := #[.string a1_0, .int .i64 a1_1, .int .i64 a1_2]) (t := 75) ?hr ?_; (case hd => rfl); (case hg => rfl); (case hr => first | (go_simp; done) | (go_simp; rfl)); intro gb411 hg w18 hbox hb; have n0_ := ak_ (below_step hb_ hb); have n1_ := ak_ (hbox); have n2_ := ak_ ((by rw [hg]; exact (below_size hb_) : w.heap.size ≤ gb411)); have n3_ := ak_ ((by rw [hg]; exact (below_size hb_) : w.heap.size ≤ gb411)); clear HB; have HB := n0_; have BK411 := n1_; have GW411 := n2_; have GE411 := n3_; clear n0_ n1_ n2_ n3_; clear hb hbox hg; have hcz19_0 : w18.cell? ⟨gb411, 0, none⟩ = some (.string a1_0) := (blk_cell BK411.out 0).trans rfl; have hcz19_1 : w18.cell? ⟨gb411, 1, none⟩ = some (.int .i64 a1_1) := (blk_cell BK411.out 1).trans rfl; have hcz19_2 : w18.cell? ⟨gb411, 2, none⟩ = some (.int .i64 a1_2) := (blk_cell BK411.out 2).trans rfl; have hfz19_0 := blk_frozen BK411.out 0; have hfz19_1 := blk_frozen BK411.out 1; have hfz19_2 := blk_frozen BK411.out 2) | (go_at_call 77; (with_reducible refine (impl_gearNamed.calls _ _ l0 a1_0 t412 _ ?side1 ?side2 A3.out).mono ?_); (case side1 => exact kc_ (Kd.C_below HR0.out HB.out)); (case side2 => exact HC0.out); rintro e w20 ⟨rfl, hb⟩; have n0_ := ak_ (blk_below (g := gb411) (o := .cells #[.string a1_0, .int .i64 a1_1, .int .i64 a1_2] 75 (0, 0)) (bk_ BK411) hb); have n1_ := ak_ (below_step (hg_ GE411) hb); clear BK411 HB; have BK411 := n0_; have HB := n1_; clear n0_ n1_; clear hb))
  repeat (go_quiet (first | ((with_reducible refine gate_dst (N := 3) rfl ?_); refine box_event ?hg (N := 3) ?hd (cs := #[.string a1_0, .int .i64 a1_1, .int .i64 a1_2]) (t := 75) ?hr ?_; (case hd => rfl); (case hg => rfl); (case hr => first | (go_simp; done) | (go_simp; rfl)); intro gb411 hg w18 hbox hb; have n0_ := ak_ (below_step hb_ hb); have n1_ := ak_ (hbox); have n2_ := ak_ ((by rw [hg]; exact (below_size hb_) : w.heap.size ≤ gb411)); have n3_ := ak_ ((by rw [hg]; exact (below_size hb_) : w.heap.size ≤ gb411)); clear HB; have HB := n0_; have BK411 := n1_; have GW411 := n2_; have GE411 := n3_; clear n0_ n1_ n2_ n3_; clear hb hbox hg; have hcz19_0 : w18.cell? ⟨gb411, 0, none⟩ = some (.string a1_0) := (blk_cell BK411.out 0).trans rfl; have hcz19_1 : w18.cell? ⟨gb411, 1, none⟩ = some (.int .i64 a1_1) := (blk_cell BK411.out 1).trans rfl; have hcz19_2 : w18.cell? ⟨gb411, 2, none⟩ = some (.int .i64 a1_2) := (blk_cell BK411.out 2).trans rfl; have hfz19_0 := blk_frozen BK411.out 0; have hfz19_1 := blk_frozen BK411.out 1; have hfz19_2 := blk_frozen BK411.out 2) | (go_at_call 77; (with_reducible refine (impl_gearNamed.calls _ _ l0 a1_0 t412 _ ?side1 ?side2 A3.out).mono ?_); (case side1 => exact kc_ (Kd.C_below HR0.out HB.out)); (case side2 => exact HC0.out); rintro e w20 ⟨rfl, hb⟩; have n0_ := ak_ (blk_below (g := gb411) (o := .cells #[.string a1_0, .int .i64 a1_1, .int .i64 a1_2] 75 (0, 0)) (bk_ BK411) hb); have n1_ := ak_ (below_step (hg_ GE411) hb); clear BK411 HB; have BK411 := n0_; have HB := n1_; clear n0_ n1_; clear hb)); try go_wp2_with (first | ((with_reducible refine gate_dst (N := 3) rfl ?_); refine box_event ?hg (N := 3) ?hd (cs := #[.string a1_0, .int .i64 a1_1, .int .i64 a1_2]) (t := 75) ?hr ?_; (case hd => rfl); (case hg => rfl); (case hr => first | (go_simp; done) | (go_simp; rfl)); intro gb411 hg w18 hbox hb; have n0_ := ak_ (below_step hb_ hb); have n1_ := ak_ (hbox); have n2_ := ak_ ((by rw [hg]; exact (below_size hb_) : w.heap.size ≤ gb411)); have n3_ := ak_ ((by rw [hg]; exact (below_size hb_) : w.heap.size ≤ gb411)); clear HB; have HB := n0_; have BK411 := n1_; have GW411 := n2_; have GE411 := n3_; clear n0_ n1_ n2_ n3_; clear hb hbox hg; have hcz19_0 : w18.cell? ⟨gb411, 0, none⟩ = some (.string a1_0) := (blk_cell BK411.out 0).trans rfl; have hcz19_1 : w18.cell? ⟨gb411, 1, none⟩ = some (.int .i64 a1_1) := (blk_cell BK411.out 1).trans rfl; have hcz19_2 : w18.cell? ⟨gb411, 2, none⟩ = some (.int .i64 a1_2) := (blk_cell BK411.out 2).trans rfl; have hfz19_0 := blk_frozen BK411.out 0; have hfz19_1 := blk_frozen BK411.out 1; have hfz19_2 := blk_frozen BK411.out 2) | (go_at_call 77; (with_reducible refine (impl_gearNamed.calls _ _ l0 a1_0 t412 _ ?side1 ?side2 A3.out).mono ?_); (case side1 => exact kc_ (Kd.C_below HR0.out HB.out)); (case side2 => exact HC0.out); rintro e w20 ⟨rfl, hb⟩; have n0_ := ak_ (blk_below (g := gb411) (o := .cells #[.string a1_0, .int .i64 a1_1, .int .i64 a1_2] 75 (0, 0)) (bk_ BK411) hb); have n1_ := ak_ (below_step (hg_ GE411) hb); clear BK411 HB; have BK411 := n0_; have HB := n1_; clear n0_ n1_; clear hb)))
  go_ret
  exact ⟨ew_, (hg_ GE411)⟩

/-! ### impl_areChecks: function 107 -/
mutual
def impl_areChecks.l0 : Nat → List (S72) → List (S75) → List (S75) → Int → Int → Option (Bool)
 | 0, _, _, _, _, _ => none
 | k + 1, x0, x1, x12, x13, x14 => if x14 < x13 then (if 0 ≤ x14 then (if x14 < (x12.length : Int) then ((impl_isCheck.f x0 ((rd_T75 x12 x14).f0) ((rd_T75 x12 x14).f1) ((rd_T75 x12 x14).f2)).bind fun t418 => (if t418 = true then (if x14 > 0 then (if 0 ≤ (wrap64 (x14 - 1)) then (if (wrap64 (x14 - 1)) < (x1.length : Int) then (impl_areChecks.j1 k x0 x1 x14 x12 x13 x14 (decide (((rd_T75 x12 x14).f1) < ((rd_T75 x1 (wrap64 (x14 - 1))).f1))) ((rd_T75 x12 x14).f0) ((rd_T75 x12 x14).f1) ((rd_T75 x12 x14).f2)) else (none)) else (none)) else (impl_areChecks.j1 k x0 x1 x14 x12 x13 x14 false ((rd_T75 x12 x14).f0) ((rd_T75 x12 x14).f1) ((rd_T75 x12 x14).f2))) else (impl_areChecks.j1 k x0 x1 x14 x12 x13 x14 true ((rd_T75 x12 x14).f0) ((rd_T75 x12 x14).f1) ((rd_T75 x12 x14).f2)))) else (none)) else (none)) else (some true)
def impl_areChecks.j1 : Nat → List (S72) → List (S75) → Int → List (S75) → Int → Int → Bool → ByteArray → Int → Int → Option (Bool)
 | 0, _, _, _, _, _, _, _, _, _, _ => none
 | k + 1, x0, x1, x5, x12, x13, x14, x37, x418000, x418001, x418002 => if x37 = true then (some false) else (if 0 ≤ x5 then (if x5 ≤ (x1.length : Int) then ((some (x1.take (x5 : Int).toNat : List (S75))).bind fun y420 => (impl_areChecks.l1 k x0 x1 x12 x13 x14 y420 (y420.length : Int) 0 x418000 x418001 x418002)) else (none)) else (none))
def impl_areChecks.l1 : Nat → List (S72) → List (S75) → List (S75) → Int → Int → List (S75) → Int → Int → ByteArray → Int → Int → Option (Bool)
 | 0, _, _, _, _, _, _, _, _, _, _, _ => none
 | k + 1, x0, x1, x12, x13, x14, x40, x41, x42, x418000, x418001, x418002 => if x42 < x41 then (if 0 ≤ x42 then (if x42 < (x40.length : Int) then (if ((rd_T75 x40 x42).f0).toList = x418000.toList then (if x418001 ≤ ((rd_T75 x40 x42).f1) then (some false) else (if x418002 < ((rd_T75 x40 x42).f2) then (some false) else (impl_areChecks.l1 k x0 x1 x12 x13 x14 x40 x41 (wrap64 (x42 + 1)) x418000 x418001 x418002))) else (impl_areChecks.l1 k x0 x1 x12 x13 x14 x40 x41 (wrap64 (x42 + 1)) x418000 x418001 x418002)) else (none)) else (none)) else (impl_areChecks.l0 k x0 x1 x12 x13 (wrap64 (x14 + 1)))
end
def impl_areChecks.f (k : Nat) (l0 : List (S72)) (l1 : List (S75)) : Option (Bool) := if (l1.length : Int) > 60 then (some false) else (impl_areChecks.l0 k l0 l1 l1 (l1.length : Int) 0)
def impl_areChecks.T6 : Bool × List (List Nat × List Nat) := (true, [([], []), ([], []), ([0, 1], [0, 1]), ([2], [2]), ([3, 2], [3]), ([4], [4]), ([5, 4], [4, 5]), ([6, 4, 4], [4, 6]), ([7], [7]), ([8, 7], [7, 8]), ([7], [7]), ([7], [7]), ([11, 7], [7, 11]), ([10, 12, 7], [7, 10, 12]), ([13, 7], [7, 13]), ([14, 7], [7, 14]), ([9, 15, 7], [7, 9, 15]), ([7, 16, 4], [4, 7, 16]), ([4, 17], [4, 17])])
def impl_areChecks.B6 : List Nat := [0, 0, 3, 7, 15, 31, 63, 127, 255, 511, 255, 255, 2303, 7423, 15615, 31999, 65535, 131071, 262143]
theorem impl_areChecks.tab6 : rtab .any (opsOf Try.f107 6) = impl_areChecks.T6 := by kernel_rfl
theorem impl_areChecks.bits6 : waitsOk impl_areChecks.T6.2 impl_areChecks.B6 = true := by kernel_rfl
set_option maxHeartbeats 8000000 in
set_option maxRecDepth 100000 in
theorem impl_areChecks.calls (k : Nat) (A0 : Option Addr) (c0 : Nat) (l0 : List (S72)) (A1 : Option Addr) (c1 : Nat) (l1 : List (S75)) (r : Bool) (w : World) (hr0 : Kd.C k72 w A0 l0.length l0) (hc0 : l0.length ≤ c0) (hr1 : Kd.C k75 w A1 l1.length l1) (hc1 : l1.length ≤ c1) (h : impl_areChecks.f k l0 l1 = some r) :
  Calls Try.prog 107 #[.slice A0 l0.length c0, .slice A1 l1.length c1] w fun e w' => e = .returned (.bool r) ∧ Below w.heap.size w w' := by
 have hu75 := Try.underlying75
 have HR0 := ak_ hr0
 have HC0 := ak_ hc0
 clear hr0 hc0
 have HR1 := ak_ hr1
 have HC1 := ak_ hc1
 clear hr1 hc1
 have HB := ak_ (Below.refl w.heap.size w)
 have H : (if (l1.length : Int) > 60 then (some false) else (impl_areChecks.l0 k l0 l1 l1 (l1.length : Int) 0)) = some r := h
 clear h
 by_cases c3 : (l1.length : Int) > 60
 ·rw [if_pos c3] at H
  have c3b0 : decide (60 < (l1.length : Int)) = true := dt_ c3
  have c3b1 : decide (60 < l1.length) = true := dt_ (by omega)
  clear c3
  obtain rfl := Option.some.inj H
  go_enter Try.func107, Try.ntmps107
  go_wp2
  go_ret
  exact ⟨ew_, hb_⟩
 ·rw [if_neg c3] at H
  have c3b0 : decide (60 < (l1.length : Int)) = false := decide_eq_false c3
  have c3b1 : decide (60 < l1.length) = false := decide_eq_false (by omega)
  clear c3
  have H' := ak_ H
  clear H
  go_enter Try.func107, Try.ntmps107
  go_wp2
  go_loopg [14] k (fun kq v14 w' => ∃ (x14_1 : Int), v14 = .int .i64 x14_1 ∧ Aside0 (impl_areChecks.l0 kq l0 l1 l1 (l1.length : Int) x14_1 = some r) ∧ Aside0 (kq ≤ k) ∧ Aside0 (Below w.heap.size w w'))
  case atStart => exact ⟨(0), fr_, H', ⟨Nat.le_refl _⟩, ⟨hb_⟩⟩
  case round =>
   clear H'
   try clear c1
   try clear p2
   try clear c3
   try clear c3b0
   try clear c3b1
   obtain ⟨x14_1, rfl, HA, HK1, HB⟩ := hrel
   cases gk with
   | zero => exact absurd HA.out (by simp [impl_areChecks.l0])
   | succ k1 =>
    have H := HA.out
    clear HA
    simp only [impl_areChecks.l0] at H
    by_cases c4 : x14_1 < (l1.length : Int)
    ·rw [if_pos c4] at H
     have c4b0 : decide (x14_1 < (l1.length : Int)) = true := dt_ c4
     clear c4
     by_cases c5 : 0 ≤ x14_1
     ·rw [if_pos c5] at H
      have c5b0 : decide (0 ≤ x14_1) = true := dt_ c5
      clear c5
      by_cases c6 : x14_1 < (l1.length : Int)
      ·rw [if_pos c6] at H
       have c6b0 : decide (x14_1 < (l1.length : Int)) = true := dt_ c6
       clear c6
       have HC7 := ak_ H
       clear H
       have p416 : 0 ≤ (x14_1 : Int) := od_
       have q416 : x14_1 < (l1.length : Int) := od_
       obtain ⟨ad416, e416, hx416_0, hx416_1, hx416_2⟩ := at_T75 HR1.out x14_1 p416 q416
       cases e416
       replace hx416_0 := cq_ HB hx416_0
       replace hx416_1 := cq_ HB hx416_1
       replace hx416_2 := cq_ HB hx416_2
       replace p416 := eq_true p416
       replace q416 := eq_true q416
       go_upto_region 6 with (first | ((with_reducible refine gate_dst (N := 6) rfl ?_); refine box_event ?hg (N := 6) ?hd (cs := #[.string (⟨#[]⟩ : ByteArray), .int .i64 0, .int .i64 0]) (t := 75) ?hr ?_; (case hd => rfl); (case hg => rfl); (case hr => first | (go_simp; done) | (go_simp; rfl)); intro gb417 hg w8 hbox hb; have n0_ := ak_ (below_step hb_ hb); have n1_ := ak_ (hbox); have n2_ := ak_ ((by rw [hg]; exact (below_size hb_) : w.heap.size ≤ gb417)); have n3_ := ak_ ((by rw [hg]; exact (below_size hb_) : w.heap.size ≤ gb417)); clear HB; have HB := n0_; have BK417 := n1_; have GW417 := n2_; have GE417 := n3_; clear n0_ n1_ n2_ n3_; clear hb hbox hg; have hcz9_0 : w8.cell? ⟨gb417, 0, none⟩ = some (.string (⟨#[]⟩ : ByteArray)) := (blk_cell BK417.out 0).trans rfl; have hcz9_1 : w8.cell? ⟨gb417, 1, none⟩ = some (.int .i64 0) := (blk_cell BK417.out 1).trans rfl; have hcz9_2 : w8.cell? ⟨gb417, 2, none⟩ = some (.int .i64 0) := (blk_cell BK417.out 2).trans rfl; have hfz9_0 := blk_frozen BK417.out 0; have hfz9_1 := blk_frozen BK417.out 1; have hfz9_2 := blk_frozen BK417.out 2))
       (try simp only [Act.put, List.setIfInBounds_toArray, List.set_cons_zero, List.set_cons_succ])
       go_cut [37] (fun v37 wc => ∃ (kq : Nat) (x37_6 : Bool), v37 = .bool x37_6 ∧ Aside0 (impl_areChecks.j1 kq l0 l1 x14_1 l1 (l1.length : Int) x14_1 x37_6 ((rd_T75 l1 x14_1).f0) ((rd_T75 l1 x14_1).f1) ((rd_T75 l1 x14_1).f2) = some r) ∧ Aside0 (kq ≤ k1) ∧ Aside0 (wc.heap[gb417]? = some (.cells #[.string ((rd_T75 l1 x14_1).f0), .int .i64 ((rd_T75 l1 x14_1).f1), .int .i64 ((rd_T75 l1 x14_1).f2)] 75 (0, 0))) ∧ Aside0 (Below w.heap.size w wc))
       case first =>
        have H := HC7.out
        clear HC7
        replace H := ob_ H
        obtain ⟨t418, A100, H⟩ := H
        replace H : (if t418 = true then (if x14_1 > 0 then (if 0 ≤ (wrap64 (x14_1 - 1)) then (if (wrap64 (x14_1 - 1)) < (l1.length : Int) then (impl_areChecks.j1 k1 l0 l1 x14_1 l1 (l1.length : Int) x14_1 (decide (((rd_T75 l1 x14_1).f1) < ((rd_T75 l1 (wrap64 (x14_1 - 1))).f1))) ((rd_T75 l1 x14_1).f0) ((rd_T75 l1 x14_1).f1) ((rd_T75 l1 x14_1).f2)) else (none)) else (none)) else (impl_areChecks.j1 k1 l0 l1 x14_1 l1 (l1.length : Int) x14_1 false ((rd_T75 l1 x14_1).f0) ((rd_T75 l1 x14_1).f1) ((rd_T75 l1 x14_1).f2))) else (impl_areChecks.j1 k1 l0 l1 x14_1 l1 (l1.length : Int) x14_1 true ((rd_T75 l1 x14_1).f0) ((rd_T75 l1 x14_1).f1) ((rd_T75 l1 x14_1).f2))) = some r := H
        have A10 := ak_ A100
        clear A100
        by_cases c11 : t418 = true
        ·subst c11
         have H1 : (if x14_1 > 0 then (if 0 ≤ (wrap64 (x14_1 - 1)) then (if (wrap64 (x14_1 - 1)) < (l1.length : Int) then (impl_areChecks.j1 k1 l0 l1 x14_1 l1 (l1.length : Int) x14_1 (decide (((rd_T75 l1 x14_1).f1) < ((rd_T75 l1 (wrap64 (x14_1 - 1))).f1))) ((rd_T75 l1 x14_1).f0) ((rd_T75 l1 x14_1).f1) ((rd_T75 l1 x14_1).f2)) else (none)) else (none)) else (impl_areChecks.j1 k1 l0 l1 x14_1 l1 (l1.length : Int) x14_1 false ((rd_T75 l1 x14_1).f0) ((rd_T75 l1 x14_1).f1) ((rd_T75 l1 x14_1).f2))) = some r := by rw [if_pos rfl] at H; exact H
         clear H
         have H := H1
         clear H1
         by_cases c12 : x14_1 > 0
         ·rw [if_pos c12] at H
          have c12b0 : decide (0 < x14_1) = true := dt_ c12
          clear c12
          (first | rw [c12b0] | (simp only [i64_w, i32_w]; rw [c12b0]) | skip)
          obtain ⟨ji13, hji13⟩ : ∃ j_ : Int, (wrap64 (x14_1 - 1)) = j_ := ⟨_, rfl⟩
          replace H : (if 0 ≤ (ji13) then (if (ji13) < (l1.length : Int) then (impl_areChecks.j1 k1 l0 l1 x14_1 l1 (l1.length : Int) x14_1 (decide (((rd_T75 l1 x14_1).f1) < ((rd_T75 l1 (ji13)).f1))) ((rd_T75 l1 x14_1).f0) ((rd_T75 l1 x14_1).f1) ((rd_T75 l1 x14_1).f2)) else (none)) else (none)) = some r := by first | (rw [hji13] at H; exact H) | (simp only [hji13] at H ⊢; exact H)
          (try rw [hji13] at A10)
          have hji13w : (IntKind.i64.wrap (x14_1 - 1)) = ji13 := (i64_w _).trans hji13
          by_cases c14 : 0 ≤ (ji13)
          ·rw [if_pos c14] at H
           have c14b0 : decide (0 ≤ (ji13)) = true := dt_ c14
           clear c14
           by_cases c15 : (ji13) < (l1.length : Int)
           ·rw [if_pos c15] at H
            have c15b0 : decide ((ji13) < (l1.length : Int)) = true := dt_ c15
            clear c15
            have H' := ak_ H
            clear H
            try go_wp2
            have n0_ : Aside0 ((((w8.setCell ⟨gb417, 0, none⟩ (.string ((rd_T75 l1 x14_1).f0))).setCell ⟨gb417, 1, none⟩ (.int .i64 ((rd_T75 l1 x14_1).f1))).setCell ⟨gb417, 2, none⟩ (.int .i64 ((rd_T75 l1 x14_1).f2))).heap[gb417]? = some (.cells #[.string ((rd_T75 l1 x14_1).f0), .int .i64 ((rd_T75 l1 x14_1).f1), .int .i64 ((rd_T75 l1 x14_1).f2)] 75 (0, 0))) := ⟨by (with_reducible repeat (first | refine blk_drewN ?_ _ | refine blk_drew ?_ | refine blk_alloc ?_ _)); refine blk_put (cs := #[.string ((rd_T75 l1 x14_1).f0), .int .i64 ((rd_T75 l1 x14_1).f1), .int .i64 0]) ?_ 2 _ rfl; (with_reducible repeat (first | refine blk_drewN ?_ _ | refine blk_drew ?_ | refine blk_alloc ?_ _)); refine blk_put (cs := #[.string ((rd_T75 l1 x14_1).f0), .int .i64 0, .int .i64 0]) ?_ 1 _ rfl; (with_reducible repeat (first | refine blk_drewN ?_ _ | refine blk_drew ?_ | refine blk_alloc ?_ _)); refine blk_put (cs := #[.string (⟨#[]⟩ : ByteArray), .int .i64 0, .int .i64 0]) ?_ 0 _ rfl; (with_reducible repeat (first | refine blk_drewN ?_ _ | refine blk_drew ?_ | refine blk_alloc ?_ _)); exact BK417.out⟩
            have n1_ : Aside0 (Below w.heap.size w (((w8.setCell ⟨gb417, 0, none⟩ (.string ((rd_T75 l1 x14_1).f0))).setCell ⟨gb417, 1, none⟩ (.int .i64 ((rd_T75 l1 x14_1).f1))).setCell ⟨gb417, 2, none⟩ (.int .i64 ((rd_T75 l1 x14_1).f2)))) := ⟨(hg_ GE417)⟩
            (try clear BK417)
            (try clear HB)
            generalize (((w8.setCell ⟨gb417, 0, none⟩ (.string ((rd_T75 l1 x14_1).f0))).setCell ⟨gb417, 1, none⟩ (.int .i64 ((rd_T75 l1 x14_1).f1))).setCell ⟨gb417, 2, none⟩ (.int .i64 ((rd_T75 l1 x14_1).f2))) = w16 at n0_ n1_ ⊢
            have BK417 := n0_
            have HB := n1_
            clear n0_ n1_
            have n0_ := ak_ (blk_drew BK417.out)
            have n1_ := ak_ (below_drew1 HB.out)
            clear BK417
            clear HB
            have BK417 := n0_
            have HB := n1_
            clear n0_ n1_
            have p419 : 0 ≤ ((ji13) : Int) := od_
            have q419 : (ji13) < (l1.length : Int) := od_
            obtain ⟨ad419, e419, hx419_0, hx419_1, hx419_2⟩ := at_T75 HR1.out (ji13) p419 q419
            have hw419_2 := hx419_2
            have hw419_1 := hx419_1
            have hw419_0 := hx419_0
            obtain rfl : ad416 = ad419 := (by injection e419)
            replace hx419_0 := cq_ HB hx419_0
            replace hx419_1 := cq_ HB hx419_1
            replace hx419_2 := cq_ HB hx419_2
            replace p419 := eq_true p419
            replace q419 := eq_true q419
            refine start_ (n := 19) (S := fun w' => w'.cell? ⟨gb417, 0, none⟩ = some (.string ((rd_T75 l1 x14_1).f0)) ∧ w'.cell? ⟨gb417, 1, none⟩ = some (.int .i64 ((rd_T75 l1 x14_1).f1)) ∧ w'.cell? ⟨gb417, 2, none⟩ = some (.int .i64 ((rd_T75 l1 x14_1).f2)) ∧ w'.cell? (ad416.add (((ji13)).toNat * 3)) = some (.string ((rd_T75 l1 (ji13)).f0)) ∧ w'.cell? ⟨(ad416.add (((ji13)).toNat * 3)).block, (ad416.add (((ji13)).toNat * 3)).off + 1, none⟩ = some (.int .i64 ((rd_T75 l1 (ji13)).f1)) ∧ w'.cell? ⟨(ad416.add (((ji13)).toNat * 3)).block, (ad416.add (((ji13)).toNat * 3)).off + 2, none⟩ = some (.int .i64 ((rd_T75 l1 (ji13)).f2))) (ds := []) #[F_,F_,F_,F_,F_,F_,F_,F_,F_,F_,F_,F_,F_,F_,F_,F_,F_,F_,F_] (by kernel_rfl) rfl rfl ⟨(blk_cell BK417.out 0).trans rfl, (blk_cell BK417.out 1).trans rfl, (blk_cell BK417.out 2).trans rfl, ((HB.out.cell (lt_ w _ hw419_0)).trans hw419_0), ((HB.out.cell (lt_ w _ hw419_1)).trans hw419_1), ((HB.out.cell (lt_ w _ hw419_2)).trans hw419_2)⟩ (fun hHeld => ?_); refine with_tabW impl_areChecks.tab6 impl_areChecks.bits6 (fun HT_ HW_ => ?_)
            generalize w16.drew = w17 at BK417 HB hx419_0 hx419_1 hx419_2 hHeld ⊢
            refine pu (i := 0) (N := some 19) #[T_,F_,F_,F_,F_,F_,F_,F_,F_,F_,F_,F_,F_,F_,F_,F_,F_,F_,F_] HT_ ?_
            refine take_ (i := 1) (N := some 20) (v := ?_) (a' := ?_) #[T_,T_,F_,F_,F_,F_,F_,F_,F_,F_,F_,F_,F_,F_,F_,F_,F_,F_,F_] rfl rfl (take_ofW HT_.out HW_.out (by kernel_rfl)) (fun _ _ _ h => h) (Or.inl ⟨by rfl, ?_⟩) hHeld ?_ ?_
            rotate_left
            ·rintro w' ⟨s0, s1, s2, s3, s4, s5⟩
             go_simp
             with_reducible rfl
            rotate_left
            ·simp only [Act.put, sT_, s0_, sS_, i64_w, i32_w]
             rfl
            refine one_ (i := 2) (N := some 21) #[T_,T_,T_,F_,F_,F_,F_,F_,F_,F_,F_,F_,F_,F_,F_,F_,F_,F_,F_] rfl rfl (one_of HT_.out (by kernel_rfl)) (by decide) (fun K hK => ?_)
            refine goes_ Try.func128 (by kernel_rfl) rfl #[.slice A0 l0.length c0, .agg #[.string ((rd_T75 l1 x14_1).f0), .int .i64 ((rd_T75 l1 x14_1).f1), .int .i64 ((rd_T75 l1 x14_1).f2)]] (by rfl) rfl rfl ln_ ?_
            with_reducible refine (impl_isCheck.calls _ _ l0 ((rd_T75 l1 x14_1).f0) ((rd_T75 l1 x14_1).f1) ((rd_T75 l1 x14_1).f2) true _ ?side1 ?side2 A10.out).mono ?_
            (case side1 => exact kc_ (Kd.C_below HR0.out HB.out))
            (case side2 => exact HC0.out)
            rintro e w18 ⟨rfl, hb⟩
            refine ⟨_, rfl, ?_⟩
            have n0_ := ak_ (blk_below (g := gb417) (o := .cells #[.string ((rd_T75 l1 x14_1).f0), .int .i64 ((rd_T75 l1 x14_1).f1), .int .i64 ((rd_T75 l1 x14_1).f2)] 75 (0, 0)) (bk_ BK417) hb)
            have n1_ := ak_ (below_step (hg_ GE417) hb)
            clear BK417
            clear HB
            have BK417 := n0_
            have HB := n1_
            clear n0_ n1_
            (try clear hb)
            (try clear hb2)
            (try clear hk)
            (try clear hi)
            refine hK.out _ _ ⟨(blk_cell BK417.out 0).trans rfl, (blk_cell BK417.out 1).trans rfl, (blk_cell BK417.out 2).trans rfl, ((HB.out.cell (lt_ w _ hw419_0)).trans hw419_0), ((HB.out.cell (lt_ w _ hw419_1)).trans hw419_1), ((HB.out.cell (lt_ w _ hw419_2)).trans hw419_2)⟩ (fun hHeld => ?_)
            clear hK K
            refine norm_ (a' := ?_) ?_ ?_
            rotate_left
            ·show Act.put _ (some 21) _ = _
             simp only [Act.put, sT_, s0_, sS_, i64_w, i32_w]
             rfl
            refine pu (i := 3) (N := some 22) #[T_,T_,T_,T_,F_,F_,F_,F_,F_,F_,F_,F_,F_,F_,F_,F_,F_,F_,F_] HT_ ?_
            refine pu (i := 4) (N := some 23) #[T_,T_,T_,T_,T_,F_,F_,F_,F_,F_,F_,F_,F_,F_,F_,F_,F_,F_,F_] HT_ ?_
            refine pu (i := 5) (N := some 24) #[T_,T_,T_,T_,T_,T_,F_,F_,F_,F_,F_,F_,F_,F_,F_,F_,F_,F_,F_] HT_ ?_
            refine pu (i := 6) (N := some 25) #[T_,T_,T_,T_,T_,T_,T_,F_,F_,F_,F_,F_,F_,F_,F_,F_,F_,F_,F_] HT_ ?_
            refine pu (i := 7) (N := some 26) #[T_,T_,T_,T_,T_,T_,T_,T_,F_,F_,F_,F_,F_,F_,F_,F_,F_,F_,F_] HT_ ?_
            refine pu (i := 8) (N := some 27) #[T_,T_,T_,T_,T_,T_,T_,T_,T_,F_,F_,F_,F_,F_,F_,F_,F_,F_,F_] HT_ ?_
            refine pu (i := 10) (N := some 29) #[T_,T_,T_,T_,T_,T_,T_,T_,T_,F_,T_,F_,F_,F_,F_,F_,F_,F_,F_] HT_ ?_
            refine pu (i := 11) (N := some 30) #[T_,T_,T_,T_,T_,T_,T_,T_,T_,F_,T_,T_,F_,F_,F_,F_,F_,F_,F_] HT_ ?_
            refine pu (i := 12) (N := some 31) #[T_,T_,T_,T_,T_,T_,T_,T_,T_,F_,T_,T_,T_,F_,F_,F_,F_,F_,F_] HT_ ?_
            refine pu (i := 13) (N := some 32) #[T_,T_,T_,T_,T_,T_,T_,T_,T_,F_,T_,T_,T_,T_,F_,F_,F_,F_,F_] HT_ ?_
            refine pu (i := 14) (N := some 33) #[T_,T_,T_,T_,T_,T_,T_,T_,T_,F_,T_,T_,T_,T_,T_,F_,F_,F_,F_] HT_ ?_
            refine take_ (i := 9) (N := some 28) (v := ?_) (a' := ?_) #[T_,T_,T_,T_,T_,T_,T_,T_,T_,T_,T_,T_,T_,T_,T_,F_,F_,F_,F_] rfl rfl (take_ofW HT_.out HW_.out (by kernel_rfl)) (fun _ _ _ h => h) (Or.inl ⟨by rfl, ?_⟩) hHeld ?_ ?_
            rotate_left
            ·rintro w' ⟨s0, s1, s2, s3, s4, s5⟩
             go_simp
             with_reducible rfl
            rotate_left
            ·simp only [Act.put, sT_, s0_, sS_, i64_w, i32_w]
             rfl
            refine take_ (i := 15) (N := some 34) (v := ?_) (a' := ?_) #[T_,T_,T_,T_,T_,T_,T_,T_,T_,T_,T_,T_,T_,T_,T_,T_,F_,F_,F_] rfl rfl (take_ofW HT_.out HW_.out (by kernel_rfl)) (fun _ _ _ h => h) (Or.inl ⟨by rfl, ?_⟩) hHeld ?_ ?_
            rotate_left
            ·rintro w' ⟨s0, s1, s2, s3, s4, s5⟩
             go_simp
             with_reducible rfl
            rotate_left
            ·simp only [Act.put, sT_, s0_, sS_, i64_w, i32_w]
             rfl
            refine pu (i := 16) (N := some 35) #[T_,T_,T_,T_,T_,T_,T_,T_,T_,T_,T_,T_,T_,T_,T_,T_,T_,F_,F_] HT_ ?_
            refine pu (i := 17) (N := some 36) #[T_,T_,T_,T_,T_,T_,T_,T_,T_,T_,T_,T_,T_,T_,T_,T_,T_,T_,F_] HT_ ?_
            refine pu (i := 18) (N := some 37) #[T_,T_,T_,T_,T_,T_,T_,T_,T_,T_,T_,T_,T_,T_,T_,T_,T_,T_,T_] HT_ ?_
            refine done_ (done_of HT_.out (by kernel_rfl)) ?_
            try go_wp2
            go_meet
            case rel => exact ⟨_, (decide (((rd_T75 l1 x14_1).f1) < ((rd_T75 l1 (ji13)).f1))), (by first | rfl | (simp; done) | (simp only [← hji13] <;> (first | rfl | simp)) | (simp [*]; done)), H', ⟨by have := HK1.out; first | omega | exact Nat.le_refl _⟩, ⟨by (with_reducible repeat (first | refine blk_drewN ?_ _ | refine blk_drew ?_ | refine blk_alloc ?_ _)); exact BK417.out⟩, ⟨(hg_ GE417)⟩⟩
           ·rw [if_neg c15] at H
            exact absurd H (by simp)
          ·rw [if_neg c14] at H
           exact absurd H (by simp)
         ·rw [if_neg c12] at H
          have c12b0 : decide (0 < x14_1) = false := decide_eq_false c12
          clear c12
          (first | rw [c12b0] | (simp only [i64_w, i32_w]; rw [c12b0]) | skip)
          have H' := ak_ H
          clear H
          try go_wp2
          have n0_ : Aside0 ((((w8.setCell ⟨gb417, 0, none⟩ (.string ((rd_T75 l1 x14_1).f0))).setCell ⟨gb417, 1, none⟩ (.int .i64 ((rd_T75 l1 x14_1).f1))).setCell ⟨gb417, 2, none⟩ (.int .i64 ((rd_T75 l1 x14_1).f2))).heap[gb417]? = some (.cells #[.string ((rd_T75 l1 x14_1).f0), .int .i64 ((rd_T75 l1 x14_1).f1), .int .i64 ((rd_T75 l1 x14_1).f2)] 75 (0, 0))) := ⟨by (with_reducible repeat (first | refine blk_drewN ?_ _ | refine blk_drew ?_ | refine blk_alloc ?_ _)); refine blk_put (cs := #[.string ((rd_T75 l1 x14_1).f0), .int .i64 ((rd_T75 l1 x14_1).f1), .int .i64 0]) ?_ 2 _ rfl; (with_reducible repeat (first | refine blk_drewN ?_ _ | refine blk_drew ?_ | refine blk_alloc ?_ _)); refine blk_put (cs := #[.string ((rd_T75 l1 x14_1).f0), .int .i64 0, .int .i64 0]) ?_ 1 _ rfl; (with_reducible repeat (first | refine blk_drewN ?_ _ | refine blk_drew ?_ | refine blk_alloc ?_ _)); refine blk_put (cs := #[.string (⟨#[]⟩ : ByteArray), .int .i64 0, .int .i64 0]) ?_ 0 _ rfl; (with_reducible repeat (first | refine blk_drewN ?_ _ | refine blk_drew ?_ | refine blk_alloc ?_ _)); exact BK417.out⟩
          have n1_ : Aside0 (Below w.heap.size w (((w8.setCell ⟨gb417, 0, none⟩ (.string ((rd_T75 l1 x14_1).f0))).setCell ⟨gb417, 1, none⟩ (.int .i64 ((rd_T75 l1 x14_1).f1))).setCell ⟨gb417, 2, none⟩ (.int .i64 ((rd_T75 l1 x14_1).f2)))) := ⟨(hg_ GE417)⟩
          (try clear BK417)
          (try clear HB)
          generalize (((w8.setCell ⟨gb417, 0, none⟩ (.string ((rd_T75 l1 x14_1).f0))).setCell ⟨gb417, 1, none⟩ (.int .i64 ((rd_T75 l1 x14_1).f1))).setCell ⟨gb417, 2, none⟩ (.int .i64 ((rd_T75 l1 x14_1).f2))) = w19 at n0_ n1_ ⊢
          have BK417 := n0_
          have HB := n1_
          clear n0_ n1_
          have n0_ := ak_ (blk_drew BK417.out)
          have n1_ := ak_ (below_drew1 HB.out)
          clear BK417
          clear HB
          have BK417 := n0_
          have HB := n1_
          clear n0_ n1_
          refine start_ (n := 19) (S := fun w' => w'.cell? ⟨gb417, 0, none⟩ = some (.string ((rd_T75 l1 x14_1).f0)) ∧ w'.cell? ⟨gb417, 1, none⟩ = some (.int .i64 ((rd_T75 l1 x14_1).f1)) ∧ w'.cell? ⟨gb417, 2, none⟩ = some (.int .i64 ((rd_T75 l1 x14_1).f2))) (ds := []) #[F_,F_,F_,F_,F_,F_,F_,F_,F_,F_,F_,F_,F_,F_,F_,F_,F_,F_,F_] (by kernel_rfl) rfl rfl ⟨(blk_cell BK417.out 0).trans rfl, (blk_cell BK417.out 1).trans rfl, (blk_cell BK417.out 2).trans rfl⟩ (fun hHeld => ?_); refine with_tabW impl_areChecks.tab6 impl_areChecks.bits6 (fun HT_ HW_ => ?_)
          generalize w19.drew = w20 at BK417 HB hHeld ⊢
          refine pu (i := 0) (N := some 19) #[T_,F_,F_,F_,F_,F_,F_,F_,F_,F_,F_,F_,F_,F_,F_,F_,F_,F_,F_] HT_ ?_
          refine take_ (i := 1) (N := some 20) (v := ?_) (a' := ?_) #[T_,T_,F_,F_,F_,F_,F_,F_,F_,F_,F_,F_,F_,F_,F_,F_,F_,F_,F_] rfl rfl (take_ofW HT_.out HW_.out (by kernel_rfl)) (fun _ _ _ h => h) (Or.inl ⟨by rfl, ?_⟩) hHeld ?_ ?_
          rotate_left
          ·rintro w' ⟨s0, s1, s2⟩
           go_simp
           with_reducible rfl
          rotate_left
          ·simp only [Act.put, sT_, s0_, sS_, i64_w, i32_w]
           rfl
          refine one_ (i := 2) (N := some 21) #[T_,T_,T_,F_,F_,F_,F_,F_,F_,F_,F_,F_,F_,F_,F_,F_,F_,F_,F_] rfl rfl (one_of HT_.out (by kernel_rfl)) (by decide) (fun K hK => ?_)
          refine goes_ Try.func128 (by kernel_rfl) rfl #[.slice A0 l0.length c0, .agg #[.string ((rd_T75 l1 x14_1).f0), .int .i64 ((rd_T75 l1 x14_1).f1), .int .i64 ((rd_T75 l1 x14_1).f2)]] (by rfl) rfl rfl ln_ ?_
          with_reducible refine (impl_isCheck.calls _ _ l0 ((rd_T75 l1 x14_1).f0) ((rd_T75 l1 x14_1).f1) ((rd_T75 l1 x14_1).f2) true _ ?side1 ?side2 A10.out).mono ?_
          (case side1 => exact kc_ (Kd.C_below HR0.out HB.out))
          (case side2 => exact HC0.out)
          rintro e w21 ⟨rfl, hb⟩
          refine ⟨_, rfl, ?_⟩
          have n0_ := ak_ (blk_below (g := gb417) (o := .cells #[.string ((rd_T75 l1 x14_1).f0), .int .i64 ((rd_T75 l1 x14_1).f1), .int .i64 ((rd_T75 l1 x14_1).f2)] 75 (0, 0)) (bk_ BK417) hb)
          have n1_ := ak_ (below_step (hg_ GE417) hb)
          clear BK417
          clear HB
          have BK417 := n0_
          have HB := n1_
          clear n0_ n1_
          (try clear hb)
          (try clear hb2)
          (try clear hk)
          (try clear hi)
          refine hK.out _ _ ⟨(blk_cell BK417.out 0).trans rfl, (blk_cell BK417.out 1).trans rfl, (blk_cell BK417.out 2).trans rfl⟩ (fun hHeld => ?_)
          clear hK K
          refine norm_ (a' := ?_) ?_ ?_
          rotate_left
          ·show Act.put _ (some 21) _ = _
           simp only [Act.put, sT_, s0_, sS_, i64_w, i32_w]
           rfl
          refine pu (i := 3) (N := some 22) #[T_,T_,T_,T_,F_,F_,F_,F_,F_,F_,F_,F_,F_,F_,F_,F_,F_,F_,F_] HT_ ?_
          refine pu (i := 4) (N := some 23) #[T_,T_,T_,T_,T_,F_,F_,F_,F_,F_,F_,F_,F_,F_,F_,F_,F_,F_,F_] HT_ ?_
          refine pu (i := 5) (N := some 24) #[T_,T_,T_,T_,T_,T_,F_,F_,F_,F_,F_,F_,F_,F_,F_,F_,F_,F_,F_] HT_ ?_
          refine pu (i := 6) (N := some 25) #[T_,T_,T_,T_,T_,T_,T_,F_,F_,F_,F_,F_,F_,F_,F_,F_,F_,F_,F_] HT_ ?_
          refine pu (i := 7) (N := some 26) #[T_,T_,T_,T_,T_,T_,T_,T_,F_,F_,F_,F_,F_,F_,F_,F_,F_,F_,F_] HT_ ?_
          refine pn (i := 8) (N := some 27) #[T_,T_,T_,T_,T_,T_,T_,T_,T_,F_,F_,F_,F_,F_,F_,F_,F_,F_,F_] HT_ ?_
          refine pn (i := 9) (N := some 28) #[T_,T_,T_,T_,T_,T_,T_,T_,T_,T_,F_,F_,F_,F_,F_,F_,F_,F_,F_] HT_ ?_
          refine pn (i := 10) (N := some 29) #[T_,T_,T_,T_,T_,T_,T_,T_,T_,T_,T_,F_,F_,F_,F_,F_,F_,F_,F_] HT_ ?_
          refine pn (i := 11) (N := some 30) #[T_,T_,T_,T_,T_,T_,T_,T_,T_,T_,T_,T_,F_,F_,F_,F_,F_,F_,F_] HT_ ?_
          refine pn (i := 12) (N := some 31) #[T_,T_,T_,T_,T_,T_,T_,T_,T_,T_,T_,T_,T_,F_,F_,F_,F_,F_,F_] HT_ ?_
          refine pn (i := 13) (N := some 32) #[T_,T_,T_,T_,T_,T_,T_,T_,T_,T_,T_,T_,T_,T_,F_,F_,F_,F_,F_] HT_ ?_
          refine pn (i := 14) (N := some 33) #[T_,T_,T_,T_,T_,T_,T_,T_,T_,T_,T_,T_,T_,T_,T_,F_,F_,F_,F_] HT_ ?_
          refine pn (i := 15) (N := some 34) #[T_,T_,T_,T_,T_,T_,T_,T_,T_,T_,T_,T_,T_,T_,T_,T_,F_,F_,F_] HT_ ?_
          refine pn (i := 16) (N := some 35) #[T_,T_,T_,T_,T_,T_,T_,T_,T_,T_,T_,T_,T_,T_,T_,T_,T_,F_,F_] HT_ ?_
          refine pu (i := 17) (N := some 36) #[T_,T_,T_,T_,T_,T_,T_,T_,T_,T_,T_,T_,T_,T_,T_,T_,T_,T_,F_] HT_ ?_
          refine pu (i := 18) (N := some 37) #[T_,T_,T_,T_,T_,T_,T_,T_,T_,T_,T_,T_,T_,T_,T_,T_,T_,T_,T_] HT_ ?_
          refine done_ (done_of HT_.out (by kernel_rfl)) ?_
          try go_wp2
          go_meet
          case rel => exact ⟨_, (false), fr_, H', ⟨by have := HK1.out; first | omega | exact Nat.le_refl _⟩, ⟨by (with_reducible repeat (first | refine blk_drewN ?_ _ | refine blk_drew ?_ | refine blk_alloc ?_ _)); exact BK417.out⟩, ⟨(hg_ GE417)⟩⟩
        ·replace c11 := Bool.eq_false_iff.mpr c11
         subst c11
         have H1 : (impl_areChecks.j1 k1 l0 l1 x14_1 l1 (l1.length : Int) x14_1 true ((rd_T75 l1 x14_1).f0) ((rd_T75 l1 x14_1).f1) ((rd_T75 l1 x14_1).f2)) = some r := by rw [if_neg (show ¬ (false = true) by decide)] at H; exact H
         clear H
         have H := H1
         clear H1
         have H' := ak_ H
         clear H
         try go_wp2
         have n0_ : Aside0 ((((w8.setCell ⟨gb417, 0, none⟩ (.string ((rd_T75 l1 x14_1).f0))).setCell ⟨gb417, 1, none⟩ (.int .i64 ((rd_T75 l1 x14_1).f1))).setCell ⟨gb417, 2, none⟩ (.int .i64 ((rd_T75 l1 x14_1).f2))).heap[gb417]? = some (.cells #[.string ((rd_T75 l1 x14_1).f0), .int .i64 ((rd_T75 l1 x14_1).f1), .int .i64 ((rd_T75 l1 x14_1).f2)] 75 (0, 0))) := ⟨by (with_reducible repeat (first | refine blk_drewN ?_ _ | refine blk_drew ?_ | refine blk_alloc ?_ _)); refine blk_put (cs := #[.string ((rd_T75 l1 x14_1).f0), .int .i64 ((rd_T75 l1 x14_1).f1), .int .i64 0]) ?_ 2 _ rfl; (with_reducible repeat (first | refine blk_drewN ?_ _ | refine blk_drew ?_ | refine blk_alloc ?_ _)); refine blk_put (cs := #[.string ((rd_T75 l1 x14_1).f0), .int .i64 0, .int .i64 0]) ?_ 1 _ rfl; (with_reducible repeat (first | refine blk_drewN ?_ _ | refine blk_drew ?_ | refine blk_alloc ?_ _)); refine blk_put (cs := #[.string (⟨#[]⟩ : ByteArray), .int .i64 0, .int .i64 0]) ?_ 0 _ rfl; (with_reducible repeat (first | refine blk_drewN ?_ _ | refine blk_drew ?_ | refine blk_alloc ?_ _)); exact BK417.out⟩
         have n1_ : Aside0 (Below w.heap.size w (((w8.setCell ⟨gb417, 0, none⟩ (.string ((rd_T75 l1 x14_1).f0))).setCell ⟨gb417, 1, none⟩ (.int .i64 ((rd_T75 l1 x14_1).f1))).setCell ⟨gb417, 2, none⟩ (.int .i64 ((rd_T75 l1 x14_1).f2)))) := ⟨(hg_ GE417)⟩
         (try clear BK417)
         (try clear HB)
         generalize (((w8.setCell ⟨gb417, 0, none⟩ (.string ((rd_T75 l1 x14_1).f0))).setCell ⟨gb417, 1, none⟩ (.int .i64 ((rd_T75 l1 x14_1).f1))).setCell ⟨gb417, 2, none⟩ (.int .i64 ((rd_T75 l1 x14_1).f2))) = w22 at n0_ n1_ ⊢
         have BK417 := n0_
         have HB := n1_
         clear n0_ n1_
         have n0_ := ak_ (blk_drew BK417.out)
         have n1_ := ak_ (below_drew1 HB.out)
         clear BK417
         clear HB
         have BK417 := n0_
         have HB := n1_
         clear n0_ n1_
         refine start_ (n := 19) (S := fun w' => w'.cell? ⟨gb417, 0, none⟩ = some (.string ((rd_T75 l1 x14_1).f0)) ∧ w'.cell? ⟨gb417, 1, none⟩ = some (.int .i64 ((rd_T75 l1 x14_1).f1)) ∧ w'.cell? ⟨gb417, 2, none⟩ = some (.int .i64 ((rd_T75 l1 x14_1).f2))) (ds := []) #[F_,F_,F_,F_,F_,F_,F_,F_,F_,F_,F_,F_,F_,F_,F_,F_,F_,F_,F_] (by kernel_rfl) rfl rfl ⟨(blk_cell BK417.out 0).trans rfl, (blk_cell BK417.out 1).trans rfl, (blk_cell BK417.out 2).trans rfl⟩ (fun hHeld => ?_); refine with_tabW impl_areChecks.tab6 impl_areChecks.bits6 (fun HT_ HW_ => ?_)
         generalize w22.drew = w23 at BK417 HB hHeld ⊢
         refine pu (i := 0) (N := some 19) #[T_,F_,F_,F_,F_,F_,F_,F_,F_,F_,F_,F_,F_,F_,F_,F_,F_,F_,F_] HT_ ?_
         refine take_ (i := 1) (N := some 20) (v := ?_) (a' := ?_) #[T_,T_,F_,F_,F_,F_,F_,F_,F_,F_,F_,F_,F_,F_,F_,F_,F_,F_,F_] rfl rfl (take_ofW HT_.out HW_.out (by kernel_rfl)) (fun _ _ _ h => h) (Or.inl ⟨by rfl, ?_⟩) hHeld ?_ ?_
         rotate_left
         ·rintro w' ⟨s0, s1, s2⟩
          go_simp
          with_reducible rfl
         rotate_left
         ·simp only [Act.put, sT_, s0_, sS_, i64_w, i32_w]
          rfl
         refine one_ (i := 2) (N := some 21) #[T_,T_,T_,F_,F_,F_,F_,F_,F_,F_,F_,F_,F_,F_,F_,F_,F_,F_,F_] rfl rfl (one_of HT_.out (by kernel_rfl)) (by decide) (fun K hK => ?_)
         refine goes_ Try.func128 (by kernel_rfl) rfl #[.slice A0 l0.length c0, .agg #[.string ((rd_T75 l1 x14_1).f0), .int .i64 ((rd_T75 l1 x14_1).f1), .int .i64 ((rd_T75 l1 x14_1).f2)]] (by rfl) rfl rfl ln_ ?_
         with_reducible refine (impl_isCheck.calls _ _ l0 ((rd_T75 l1 x14_1).f0) ((rd_T75 l1 x14_1).f1) ((rd_T75 l1 x14_1).f2) false _ ?side1 ?side2 A10.out).mono ?_
         (case side1 => exact kc_ (Kd.C_below HR0.out HB.out))
         (case side2 => exact HC0.out)
         rintro e w24 ⟨rfl, hb⟩
         refine ⟨_, rfl, ?_⟩
         have n0_ := ak_ (blk_below (g := gb417) (o := .cells #[.string ((rd_T75 l1 x14_1).f0), .int .i64 ((rd_T75 l1 x14_1).f1), .int .i64 ((rd_T75 l1 x14_1).f2)] 75 (0, 0)) (bk_ BK417) hb)
         have n1_ := ak_ (below_step (hg_ GE417) hb)
         clear BK417
         clear HB
         have BK417 := n0_
         have HB := n1_
         clear n0_ n1_
         (try clear hb)
         (try clear hb2)
         (try clear hk)
         (try clear hi)
         refine hK.out _ _ ⟨(blk_cell BK417.out 0).trans rfl, (blk_cell BK417.out 1).trans rfl, (blk_cell BK417.out 2).trans rfl⟩ (fun hHeld => ?_)
         clear hK K
         refine norm_ (a' := ?_) ?_ ?_
         rotate_left
         ·show Act.put _ (some 21) _ = _
          simp only [Act.put, sT_, s0_, sS_, i64_w, i32_w]
          rfl
         refine pu (i := 3) (N := some 22) #[T_,T_,T_,T_,F_,F_,F_,F_,F_,F_,F_,F_,F_,F_,F_,F_,F_,F_,F_] HT_ ?_
         refine pu (i := 4) (N := some 23) #[T_,T_,T_,T_,T_,F_,F_,F_,F_,F_,F_,F_,F_,F_,F_,F_,F_,F_,F_] HT_ ?_
         refine pn (i := 5) (N := some 24) #[T_,T_,T_,T_,T_,T_,F_,F_,F_,F_,F_,F_,F_,F_,F_,F_,F_,F_,F_] HT_ ?_
         refine pn (i := 6) (N := some 25) #[T_,T_,T_,T_,T_,T_,T_,F_,F_,F_,F_,F_,F_,F_,F_,F_,F_,F_,F_] HT_ ?_
         refine pn (i := 7) (N := some 26) #[T_,T_,T_,T_,T_,T_,T_,T_,F_,F_,F_,F_,F_,F_,F_,F_,F_,F_,F_] HT_ ?_
         refine pn (i := 8) (N := some 27) #[T_,T_,T_,T_,T_,T_,T_,T_,T_,F_,F_,F_,F_,F_,F_,F_,F_,F_,F_] HT_ ?_
         refine pn (i := 9) (N := some 28) #[T_,T_,T_,T_,T_,T_,T_,T_,T_,T_,F_,F_,F_,F_,F_,F_,F_,F_,F_] HT_ ?_
         refine pn (i := 10) (N := some 29) #[T_,T_,T_,T_,T_,T_,T_,T_,T_,T_,T_,F_,F_,F_,F_,F_,F_,F_,F_] HT_ ?_
         refine pn (i := 11) (N := some 30) #[T_,T_,T_,T_,T_,T_,T_,T_,T_,T_,T_,T_,F_,F_,F_,F_,F_,F_,F_] HT_ ?_
         refine pn (i := 12) (N := some 31) #[T_,T_,T_,T_,T_,T_,T_,T_,T_,T_,T_,T_,T_,F_,F_,F_,F_,F_,F_] HT_ ?_
         refine pn (i := 13) (N := some 32) #[T_,T_,T_,T_,T_,T_,T_,T_,T_,T_,T_,T_,T_,T_,F_,F_,F_,F_,F_] HT_ ?_
         refine pn (i := 14) (N := some 33) #[T_,T_,T_,T_,T_,T_,T_,T_,T_,T_,T_,T_,T_,T_,T_,F_,F_,F_,F_] HT_ ?_
         refine pn (i := 15) (N := some 34) #[T_,T_,T_,T_,T_,T_,T_,T_,T_,T_,T_,T_,T_,T_,T_,T_,F_,F_,F_] HT_ ?_
         refine pn (i := 16) (N := some 35) #[T_,T_,T_,T_,T_,T_,T_,T_,T_,T_,T_,T_,T_,T_,T_,T_,T_,F_,F_] HT_ ?_
         refine pn (i := 17) (N := some 36) #[T_,T_,T_,T_,T_,T_,T_,T_,T_,T_,T_,T_,T_,T_,T_,T_,T_,T_,F_] HT_ ?_
         refine pu (i := 18) (N := some 37) #[T_,T_,T_,T_,T_,T_,T_,T_,T_,T_,T_,T_,T_,T_,T_,T_,T_,T_,T_] HT_ ?_
         refine done_ (done_of HT_.out (by kernel_rfl)) ?_
         try go_wp2
         go_meet
         case rel => exact ⟨_, (true), fr_, H', ⟨by have := HK1.out; first | omega | exact Nat.le_refl _⟩, ⟨by (with_reducible repeat (first | refine blk_drewN ?_ _ | refine blk_drew ?_ | refine blk_alloc ?_ _)); exact BK417.out⟩, ⟨(hg_ GE417)⟩⟩
       case rest =>
        clear HC7
        try clear c1
        try clear p2
        try clear c3
        try clear c3b0
        try clear c3b1
        try clear c4
        try clear c4b0
        try clear p4
        try clear q4
        try clear hx4
        try clear c5
        try clear c5b0
        try clear c6
        try clear c6b0
        try clear p6
        try clear c10
        try clear c11
        try clear c12
        try clear c12b0
        try clear c14
        try clear c14b0
        try clear c15
        try clear c15b0
        try clear hcz9_0
        try clear hcz9_1
        try clear hcz9_2
        try clear hfz9_0
        try clear hfz9_1
        try clear hfz9_2
        try clear hx416_0
        try clear hx416_1
        try clear hx416_2
        try clear hx419_0
        try clear hx419_1
        try clear hx419_2
        try clear p2
        try clear p416
        try clear p419
        try clear q416
        try clear q419
        obtain ⟨kq, x37_6, rfl, HA, HJ6, BK417, HB⟩ := hcut
        cases kq with
        | zero => exact absurd HA.out (by simp [impl_areChecks.j1])
        | succ kj6 =>
         have H := HA.out
         clear HA
         simp only [impl_areChecks.j1] at H
         by_cases c25 : x37_6 = true
         ·subst c25
          have H1 : (some false) = some r := by rw [if_pos rfl] at H; exact H
          clear H
          have H := H1
          clear H1
          obtain rfl := Option.some.inj H
          go_wp2
          go_ret
          exact ⟨ew_, (hg_ GE417)⟩
         ·replace c25 := Bool.eq_false_iff.mpr c25
          subst c25
          have H1 : (if 0 ≤ x14_1 then (if x14_1 ≤ (l1.length : Int) then ((some (l1.take (x14_1 : Int).toNat : List (S75))).bind fun y420 => (impl_areChecks.l1 kj6 l0 l1 l1 (l1.length : Int) x14_1 y420 (y420.length : Int) 0 ((rd_T75 l1 x14_1).f0) ((rd_T75 l1 x14_1).f1) ((rd_T75 l1 x14_1).f2))) else (none)) else (none)) = some r := by rw [if_neg (show ¬ (false = true) by decide)] at H; exact H
          clear H
          have H := H1
          clear H1
          by_cases c26 : 0 ≤ x14_1
          ·rw [if_pos c26] at H
           have c26b0 := eq_true c26
           have c26b1 : decide (0 ≤ x14_1) = true := dt_ c26
           clear c26
           by_cases c27 : x14_1 ≤ (l1.length : Int)
           ·rw [if_pos c27] at H
            have c27b0 := eq_true c27
            have c27b1 : decide (x14_1 ≤ (l1.length : Int)) = true := dt_ c27
            clear c27
            obtain ⟨y420, hy420⟩ : ∃ y_ : List (S75), y_ = (l1.take (x14_1 : Int).toNat) := ⟨_, rfl⟩
            replace H : (impl_areChecks.l1 kj6 l0 l1 l1 (l1.length : Int) x14_1 y420 (y420.length : Int) 0 ((rd_T75 l1 x14_1).f0) ((rd_T75 l1 x14_1).f1) ((rd_T75 l1 x14_1).f2)) = some r := by first | (rw [hy420]; with_reducible exact H) | (have H2_ := (Option.bind_some _ _).symm.trans H; rw [hy420]; with_reducible exact H2_) | (have H2_ := (Option.bind_some _ _).symm.trans H; with_reducible exact H2_) | with_reducible exact H | (rw [hy420]; exact H) | exact H
            have Ny420 := ak_ hy420
            clear hy420
            have H' := ak_ H
            clear H
            have q28 : (x14_1 : Int) ≤ ((l1.length : Int) : Int) := od_
            obtain ⟨i028, hi028, _, hsz28, _⟩ := info_parts info75
            have hroom28 : l1.length ≤ c1 := HC1.out
            have hC28 : Kd.C k75 _ (some ad416) l1.length l1 := HR1.out
            have hcut28 := cut_to (P := Try.prog) 54 75 .i64 Try.underlying54 hi028 (some ad416) l1.length c1 x14_1 (od_) q28 hroom28
            have hr28 := Kd.C_take (m := (x14_1 : Int).toNat) hC28 (by omega)
            have hy28 : y420.length = (x14_1 : Int).toNat := (by rw [Ny420.out, List.length_take]; omega)
            rw [← Ny420.out] at hr28
            rw [← hy28] at hcut28
            have HR423 := ak_ hr28
            have HC423 := ak_ (show y420.length ≤ c1 from by omega)
            clear hr28 hC28 hroom28 hi028 hsz28
            have KY28 := ak_ hy28
            clear hy28
            replace q28 := eq_true q28
            go_wp2
            go_loopg [42] kj6 (fun kq v42 w' => ∃ (x42_3 : Int), v42 = .int .i64 x42_3 ∧ Aside0 (impl_areChecks.l1 kq l0 l1 l1 (l1.length : Int) x14_1 y420 (y420.length : Int) x42_3 ((rd_T75 l1 x14_1).f0) ((rd_T75 l1 x14_1).f1) ((rd_T75 l1 x14_1).f2) = some r) ∧ Aside0 (kq ≤ kj6) ∧ Aside0 (w'.heap[gb417]? = some (.cells #[.string ((rd_T75 l1 x14_1).f0), .int .i64 ((rd_T75 l1 x14_1).f1), .int .i64 ((rd_T75 l1 x14_1).f2)] 75 (0, 0))) ∧ Aside0 (Below w.heap.size w w'))
            case atStart => exact ⟨(0), fr_, H', ⟨Nat.le_refl _⟩, ⟨by (with_reducible repeat (first | refine blk_drewN ?_ _ | refine blk_drew ?_ | refine blk_alloc ?_ _)); exact BK417.out⟩, ⟨(hg_ GE417)⟩⟩
            case round =>
             clear H'
             try clear c1
             try clear c2
             try clear p2
             try clear q2
             try clear c3
             try clear c3b0
             try clear c3b1
             try clear c4
             try clear c4b0
             try clear p4
             try clear q4
             try clear hx4
             try clear c5
             try clear c5b0
             try clear c6
             try clear c6b0
             try clear p6
             try clear c10
             try clear c11
             try clear c12
             try clear c12b0
             try clear c14
             try clear c14b0
             try clear c15
             try clear c15b0
             try clear c25
             try clear c26
             try clear c26b0
             try clear c26b1
             try clear c27
             try clear c27b0
             try clear c27b1
             try clear q28
             try clear hcz9_0
             try clear hcz9_1
             try clear hcz9_2
             try clear hfz9_0
             try clear hfz9_1
             try clear hfz9_2
             try clear hx416_0
             try clear hx416_1
             try clear hx416_2
             try clear hx419_0
             try clear hx419_1
             try clear hx419_2
             try clear p2
             try clear p4
             try clear p416
             try clear p419
             try clear p6
             try clear q28
             try clear q4
             try clear q416
             try clear q419
             obtain ⟨x42_3, rfl, HA, HK3, BK417, HB⟩ := hrel
             cases gk with
             | zero => exact absurd HA.out (by simp [impl_areChecks.l1])
             | succ k3 =>
              have H := HA.out
              clear HA
              simp only [impl_areChecks.l1] at H
              by_cases c29 : x42_3 < (y420.length : Int)
              ·rw [if_pos c29] at H
               have c29b0 : decide (x42_3 < (y420.length : Int)) = true := dt_ c29
               clear c29
               by_cases c30 : 0 ≤ x42_3
               ·rw [if_pos c30] at H
                have c30b0 : decide (0 ≤ x42_3) = true := dt_ c30
                clear c30
                by_cases c31 : x42_3 < (y420.length : Int)
                ·rw [if_pos c31] at H
                 have c31b0 : decide (x42_3 < (y420.length : Int)) = true := dt_ c31
                 clear c31
                 by_cases c32 : ((rd_T75 y420 x42_3).f0).toList = ((rd_T75 l1 x14_1).f0).toList
                 ·rw [if_pos c32] at H
                  have c32b0 : (((rd_T75 y420 x42_3).f0).toList == ((rd_T75 l1 x14_1).f0).toList) = true := beq_iff_eq.mpr c32
                  have c32b1 : (((rd_T75 y420 x42_3).f0).toList != ((rd_T75 l1 x14_1).f0).toList) = false := bne_eq_false_iff_eq.mpr c32
                  clear c32
                  by_cases c33 : ((rd_T75 l1 x14_1).f1) ≤ ((rd_T75 y420 x42_3).f1)
                  ·rw [if_pos c33] at H
                   have c33b0 : decide (((rd_T75 l1 x14_1).f1) ≤ ((rd_T75 y420 x42_3).f1)) = true := dt_ c33
                   clear c33
                   obtain rfl := Option.some.inj H
                   have p424 : 0 ≤ (x42_3 : Int) := od_
                   have q424 : x42_3 < (y420.length : Int) := od_
                   obtain ⟨ad424, e424, hx424_0, hx424_1, hx424_2⟩ := at_T75 HR423.out x42_3 p424 q424
                   obtain rfl : ad416 = ad424 := (by injection e424)
                   replace hx424_0 := cq_ HB hx424_0
                   replace hx424_1 := cq_ HB hx424_1
                   replace hx424_2 := cq_ HB hx424_2
                   replace p424 := eq_true p424
                   replace q424 := eq_true q424
                   go_wp2_with (first | ((with_reducible refine gate_dst (N := 8) rfl ?_); refine box_event ?hg (N := 8) ?hd (cs := #[.string (⟨#[]⟩ : ByteArray), .int .i64 0, .int .i64 0]) (t := 75) ?hr ?_; (case hd => rfl); (case hg => rfl); (case hr => first | (go_simp; done) | (go_simp; rfl)); intro gb425 hg w34 hbox hb; have n0_ := ak_ (blk_below (g := gb417) (o := .cells #[.string ((rd_T75 l1 x14_1).f0), .int .i64 ((rd_T75 l1 x14_1).f1), .int .i64 ((rd_T75 l1 x14_1).f2)] 75 (0, 0)) (bk_ BK417) hb); have n1_ := ak_ (below_step (hg_ GE417) hb); have n2_ := ak_ (hbox); have n3_ := ak_ ((by rw [hg]; exact (below_size (hg_ GE417)) : w.heap.size ≤ gb425)); have n4_ := ak_ ((by rw [hg]; exact (below_size (hg_ GE417)) : w.heap.size ≤ gb425)); have n5_ := ak_ ((by rw [hg]; exact Nat.ne_of_lt (blk_lt (g := gb417) (o := .cells #[.string ((rd_T75 l1 x14_1).f0), .int .i64 ((rd_T75 l1 x14_1).f1), .int .i64 ((rd_T75 l1 x14_1).f2)] 75 (0, 0)) (bk_ BK417)) : gb417 ≠ gb425)); have n6_ := ak_ ((by rw [hg]; exact Nat.ne_of_gt (blk_lt (g := gb417) (o := .cells #[.string ((rd_T75 l1 x14_1).f0), .int .i64 ((rd_T75 l1 x14_1).f1), .int .i64 ((rd_T75 l1 x14_1).f2)] 75 (0, 0)) (bk_ BK417)) : gb425 ≠ gb417)); clear BK417 HB; have BK417 := n0_; have HB := n1_; have BK425 := n2_; have GW425 := n3_; have GE425 := n4_; have NB417_425 := n5_; have NB425_417 := n6_; clear n0_ n1_ n2_ n3_ n4_ n5_ n6_; clear hb hbox hg; have hnb35 := NB425_417.out; have hnc35 := NB417_425.out; have hcz36_0 : w34.cell? ⟨gb425, 0, none⟩ = some (.string (⟨#[]⟩ : ByteArray)) := (blk_cell BK425.out 0).trans rfl; have hcz36_1 : w34.cell? ⟨gb425, 1, none⟩ = some (.int .i64 0) := (blk_cell BK425.out 1).trans rfl; have hcz36_2 : w34.cell? ⟨gb425, 2, none⟩ = some (.int .i64 0) := (blk_cell BK425.out 2).trans rfl; have hfz36_0 := blk_frozen BK425.out 0; have hfz36_1 := blk_frozen BK425.out 1; have hfz36_2 := blk_frozen BK425.out 2; have hcz37_0 : w34.cell? ⟨gb417, 0, none⟩ = some (.string ((rd_T75 l1 x14_1).f0)) := (blk_cell BK417.out 0).trans rfl; have hcz37_1 : w34.cell? ⟨gb417, 1, none⟩ = some (.int .i64 ((rd_T75 l1 x14_1).f1)) := (blk_cell BK417.out 1).trans rfl; have hcz37_2 : w34.cell? ⟨gb417, 2, none⟩ = some (.int .i64 ((rd_T75 l1 x14_1).f2)) := (blk_cell BK417.out 2).trans rfl; have hfz37_0 := blk_frozen BK417.out 0; have hfz37_1 := blk_frozen BK417.out 1; have hfz37_2 := blk_frozen BK417.out 2))
                   go_ret
                   exact ⟨ew_, (hg2_ GE417 GE425)⟩
                  ·rw [if_neg c33] at H
                   have c33b0 : decide (((rd_T75 l1 x14_1).f1) ≤ ((rd_T75 y420 x42_3).f1)) = false := decide_eq_false c33
                   clear c33
                   by_cases c38 : ((rd_T75 l1 x14_1).f2) < ((rd_T75 y420 x42_3).f2)
                   ·rw [if_pos c38] at H
                    have c38b0 : decide (((rd_T75 l1 x14_1).f2) < ((rd_T75 y420 x42_3).f2)) = true := dt_ c38
                    clear c38
                    obtain rfl := Option.some.inj H
                    have p424 : 0 ≤ (x42_3 : Int) := od_
                    have q424 : x42_3 < (y420.length : Int) := od_
                    obtain ⟨ad424, e424, hx424_0, hx424_1, hx424_2⟩ := at_T75 HR423.out x42_3 p424 q424
                    obtain rfl : ad416 = ad424 := (by injection e424)
                    replace hx424_0 := cq_ HB hx424_0
                    replace hx424_1 := cq_ HB hx424_1
                    replace hx424_2 := cq_ HB hx424_2
                    replace p424 := eq_true p424
                    replace q424 := eq_true q424
                    go_wp2_with (first | ((with_reducible refine gate_dst (N := 8) rfl ?_); refine box_event ?hg (N := 8) ?hd (cs := #[.string (⟨#[]⟩ : ByteArray), .int .i64 0, .int .i64 0]) (t := 75) ?hr ?_; (case hd => rfl); (case hg => rfl); (case hr => first | (go_simp; done) | (go_simp; rfl)); intro gb425 hg w39 hbox hb; have n0_ := ak_ (blk_below (g := gb417) (o := .cells #[.string ((rd_T75 l1 x14_1).f0), .int .i64 ((rd_T75 l1 x14_1).f1), .int .i64 ((rd_T75 l1 x14_1).f2)] 75 (0, 0)) (bk_ BK417) hb); have n1_ := ak_ (below_step (hg_ GE417) hb); have n2_ := ak_ (hbox); have n3_ := ak_ ((by rw [hg]; exact (below_size (hg_ GE417)) : w.heap.size ≤ gb425)); have n4_ := ak_ ((by rw [hg]; exact (below_size (hg_ GE417)) : w.heap.size ≤ gb425)); have n5_ := ak_ ((by rw [hg]; exact Nat.ne_of_lt (blk_lt (g := gb417) (o := .cells #[.string ((rd_T75 l1 x14_1).f0), .int .i64 ((rd_T75 l1 x14_1).f1), .int .i64 ((rd_T75 l1 x14_1).f2)] 75 (0, 0)) (bk_ BK417)) : gb417 ≠ gb425)); have n6_ := ak_ ((by rw [hg]; exact Nat.ne_of_gt (blk_lt (g := gb417) (o := .cells #[.string ((rd_T75 l1 x14_1).f0), .int .i64 ((rd_T75 l1 x14_1).f1), .int .i64 ((rd_T75 l1 x14_1).f2)] 75 (0, 0)) (bk_ BK417)) : gb425 ≠ gb417)); clear BK417 HB; have BK417 := n0_; have HB := n1_; have BK425 := n2_; have GW425 := n3_; have GE425 := n4_; have NB417_425 := n5_; have NB425_417 := n6_; clear n0_ n1_ n2_ n3_ n4_ n5_ n6_; clear hb hbox hg; have hnb40 := NB425_417.out; have hnc40 := NB417_425.out; have hcz41_0 : w39.cell? ⟨gb425, 0, none⟩ = some (.string (⟨#[]⟩ : ByteArray)) := (blk_cell BK425.out 0).trans rfl; have hcz41_1 : w39.cell? ⟨gb425, 1, none⟩ = some (.int .i64 0) := (blk_cell BK425.out 1).trans rfl; have hcz41_2 : w39.cell? ⟨gb425, 2, none⟩ = some (.int .i64 0) := (blk_cell BK425.out 2).trans rfl; have hfz41_0 := blk_frozen BK425.out 0; have hfz41_1 := blk_frozen BK425.out 1; have hfz41_2 := blk_frozen BK425.out 2; have hcz42_0 : w39.cell? ⟨gb417, 0, none⟩ = some (.string ((rd_T75 l1 x14_1).f0)) := (blk_cell BK417.out 0).trans rfl; have hcz42_1 : w39.cell? ⟨gb417, 1, none⟩ = some (.int .i64 ((rd_T75 l1 x14_1).f1)) := (blk_cell BK417.out 1).trans rfl; have hcz42_2 : w39.cell? ⟨gb417, 2, none⟩ = some (.int .i64 ((rd_T75 l1 x14_1).f2)) := (blk_cell BK417.out 2).trans rfl; have hfz42_0 := blk_frozen BK417.out 0; have hfz42_1 := blk_frozen BK417.out 1; have hfz42_2 := blk_frozen BK417.out 2))
                    go_ret
                    exact ⟨ew_, (hg2_ GE417 GE425)⟩
                   ·rw [if_neg c38] at H
                    have c38b0 : decide (((rd_T75 l1 x14_1).f2) < ((rd_T75 y420 x42_3).f2)) = false := decide_eq_false c38
                    clear c38
                    have H' := ak_ H
                    clear H
                    have p424 : 0 ≤ (x42_3 : Int) := od_
                    have q424 : x42_3 < (y420.length : Int) := od_
                    obtain ⟨ad424, e424, hx424_0, hx424_1, hx424_2⟩ := at_T75 HR423.out x42_3 p424 q424
                    obtain rfl : ad416 = ad424 := (by injection e424)
                    replace hx424_0 := cq_ HB hx424_0
                    replace hx424_1 := cq_ HB hx424_1
                    replace hx424_2 := cq_ HB hx424_2
                    replace p424 := eq_true p424
                    replace q424 := eq_true q424
                    go_wp2_with (first | ((with_reducible refine gate_dst (N := 8) rfl ?_); refine box_event ?hg (N := 8) ?hd (cs := #[.string (⟨#[]⟩ : ByteArray), .int .i64 0, .int .i64 0]) (t := 75) ?hr ?_; (case hd => rfl); (case hg => rfl); (case hr => first | (go_simp; done) | (go_simp; rfl)); intro gb425 hg w43 hbox hb; have n0_ := ak_ (blk_below (g := gb417) (o := .cells #[.string ((rd_T75 l1 x14_1).f0), .int .i64 ((rd_T75 l1 x14_1).f1), .int .i64 ((rd_T75 l1 x14_1).f2)] 75 (0, 0)) (bk_ BK417) hb); have n1_ := ak_ (below_step (hg_ GE417) hb); have n2_ := ak_ (hbox); have n3_ := ak_ ((by rw [hg]; exact (below_size (hg_ GE417)) : w.heap.size ≤ gb425)); have n4_ := ak_ ((by rw [hg]; exact (below_size (hg_ GE417)) : w.heap.size ≤ gb425)); have n5_ := ak_ ((by rw [hg]; exact Nat.ne_of_lt (blk_lt (g := gb417) (o := .cells #[.string ((rd_T75 l1 x14_1).f0), .int .i64 ((rd_T75 l1 x14_1).f1), .int .i64 ((rd_T75 l1 x14_1).f2)] 75 (0, 0)) (bk_ BK417)) : gb417 ≠ gb425)); have n6_ := ak_ ((by rw [hg]; exact Nat.ne_of_gt (blk_lt (g := gb417) (o := .cells #[.string ((rd_T75 l1 x14_1).f0), .int .i64 ((rd_T75 l1 x14_1).f1), .int .i64 ((rd_T75 l1 x14_1).f2)] 75 (0, 0)) (bk_ BK417)) : gb425 ≠ gb417)); clear BK417 HB; have BK417 := n0_; have HB := n1_; have BK425 := n2_; have GW425 := n3_; have GE425 := n4_; have NB417_425 := n5_; have NB425_417 := n6_; clear n0_ n1_ n2_ n3_ n4_ n5_ n6_; clear hb hbox hg; have hnb44 := NB425_417.out; have hnc44 := NB417_425.out; have hcz45_0 : w43.cell? ⟨gb425, 0, none⟩ = some (.string (⟨#[]⟩ : ByteArray)) := (blk_cell BK425.out 0).trans rfl; have hcz45_1 : w43.cell? ⟨gb425, 1, none⟩ = some (.int .i64 0) := (blk_cell BK425.out 1).trans rfl; have hcz45_2 : w43.cell? ⟨gb425, 2, none⟩ = some (.int .i64 0) := (blk_cell BK425.out 2).trans rfl; have hfz45_0 := blk_frozen BK425.out 0; have hfz45_1 := blk_frozen BK425.out 1; have hfz45_2 := blk_frozen BK425.out 2; have hcz46_0 : w43.cell? ⟨gb417, 0, none⟩ = some (.string ((rd_T75 l1 x14_1).f0)) := (blk_cell BK417.out 0).trans rfl; have hcz46_1 : w43.cell? ⟨gb417, 1, none⟩ = some (.int .i64 ((rd_T75 l1 x14_1).f1)) := (blk_cell BK417.out 1).trans rfl; have hcz46_2 : w43.cell? ⟨gb417, 2, none⟩ = some (.int .i64 ((rd_T75 l1 x14_1).f2)) := (blk_cell BK417.out 2).trans rfl; have hfz46_0 := blk_frozen BK417.out 0; have hfz46_1 := blk_frozen BK417.out 1; have hfz46_2 := blk_frozen BK417.out 2))
                    go_roundg k3
                    case measure => have := HK1.out; have := HJ6.out; have := HK3.out; omega
                    case rel => exact ⟨(wrap64 (x42_3 + 1)), fr_, H', ⟨by have := HK1.out; have := HJ6.out; have := HK3.out; omega⟩, ⟨by (with_reducible repeat (first | refine blk_drewN ?_ _ | refine blk_drew ?_ | refine blk_alloc ?_ _)); refine blk_far ?_ NB417_425.out _; (with_reducible repeat (first | refine blk_drewN ?_ _ | refine blk_drew ?_ | refine blk_alloc ?_ _)); refine blk_far ?_ NB417_425.out _; (with_reducible repeat (first | refine blk_drewN ?_ _ | refine blk_drew ?_ | refine blk_alloc ?_ _)); refine blk_far ?_ NB417_425.out _; (with_reducible repeat (first | refine blk_drewN ?_ _ | refine blk_drew ?_ | refine blk_alloc ?_ _)); exact BK417.out⟩, ⟨(hg2_ GE417 GE425)⟩⟩
                 ·rw [if_neg c32] at H
                  have c32b0 : (((rd_T75 y420 x42_3).f0).toList == ((rd_T75 l1 x14_1).f0).toList) = false := beq_eq_false_iff_ne.mpr c32
                  have c32b1 : (((rd_T75 y420 x42_3).f0).toList != ((rd_T75 l1 x14_1).f0).toList) = true := bne_iff_ne.mpr c32
                  have H' := ak_ H
                  clear H
                  have p424 : 0 ≤ (x42_3 : Int) := od_
                  have q424 : x42_3 < (y420.length : Int) := od_
                  obtain ⟨ad424, e424, hx424_0, hx424_1, hx424_2⟩ := at_T75 HR423.out x42_3 p424 q424
                  obtain rfl : ad416 = ad424 := (by injection e424)
                  replace hx424_0 := cq_ HB hx424_0
                  replace hx424_1 := cq_ HB hx424_1
                  replace hx424_2 := cq_ HB hx424_2
                  replace p424 := eq_true p424
                  replace q424 := eq_true q424
                  go_wp2_with (first | ((with_reducible refine gate_dst (N := 8) rfl ?_); refine box_event ?hg (N := 8) ?hd (cs := #[.string (⟨#[]⟩ : ByteArray), .int .i64 0, .int .i64 0]) (t := 75) ?hr ?_; (case hd => rfl); (case hg => rfl); (case hr => first | (go_simp; done) | (go_simp; rfl)); intro gb425 hg w47 hbox hb; have n0_ := ak_ (blk_below (g := gb417) (o := .cells #[.string ((rd_T75 l1 x14_1).f0), .int .i64 ((rd_T75 l1 x14_1).f1), .int .i64 ((rd_T75 l1 x14_1).f2)] 75 (0, 0)) (bk_ BK417) hb); have n1_ := ak_ (below_step (hg_ GE417) hb); have n2_ := ak_ (hbox); have n3_ := ak_ ((by rw [hg]; exact (below_size (hg_ GE417)) : w.heap.size ≤ gb425)); have n4_ := ak_ ((by rw [hg]; exact (below_size (hg_ GE417)) : w.heap.size ≤ gb425)); have n5_ := ak_ ((by rw [hg]; exact Nat.ne_of_lt (blk_lt (g := gb417) (o := .cells #[.string ((rd_T75 l1 x14_1).f0), .int .i64 ((rd_T75 l1 x14_1).f1), .int .i64 ((rd_T75 l1 x14_1).f2)] 75 (0, 0)) (bk_ BK417)) : gb417 ≠ gb425)); have n6_ := ak_ ((by rw [hg]; exact Nat.ne_of_gt (blk_lt (g := gb417) (o := .cells #[.string ((rd_T75 l1 x14_1).f0), .int .i64 ((rd_T75 l1 x14_1).f1), .int .i64 ((rd_T75 l1 x14_1).f2)] 75 (0, 0)) (bk_ BK417)) : gb425 ≠ gb417)); clear BK417 HB; have BK417 := n0_; have HB := n1_; have BK425 := n2_; have GW425 := n3_; have GE425 := n4_; have NB417_425 := n5_; have NB425_417 := n6_; clear n0_ n1_ n2_ n3_ n4_ n5_ n6_; clear hb hbox hg; have hnb48 := NB425_417.out; have hnc48 := NB417_425.out; have hcz49_0 : w47.cell? ⟨gb425, 0, none⟩ = some (.string (⟨#[]⟩ : ByteArray)) := (blk_cell BK425.out 0).trans rfl; have hcz49_1 : w47.cell? ⟨gb425, 1, none⟩ = some (.int .i64 0) := (blk_cell BK425.out 1).trans rfl; have hcz49_2 : w47.cell? ⟨gb425, 2, none⟩ = some (.int .i64 0) := (blk_cell BK425.out 2).trans rfl; have hfz49_0 := blk_frozen BK425.out 0; have hfz49_1 := blk_frozen BK425.out 1; have hfz49_2 := blk_frozen BK425.out 2; have hcz50_0 : w47.cell? ⟨gb417, 0, none⟩ = some (.string ((rd_T75 l1 x14_1).f0)) := (blk_cell BK417.out 0).trans rfl; have hcz50_1 : w47.cell? ⟨gb417, 1, none⟩ = some (.int .i64 ((rd_T75 l1 x14_1).f1)) := (blk_cell BK417.out 1).trans rfl; have hcz50_2 : w47.cell? ⟨gb417, 2, none⟩ = some (.int .i64 ((rd_T75 l1 x14_1).f2)) := (blk_cell BK417.out 2).trans rfl; have hfz50_0 := blk_frozen BK417.out 0; have hfz50_1 := blk_frozen BK417.out 1; have hfz50_2 := blk_frozen BK417.out 2))
                  go_roundg k3
                  case measure => have := HK1.out; have := HJ6.out; have := HK3.out; omega
                  case rel => exact ⟨(wrap64 (x42_3 + 1)), fr_, H', ⟨by have := HK1.out; have := HJ6.out; have := HK3.out; omega⟩, ⟨by (with_reducible repeat (first | refine blk_drewN ?_ _ | refine blk_drew ?_ | refine blk_alloc ?_ _)); refine blk_far ?_ NB417_425.out _; (with_reducible repeat (first | refine blk_drewN ?_ _ | refine blk_drew ?_ | refine blk_alloc ?_ _)); refine blk_far ?_ NB417_425.out _; (with_reducible repeat (first | refine blk_drewN ?_ _ | refine blk_drew ?_ | refine blk_alloc ?_ _)); refine blk_far ?_ NB417_425.out _; (with_reducible repeat (first | refine blk_drewN ?_ _ | refine blk_drew ?_ | refine blk_alloc ?_ _)); exact BK417.out⟩, ⟨(hg2_ GE417 GE425)⟩⟩
                ·rw [if_neg c31] at H
                 exact absurd H (by simp)
               ·rw [if_neg c30] at H
                exact absurd H (by simp)
              ·rw [if_neg c29] at H
               have c29b0 : decide (x42_3 < (y420.length : Int)) = false := decide_eq_false c29
               clear c29
               have H' := ak_ H
               clear H
               go_wp2
               go_roundg k3
               case measure => have := HK1.out; have := HJ6.out; have := HK3.out; omega
               case rel => exact ⟨(wrap64 (x14_1 + 1)), fr_, H', ⟨by have := HK1.out; have := HJ6.out; have := HK3.out; omega⟩, ⟨(hg_ GE417)⟩⟩
           ·rw [if_neg c27] at H
            exact absurd H (by simp)
          ·rw [if_neg c26] at H
           exact absurd H (by simp)
      ·rw [if_neg c6] at H
       exact absurd H (by simp)
     ·rw [if_neg c5] at H
      exact absurd H (by simp)
    ·rw [if_neg c4] at H
     have c4b0 : decide (x14_1 < (l1.length : Int)) = false := decide_eq_false c4
     clear c4
     obtain rfl := Option.some.inj H
     go_wp2
     go_ret
     exact ⟨ew_, hb_⟩

/-! ### impl_gearCode: function 76 -/
def impl_gearCode.j0 : Nat → Int → Bool → Option (Int)
 | 0, _, _ => none
 | k + 1, x2, x15 => if x15 = true then (some 1) else ((impl_within.f x2 0 20000).bind fun t428 => (if t428 = true then (some 0) else (some 2)))
def impl_gearCode.f (k : Nat) (l0 : List (S72)) (l1 : List (S75)) (a2 : Int) : Option (Int) := (impl_ValidGear.f k l0).bind fun t426 => (if t426 = true then ((impl_areChecks.f k l0 l1).bind fun t427 => (impl_gearCode.j0 k a2 (!t427))) else (impl_gearCode.j0 k a2 true))
set_option maxHeartbeats 8000000 in
set_option maxRecDepth 100000 in
theorem impl_gearCode.calls (k : Nat) (A0 : Option Addr) (c0 : Nat) (l0 : List (S72)) (A1 : Option Addr) (c1 : Nat) (l1 : List (S75)) (a2 : Int) (r : Int) (w : World) (hr0 : Kd.C k72 w A0 l0.length l0) (hc0 : l0.length ≤ c0) (hr1 : Kd.C k75 w A1 l1.length l1) (hc1 : l1.length ≤ c1) (h : impl_gearCode.f k l0 l1 a2 = some r) :
  Calls Try.prog 76 #[.slice A0 l0.length c0, .slice A1 l1.length c1, .int .i64 a2] w fun e w' => e = .returned (.int .i64 r) ∧ Below w.heap.size w w' := by
 have HR0 := ak_ hr0
 have HC0 := ak_ hc0
 clear hr0 hc0
 have HR1 := ak_ hr1
 have HC1 := ak_ hc1
 clear hr1 hc1
 have HB := ak_ (Below.refl w.heap.size w)
 have H : ((impl_ValidGear.f k l0).bind fun t426 => (if t426 = true then ((impl_areChecks.f k l0 l1).bind fun t427 => (impl_gearCode.j0 k a2 (!t427))) else (impl_gearCode.j0 k a2 true))) = some r := h
 clear h
 have HC4 := ak_ H
 clear H
 go_enter Try.func76, Try.ntmps76
 go_upto_region 1 with (fail)
 go_cut [15] (fun v15 wc => ∃ (kq : Nat) (x15_3 : Bool), v15 = .bool x15_3 ∧ Aside0 (impl_gearCode.j0 kq a2 x15_3 = some r) ∧ Aside0 (kq ≤ k) ∧ Aside0 (Below w.heap.size w wc))
 case first =>
  have H := HC4.out
  clear HC4
  replace H := ob_ H
  obtain ⟨t426, A50, H⟩ := H
  replace H : (if t426 = true then ((impl_areChecks.f k l0 l1).bind fun t427 => (impl_gearCode.j0 k a2 (!t427))) else (impl_gearCode.j0 k a2 true)) = some r := H
  have A5 := ak_ A50
  clear A50
  by_cases c6 : t426 = true
  ·subst c6
   have H1 : ((impl_areChecks.f k l0 l1).bind fun t427 => (impl_gearCode.j0 k a2 (!t427))) = some r := by rw [if_pos rfl] at H; exact H
   clear H
   have H := H1
   clear H1
   replace H := ob_ H
   obtain ⟨t427, A70, H⟩ := H
   replace H : (impl_gearCode.j0 k a2 (!t427)) = some r := H
   have A7 := ak_ A70
   clear A70
   have H' := ak_ H
   clear H
   go_wp2_with (first | ((with_reducible refine gate_callee (f := 44) rfl ?_); refine goesL_ (some 8) rfl rfl Try.func44 (by kernel_rfl) rfl #[.slice A0 l0.length c0] rfl ln_ ?_; (with_reducible refine (impl_ValidGear.calls k _ _ l0 true _ ?side1 ?side2 A5.out).mono ?_); (case side1 => exact kc_ (Kd.C_below HR0.out HB.out)); (case side2 => exact HC0.out); rintro e w8 ⟨rfl, hb⟩; refine ⟨_, rfl, ?_⟩; have n0_ := ak_ (below_step hb_ hb); clear HB; have HB := n0_; clear n0_; clear hb) | (go_at_call 107; (with_reducible refine (impl_areChecks.calls k _ _ l0 _ _ l1 t427 _ ?side1 ?side2 ?side3 ?side4 A7.out).mono ?_); (case side1 => exact kc_ (Kd.C_below HR0.out HB.out)); (case side2 => exact HC0.out); (case side3 => exact kc_ (Kd.C_below HR1.out HB.out)); (case side4 => exact HC1.out); rintro e w9 ⟨rfl, hb⟩; have n0_ := ak_ (below_step hb_ hb); clear HB; have HB := n0_; clear n0_; clear hb))
   go_meet
   case rel => exact ⟨_, (!t427), fr_, H', ⟨by first | omega | exact Nat.le_refl _⟩, ⟨hb_⟩⟩
  ·replace c6 := Bool.eq_false_iff.mpr c6
   subst c6
   have H1 : (impl_gearCode.j0 k a2 true) = some r := by rw [if_neg (show ¬ (false = true) by decide)] at H; exact H
   clear H
   have H := H1
   clear H1
   have H' := ak_ H
   clear H
   go_wp2_with (first | ((with_reducible refine gate_callee (f := 44) rfl ?_); refine goesL_ (some 8) rfl rfl Try.func44 (by kernel_rfl) rfl #[.slice A0 l0.length c0] rfl ln_ ?_; (with_reducible refine (impl_ValidGear.calls k _ _ l0 false _ ?side1 ?side2 A5.out).mono ?_); (case side1 => exact kc_ (Kd.C_below HR0.out HB.out)); (case side2 => exact HC0.out); rintro e w10 ⟨rfl, hb⟩; refine ⟨_, rfl, ?_⟩; have n0_ := ak_ (below_step hb_ hb); clear HB; have HB := n0_; clear n0_; clear hb))
   go_meet
   case rel => exact ⟨_, (true), fr_, H', ⟨by first | omega | exact Nat.le_refl _⟩, ⟨hb_⟩⟩
 case rest =>
  clear HC4
  try clear c1
  try clear p2
  try clear c4
  try clear c6
  try clear c7
  obtain ⟨kq, x15_3, rfl, HA, HJ3, HB⟩ := hcut
  cases kq with
  | zero => exact absurd HA.out (by simp [impl_gearCode.j0])
  | succ kj3 =>
   have H := HA.out
   clear HA
   simp only [impl_gearCode.j0] at H
   by_cases c11 : x15_3 = true
   ·subst c11
    have H1 : (some 1) = some r := by rw [if_pos rfl] at H; exact H
    clear H
    have H := H1
    clear H1
    obtain rfl := Option.some.inj H
    go_wp2
    go_ret
    exact ⟨ew_, hb_⟩
   ·replace c11 := Bool.eq_false_iff.mpr c11
    subst c11
    have H1 : ((impl_within.f a2 0 20000).bind fun t428 => (if t428 = true then (some 0) else (some 2))) = some r := by rw [if_neg (show ¬ (false = true) by decide)] at H; exact H
    clear H
    have H := H1
    clear H1
    replace H := ob_ H
    obtain ⟨t428, A120, H⟩ := H
    replace H : (if t428 = true then (some 0) else (some 2)) = some r := H
    have A12 := ak_ A120
    clear A120
    by_cases c13 : t428 = true
    ·subst c13
     have H1 : (some 0) = some r := by rw [if_pos rfl] at H; exact H
     clear H
     have H := H1
     clear H1
     obtain rfl := Option.some.inj H
     go_wp2_with (first | ((with_reducible refine gate_callee (f := 99) rfl ?_); refine goesL_ (some 17) rfl rfl Try.func99 (by kernel_rfl) rfl #[.int .i64 a2, .int .i64 0, .int .i64 20000] rfl ln_ ?_; (with_reducible refine (impl_within.calls a2 0 20000 true _ A12.out).mono ?_); rintro e w' ⟨rfl, ⟨nd, rfl⟩⟩; refine ⟨_, rfl, ?_⟩))
     go_ret
     exact ⟨ew_, hb_⟩
    ·replace c13 := Bool.eq_false_iff.mpr c13
     subst c13
     have H1 : (some 2) = some r := by rw [if_neg (show ¬ (false = true) by decide)] at H; exact H
     clear H
     have H := H1
     clear H1
     obtain rfl := Option.some.inj H
     go_wp2_with (first | ((with_reducible refine gate_callee (f := 99) rfl ?_); refine goesL_ (some 17) rfl rfl Try.func99 (by kernel_rfl) rfl #[.int .i64 a2, .int .i64 0, .int .i64 20000] rfl ln_ ?_; (with_reducible refine (impl_within.calls a2 0 20000 false _ A12.out).mono ?_); rintro e w' ⟨rfl, ⟨nd, rfl⟩⟩; refine ⟨_, rfl, ?_⟩))
     go_ret
     exact ⟨ew_, hb_⟩

/-! ### impl_checksOf: function 110 -/
def impl_checksOf.l0 : Nat → ByteArray → List (S75) → List (S75) → Int → Int → Option ((List (S75)))
 | 0, _, _, _, _, _ => none
 | k + 1, x1, x5, x9, x10, x11 => if x11 < x10 then (if 0 ≤ x11 then (if x11 < (x9.length : Int) then (if ((rd_T75 x9 x11).f0).toList = x1.toList then (if x5.length < 4398046511104 then (impl_checksOf.l0 k x1 (x5 ++ [(⟨(rd_T75 x9 x11).f0, (rd_T75 x9 x11).f1, (rd_T75 x9 x11).f2⟩ : S75)]) x9 x10 (wrap64 (x11 + 1))) else (none)) else (impl_checksOf.l0 k x1 x5 x9 x10 (wrap64 (x11 + 1)))) else (none)) else (none)) else (some x5)
def impl_checksOf.f (k : Nat) (l0 : List (S75)) (a1 : ByteArray) : Option ((List (S75))) := impl_checksOf.l0 k a1 (([] : List (S75))) l0 (l0.length : Int) 0
set_option maxHeartbeats 8000000 in
set_option maxRecDepth 100000 in
theorem impl_checksOf.calls (k : Nat) (A0 : Option Addr) (c0 : Nat) (l0 : List (S75)) (a1 : ByteArray) (r : List (S75)) (w : World) (hr0 : Kd.C k75 w A0 l0.length l0) (hc0 : l0.length ≤ c0) (h : impl_checksOf.f k l0 a1 = some r) :
  Calls Try.prog 110 #[.slice A0 l0.length c0, .string a1] w fun e w' => ∃ v0_ : Value, e = .returned (v0_) ∧ Kd.R k75 75 w' w.heap.size (fun _ => True) v0_ r ∧ Below w.heap.size w w' := by
 have hu75 := Try.underlying75
 have HR0 := ak_ hr0
 have HC0 := ak_ hc0
 clear hr0 hc0
 have HB := ak_ (Below.refl w.heap.size w)
 have H : (impl_checksOf.l0 k a1 (([] : List (S75))) l0 (l0.length : Int) 0) = some r := h
 clear h
 obtain ⟨y429, hy429⟩ : ∃ y_ : List (S75), y_ = (([] : List (S75))) := ⟨_, rfl⟩
 replace H : (impl_checksOf.l0 k a1 y429 l0 (l0.length : Int) 0) = some r := by first | (rw [hy429]; with_reducible exact H) | (have H2_ := (Option.bind_some _ _).symm.trans H; rw [hy429]; with_reducible exact H2_) | (have H2_ := (Option.bind_some _ _).symm.trans H; with_reducible exact H2_) | with_reducible exact H | (rw [hy429]; exact H) | exact H
 have Ny429 := ak_ hy429
 clear hy429
 have H' := ak_ H
 clear H
 go_enter Try.func110, Try.ntmps110
 go_wp2_with (first | ((with_reducible refine gate_dst (N := 8) rfl ?_); refine Kd.R_lit k75 _ 75 ?hg (N := 8) ?hd (xs := ([] : List (S75))) (inner := []) (ok := fun _ => True) (okp := fun _ => True) ?hr ?hp (fun _ hk => hk) trivial (Below.refl _ _) (Nat.le_refl _) (by simp) ?_; (case hd => rfl); (case hg => rfl); (case hr => first | (go_simp; done) | (go_simp; rfl)); (case hp => exact (Reps.none _ _)); intro v430 w3 ho4 hb hg_ hnew_; clear hg_ hnew_; (first | rw [← Ny429.out] at ho4 | (simp only [Int.reduceToNat] at ho4; rw [← Ny429.out] at ho4)); have n0_ := ak_ (Kd.R_lower ho4 (below_size hb_)); have n1_ := ak_ (below_step hb_ hb); clear HB; have HO431 := n0_; have HB := n1_; clear n0_ n1_; clear hb ho4))
 go_loopg [5, 11] k (fun kq v5 v11 w' => ∃ (x5_1 : List (S75)) (x11_1 : Int), v11 = .int .i64 x11_1 ∧ Aside0 (impl_checksOf.l0 kq a1 x5_1 l0 (l0.length : Int) x11_1 = some r) ∧ Aside0 (kq ≤ k) ∧ Aside0 (Kd.R k75 75 w' w.heap.size (fun _ => True) v5 x5_1) ∧ Aside0 (Below w.heap.size w w'))
 case atStart => exact ⟨(y429), (0), fr_, H', ⟨Nat.le_refl _⟩, ⟨kr_ HO431⟩, ⟨hb_⟩⟩
 case round =>
  clear H'
  try clear c1
  try clear p2
  obtain ⟨x5_1, x11_1, rfl, HA, HK1, HO_5, HB⟩ := hrel
  cases gk with
  | zero => exact absurd HA.out (by simp [impl_checksOf.l0])
  | succ k1 =>
   have H := HA.out
   clear HA
   simp only [impl_checksOf.l0] at H
   by_cases c5 : x11_1 < (l0.length : Int)
   ·rw [if_pos c5] at H
    have c5b0 : decide (x11_1 < (l0.length : Int)) = true := dt_ c5
    clear c5
    by_cases c6 : 0 ≤ x11_1
    ·rw [if_pos c6] at H
     have c6b0 : decide (0 ≤ x11_1) = true := dt_ c6
     clear c6
     by_cases c7 : x11_1 < (l0.length : Int)
     ·rw [if_pos c7] at H
      have c7b0 : decide (x11_1 < (l0.length : Int)) = true := dt_ c7
      clear c7
      by_cases c8 : ((rd_T75 l0 x11_1).f0).toList = a1.toList
      ·rw [if_pos c8] at H
       have c8b0 : (((rd_T75 l0 x11_1).f0).toList == a1.toList) = true := beq_iff_eq.mpr c8
       have c8b1 : (((rd_T75 l0 x11_1).f0).toList != a1.toList) = false := bne_eq_false_iff_eq.mpr c8
       clear c8
       by_cases c9 : x5_1.length < 4398046511104
       ·rw [if_pos c9] at H
        have LMc9 := ak_ c9
        clear c9
        obtain ⟨y434, hy434⟩ : ∃ y_ : List (S75), y_ = (x5_1 ++ [(⟨(rd_T75 l0 x11_1).f0, (rd_T75 l0 x11_1).f1, (rd_T75 l0 x11_1).f2⟩ : S75)]) := ⟨_, rfl⟩
        replace H : (impl_checksOf.l0 k1 a1 y434 l0 (l0.length : Int) (wrap64 (x11_1 + 1))) = some r := by first | (rw [hy434]; with_reducible exact H) | (have H2_ := (Option.bind_some _ _).symm.trans H; rw [hy434]; with_reducible exact H2_) | (have H2_ := (Option.bind_some _ _).symm.trans H; with_reducible exact H2_) | with_reducible exact H | (rw [hy434]; exact H) | exact H
        have Ny434 := ak_ hy434
        clear hy434
        have H' := ak_ H
        clear H
        have p432 : 0 ≤ (x11_1 : Int) := od_
        have q432 : x11_1 < (l0.length : Int) := od_
        obtain ⟨ad432, e432, hx432_0, hx432_1, hx432_2⟩ := at_T75 HR0.out x11_1 p432 q432
        cases e432
        replace hx432_0 := cq_ HB hx432_0
        replace hx432_1 := cq_ HB hx432_1
        replace hx432_2 := cq_ HB hx432_2
        replace p432 := eq_true p432
        replace q432 := eq_true q432
        go_wp2_with (first | ((with_reducible refine gate_dst (N := 7) rfl ?_); refine box_event ?hg (N := 7) ?hd (cs := #[.string (⟨#[]⟩ : ByteArray), .int .i64 0, .int .i64 0]) (t := 75) ?hr ?_; (case hd => rfl); (case hg => rfl); (case hr => first | (go_simp; done) | (go_simp; rfl)); intro gb433 hg w10 hbox hb; have n0_ := ak_ (Kd.R_below (Kd.R_elderB (kr_ HO_5) gb433 (Nat.le_of_eq hg.symm)) hb); have n1_ := ak_ (below_step hb_ hb); have n2_ := ak_ (hbox); have n3_ := ak_ ((by rw [hg]; exact (below_size hb_) : w.heap.size ≤ gb433)); have n4_ := ak_ ((by rw [hg]; exact (below_size hb_) : w.heap.size ≤ gb433)); clear HO_5 HB; have HO_5 := n0_; have HB := n1_; have BK433 := n2_; have GW433 := n3_; have GE433 := n4_; clear n0_ n1_ n2_ n3_ n4_; clear hb hbox hg; have hcz11_0 : w10.cell? ⟨gb433, 0, none⟩ = some (.string (⟨#[]⟩ : ByteArray)) := (blk_cell BK433.out 0).trans rfl; have hcz11_1 : w10.cell? ⟨gb433, 1, none⟩ = some (.int .i64 0) := (blk_cell BK433.out 1).trans rfl; have hcz11_2 : w10.cell? ⟨gb433, 2, none⟩ = some (.int .i64 0) := (blk_cell BK433.out 2).trans rfl; have hfz11_0 := blk_frozen BK433.out 0; have hfz11_1 := blk_frozen BK433.out 1; have hfz11_2 := blk_frozen BK433.out 2) | ((with_reducible refine gate_builtin (b := .append) (xs := #[.tmp 19, .tmp 21]) rfl ?_); at_builtin; refine Kd.R_append k75 (w0 := w) w.heap.size rfl (.tmp 19) (.tmp 21) 54 75 (.agg #[(.string ⟨#[]⟩), (.int .i64 0), (.int .i64 0)]) 32 rfl Try.underlying54 info75 rfl (by decide) (by omega) u5 x5_1 (⟨(rd_T75 l0 x11_1).f0, (rd_T75 l0 x11_1).f1, (rd_T75 l0 x11_1).f2⟩ : S75) [.string ((rd_T75 l0 x11_1).f0), .int .i64 ((rd_T75 l0 x11_1).f1), .int .i64 ((rd_T75 l0 x11_1).f2)] (fun k_ => k_ ≠ gb433) (fun _ => False) rfl (by first | (go_simp; done) | (go_simp; rfl)) ?aP (fun _ hk => hk.elim) ?aF ?aO ?aB ?aS ?aL ?_; (case aP => exact k75_mkM _ _ _ (⟨(rd_T75 l0 x11_1).f0, (rd_T75 l0 x11_1).f1, (rd_T75 l0 x11_1).f2⟩ : S75)); (case aB => exact (hg_ GE433)); (case aF => exact (fun k_ hk => Kd.freshB (g := gb433) (o := .cells #[.string ((rd_T75 l0 x11_1).f0), .int .i64 ((rd_T75 l0 x11_1).f1), .int .i64 ((rd_T75 l0 x11_1).f2)] 75 (0, 0)) (by (with_reducible repeat (first | refine blk_drewN ?_ _ | refine blk_drew ?_ | refine blk_alloc ?_ _)); refine blk_put (cs := #[.string ((rd_T75 l0 x11_1).f0), .int .i64 ((rd_T75 l0 x11_1).f1), .int .i64 0]) ?_ 2 _ rfl; (with_reducible repeat (first | refine blk_drewN ?_ _ | refine blk_drew ?_ | refine blk_alloc ?_ _)); refine blk_put (cs := #[.string ((rd_T75 l0 x11_1).f0), .int .i64 0, .int .i64 0]) ?_ 1 _ rfl; (with_reducible repeat (first | refine blk_drewN ?_ _ | refine blk_drew ?_ | refine blk_alloc ?_ _)); refine blk_put (cs := #[.string (⟨#[]⟩ : ByteArray), .int .i64 0, .int .i64 0]) ?_ 0 _ rfl; (with_reducible repeat (first | refine blk_drewN ?_ _ | refine blk_drew ?_ | refine blk_alloc ?_ _)); exact BK433.out) k_ hk)); (case aO => exact (by (with_reducible repeat (first | apply Kd.R_alloc | apply Kd.R_drewN | apply Kd.R_drew)); exact Kd.R_mono (Kd.R_far (p := ⟨gb433, 2, none⟩) (Kd.R_far (p := ⟨gb433, 1, none⟩) (Kd.R_far (p := ⟨gb433, 0, none⟩) (Kd.R_mono HO_5.out (fun k_ hk => (⟨hk, hk.2⟩ : _ ∧ k_ ≠ gb433))) (fun _ hk => hk.2) (.string ((rd_T75 l0 x11_1).f0))) (fun _ hk => hk.2) (.int .i64 ((rd_T75 l0 x11_1).f1))) (fun _ hk => hk.2) (.int .i64 ((rd_T75 l0 x11_1).f2))) (fun _ hk => hk.1.2))); (case aS => exact (below_size (hg_ GE433))); (case aL => have := LMc9.out; omega); intro v435 w12 ho hb hg hat; rw [← Ny434.out] at ho; have n0_ := ak_ (blk_grown (g := gb433) (o := .cells #[.string ((rd_T75 l0 x11_1).f0), .int .i64 ((rd_T75 l0 x11_1).f1), .int .i64 ((rd_T75 l0 x11_1).f2)] 75 (0, 0)) (by (with_reducible repeat (first | refine blk_drewN ?_ _ | refine blk_drew ?_ | refine blk_alloc ?_ _)); refine blk_put (cs := #[.string ((rd_T75 l0 x11_1).f0), .int .i64 ((rd_T75 l0 x11_1).f1), .int .i64 0]) ?_ 2 _ rfl; (with_reducible repeat (first | refine blk_drewN ?_ _ | refine blk_drew ?_ | refine blk_alloc ?_ _)); refine blk_put (cs := #[.string ((rd_T75 l0 x11_1).f0), .int .i64 0, .int .i64 0]) ?_ 1 _ rfl; (with_reducible repeat (first | refine blk_drewN ?_ _ | refine blk_drew ?_ | refine blk_alloc ?_ _)); refine blk_put (cs := #[.string (⟨#[]⟩ : ByteArray), .int .i64 0, .int .i64 0]) ?_ 0 _ rfl; (with_reducible repeat (first | refine blk_drewN ?_ _ | refine blk_drew ?_ | refine blk_alloc ?_ _)); exact BK433.out) hg (Kd.R_away HO_5.out (fun _ hk => hk.2))); have n1_ := ak_ (hb); have n2_ := ak_ (ho); clear BK433 HB HO_5; have BK433 := n0_; have HB := n1_; have HO436 := n2_; clear n0_ n1_ n2_; clear ho hb hg hat))
        go_roundg k1
        case measure => have := HK1.out; omega
        case rel => exact ⟨(y434), (wrap64 (x11_1 + 1)), fr_, H', ⟨by have := HK1.out; omega⟩, ⟨by (with_reducible repeat (first | apply Kd.R_alloc | apply Kd.R_drewN | apply Kd.R_drew)); exact Kd.R_mono HO436.out (fun _ hk => trivial)⟩, ⟨(hg_ GE433)⟩⟩
       ·rw [if_neg c9] at H
        exact absurd H (by simp)
      ·rw [if_neg c8] at H
       have c8b0 : (((rd_T75 l0 x11_1).f0).toList == a1.toList) = false := beq_eq_false_iff_ne.mpr c8
       have c8b1 : (((rd_T75 l0 x11_1).f0).toList != a1.toList) = true := bne_iff_ne.mpr c8
       have H' := ak_ H
       clear H
       have p432 : 0 ≤ (x11_1 : Int) := od_
       have q432 : x11_1 < (l0.length : Int) := od_
       obtain ⟨ad432, e432, hx432_0, hx432_1, hx432_2⟩ := at_T75 HR0.out x11_1 p432 q432
       cases e432
       replace hx432_0 := cq_ HB hx432_0
       replace hx432_1 := cq_ HB hx432_1
       replace hx432_2 := cq_ HB hx432_2
       replace p432 := eq_true p432
       replace q432 := eq_true q432
       go_wp2_with (first | ((with_reducible refine gate_dst (N := 7) rfl ?_); refine box_event ?hg (N := 7) ?hd (cs := #[.string (⟨#[]⟩ : ByteArray), .int .i64 0, .int .i64 0]) (t := 75) ?hr ?_; (case hd => rfl); (case hg => rfl); (case hr => first | (go_simp; done) | (go_simp; rfl)); intro gb433 hg w13 hbox hb; have n0_ := ak_ (Kd.R_below (Kd.R_elderB (kr_ HO_5) gb433 (Nat.le_of_eq hg.symm)) hb); have n1_ := ak_ (below_step hb_ hb); have n2_ := ak_ (hbox); have n3_ := ak_ ((by rw [hg]; exact (below_size hb_) : w.heap.size ≤ gb433)); have n4_ := ak_ ((by rw [hg]; exact (below_size hb_) : w.heap.size ≤ gb433)); clear HO_5 HB; have HO_5 := n0_; have HB := n1_; have BK433 := n2_; have GW433 := n3_; have GE433 := n4_; clear n0_ n1_ n2_ n3_ n4_; clear hb hbox hg; have hcz14_0 : w13.cell? ⟨gb433, 0, none⟩ = some (.string (⟨#[]⟩ : ByteArray)) := (blk_cell BK433.out 0).trans rfl; have hcz14_1 : w13.cell? ⟨gb433, 1, none⟩ = some (.int .i64 0) := (blk_cell BK433.out 1).trans rfl; have hcz14_2 : w13.cell? ⟨gb433, 2, none⟩ = some (.int .i64 0) := (blk_cell BK433.out 2).trans rfl; have hfz14_0 := blk_frozen BK433.out 0; have hfz14_1 := blk_frozen BK433.out 1; have hfz14_2 := blk_frozen BK433.out 2))
       go_roundg k1
       case measure => have := HK1.out; omega
       case rel => exact ⟨(x5_1), (wrap64 (x11_1 + 1)), fr_, H', ⟨by have := HK1.out; omega⟩, ⟨by (with_reducible repeat (first | apply Kd.R_alloc | apply Kd.R_drewN | apply Kd.R_drew)); exact Kd.R_mono (Kd.R_far (p := ⟨gb433, 2, none⟩) (Kd.R_far (p := ⟨gb433, 1, none⟩) (Kd.R_far (p := ⟨gb433, 0, none⟩) (Kd.R_mono HO_5.out (fun k_ hk => (⟨hk, hk.2⟩ : _ ∧ k_ ≠ gb433))) (fun _ hk => hk.2) (.string ((rd_T75 l0 x11_1).f0))) (fun _ hk => hk.2) (.int .i64 ((rd_T75 l0 x11_1).f1))) (fun _ hk => hk.2) (.int .i64 ((rd_T75 l0 x11_1).f2))) (fun _ hk => trivial)⟩, ⟨(hg_ GE433)⟩⟩
     ·rw [if_neg c7] at H
      exact absurd H (by simp)
    ·rw [if_neg c6] at H
     exact absurd H (by simp)
   ·rw [if_neg c5] at H
    have c5b0 : decide (x11_1 < (l0.length : Int)) = false := decide_eq_false c5
    clear c5
    obtain rfl := Option.some.inj H
    go_wp2
    go_ret
    exact ⟨_, ew_, by (with_reducible repeat (first | apply Kd.R_alloc | apply Kd.R_drewN | apply Kd.R_drew)); exact HO_5.out, hb_⟩

/-! ### impl_wearOn: function 78 -/
def impl_wearOn.l0 : Nat → Int → Int → List (S75) → Int → Int → ByteArray → Int → Int → Int → Option (Int)
 | 0, _, _, _, _, _, _, _, _, _ => none
 | k + 1, x2, x7, x21, x22, x23, x438000, x438001, x438002, x438003 => if x23 < x22 then (if 0 ≤ x23 then (if x23 < (x21.length : Int) then (if ((rd_T75 x21 x23).f1) ≤ x2 then (impl_wearOn.l0 k x2 (wrap64 (((rd_T75 x21 x23).f2) + (wrap64 (x438002 * (wrap64 (x2 - ((rd_T75 x21 x23).f1))))))) x21 x22 (wrap64 (x23 + 1)) x438000 x438001 x438002 x438003) else (impl_wearOn.l0 k x2 x7 x21 x22 (wrap64 (x23 + 1)) x438000 x438001 x438002 x438003)) else (none)) else (none)) else (some x7)
def impl_wearOn.f (k : Nat) (a0_0 : ByteArray) (a0_1 : Int) (a0_2 : Int) (a0_3 : Int) (l1 : List (S75)) (a2 : Int) : Option (Int) := (impl_checksOf.f k l1 a0_0).bind fun t438 => (impl_wearOn.l0 k a2 (wrap64 (a0_2 * (mx 0 (wrap64 (a2 - a0_1))))) t438 (t438.length : Int) 0 a0_0 a0_1 a0_2 a0_3)
set_option maxHeartbeats 8000000 in
set_option maxRecDepth 100000 in
theorem impl_wearOn.calls (k : Nat) (a0_0 : ByteArray) (a0_1 : Int) (a0_2 : Int) (a0_3 : Int) (A1 : Option Addr) (c1 : Nat) (l1 : List (S75)) (a2 : Int) (r : Int) (w : World) (hr1 : Kd.C k75 w A1 l1.length l1) (hc1 : l1.length ≤ c1) (h : impl_wearOn.f k a0_0 a0_1 a0_2 a0_3 l1 a2 = some r) :
  Calls Try.prog 78 #[.agg #[.string a0_0, .int .i64 a0_1, .int .i64 a0_2, .int .i64 a0_3], .slice A1 l1.length c1, .int .i64 a2] w fun e w' => e = .returned (.int .i64 r) ∧ Below w.heap.size w w' := by
 have hu72 := Try.underlying72
 have hu75 := Try.underlying75
 have HR1 := ak_ hr1
 have HC1 := ak_ hc1
 clear hr1 hc1
 have HB := ak_ (Below.refl w.heap.size w)
 have H : ((impl_checksOf.f k l1 a0_0).bind fun t438 => (impl_wearOn.l0 k a2 (wrap64 (a0_2 * (mx 0 (wrap64 (a2 - a0_1))))) t438 (t438.length : Int) 0 a0_0 a0_1 a0_2 a0_3)) = some r := h
 clear h
 obtain ⟨ji4, hji4⟩ : ∃ j_ : Int, (mx 0 (wrap64 (a2 - a0_1))) = j_ := ⟨_, rfl⟩
 replace H : ((impl_checksOf.f k l1 a0_0).bind fun t438 => (impl_wearOn.l0 k a2 (wrap64 (a0_2 * (ji4))) t438 (t438.length : Int) 0 a0_0 a0_1 a0_2 a0_3)) = some r := by first | (rw [hji4] at H; exact H) | (simp only [hji4] at H ⊢; exact H)
 (try (have hji4l : 0 ≤ ji4 := by (rw [← hji4]; unfold mx; (repeat' split) <;> omega)))
 (try (have hji4m : 0 ≤ ji4 := by omega))
 have hji4_ : (if 0 < (wrap64 (a2 - a0_1)) then (wrap64 (a2 - a0_1)) else 0) = ji4 := hji4
 replace H := ob_ H
 obtain ⟨t438, A50, H⟩ := H
 replace H : (impl_wearOn.l0 k a2 (wrap64 (a0_2 * (ji4))) t438 (t438.length : Int) 0 a0_0 a0_1 a0_2 a0_3) = some r := H
 have A5 := ak_ A50
 clear A50
 have H' := ak_ H
 clear H
 go_enter Try.func78, Try.ntmps78
 go_wp2_with (first | ((with_reducible refine gate_dst (N := 3) rfl ?_); refine box_event ?hg (N := 3) ?hd (cs := #[.string a0_0, .int .i64 a0_1, .int .i64 a0_2, .int .i64 a0_3]) (t := 72) ?hr ?_; (case hd => rfl); (case hg => rfl); (case hr => first | (go_simp; done) | (go_simp; rfl)); intro gb437 hg w6 hbox hb; have n0_ := ak_ (below_step hb_ hb); have n1_ := ak_ (hbox); have n2_ := ak_ ((by rw [hg]; exact (below_size hb_) : w.heap.size ≤ gb437)); have n3_ := ak_ ((by rw [hg]; exact (below_size hb_) : w.heap.size ≤ gb437)); clear HB; have HB := n0_; have BK437 := n1_; have GW437 := n2_; have GE437 := n3_; clear n0_ n1_ n2_ n3_; clear hb hbox hg; have hcz7_0 : w6.cell? ⟨gb437, 0, none⟩ = some (.string a0_0) := (blk_cell BK437.out 0).trans rfl; have hcz7_1 : w6.cell? ⟨gb437, 1, none⟩ = some (.int .i64 a0_1) := (blk_cell BK437.out 1).trans rfl; have hcz7_2 : w6.cell? ⟨gb437, 2, none⟩ = some (.int .i64 a0_2) := (blk_cell BK437.out 2).trans rfl; have hcz7_3 : w6.cell? ⟨gb437, 3, none⟩ = some (.int .i64 a0_3) := (blk_cell BK437.out 3).trans rfl; have hfz7_0 := blk_frozen BK437.out 0; have hfz7_1 := blk_frozen BK437.out 1; have hfz7_2 := blk_frozen BK437.out 2; have hfz7_3 := blk_frozen BK437.out 3) | ((with_reducible refine gate_callee (f := 110) rfl ?_); refine goesL_ (some 21) rfl rfl Try.func110 (by kernel_rfl) rfl #[.slice A1 l1.length c1, .string a0_0] rfl ln_ ?_; (with_reducible refine (impl_checksOf.calls k _ _ l1 a0_0 t438 _ ?side1 ?side2 A5.out).mono ?_); (case side1 => exact kc_ (Kd.C_below HR1.out HB.out)); (case side2 => exact HC1.out); rintro e w8 ⟨v439, rfl, ho0, hb⟩; refine ⟨_, rfl, ?_⟩; have n0_ := ak_ (Kd.R_lower ho0 (below_size (hg_ GE437))); have n1_ := ak_ (blk_below (g := gb437) (o := .cells #[.string a0_0, .int .i64 a0_1, .int .i64 a0_2, .int .i64 a0_3] 72 (0, 0)) (bk_ BK437) hb); have n2_ := ak_ (below_step (hg_ GE437) hb); clear BK437 HB; have HO440 := n0_; have BK437 := n1_; have HB := n2_; clear n0_ n1_ n2_; (try clear hb); (try clear hb2); (try clear hk); (try clear hi); (try clear ho0); obtain ⟨Ao9, co9, eo9⟩ := Kd.R_slice HO440.out; subst eo9))
 go_loopg [7, 23] k (fun kq v7 v23 w' => ∃ (x7_1 : Int) (x23_1 : Int), v7 = .int .i64 x7_1 ∧ v23 = .int .i64 x23_1 ∧ Aside0 (impl_wearOn.l0 kq a2 x7_1 t438 (t438.length : Int) x23_1 a0_0 a0_1 a0_2 a0_3 = some r) ∧ Aside0 (kq ≤ k) ∧ Aside0 (Kd.R k75 75 w' w.heap.size (fun _ => True) (.slice Ao9 t438.length co9) t438) ∧ Aside0 (w'.heap[gb437]? = some (.cells #[.string a0_0, .int .i64 a0_1, .int .i64 a0_2, .int .i64 a0_3] 72 (0, 0))) ∧ Aside0 (Below w.heap.size w w'))
 case atStart => exact ⟨(wrap64 (a0_2 * (ji4))), (0), (by first | rfl | (simp; done) | (simp only [← hji4] <;> (first | rfl | simp)) | (simp [*]; done)), fr_, H', ⟨Nat.le_refl _⟩, ⟨kr_ HO440⟩, ⟨by (with_reducible repeat (first | refine blk_drewN ?_ _ | refine blk_drew ?_ | refine blk_alloc ?_ _)); exact BK437.out⟩, ⟨(hg_ GE437)⟩⟩
 case round =>
  clear H'
  try clear c1
  try clear p2
  try clear p6
  try clear c7
  try clear hcz7_0
  try clear hcz7_1
  try clear hcz7_2
  try clear hcz7_3
  try clear hfz7_0
  try clear hfz7_1
  try clear hfz7_2
  try clear hfz7_3
  obtain ⟨x7_1, x23_1, rfl, rfl, HA, HK1, HO_21, BK437, HB⟩ := hrel
  cases gk with
  | zero => exact absurd HA.out (by simp [impl_wearOn.l0])
  | succ k1 =>
   have H := HA.out
   clear HA
   simp only [impl_wearOn.l0] at H
   by_cases c10 : x23_1 < (t438.length : Int)
   ·rw [if_pos c10] at H
    have c10b0 : decide (x23_1 < (t438.length : Int)) = true := dt_ c10
    clear c10
    by_cases c11 : 0 ≤ x23_1
    ·rw [if_pos c11] at H
     have c11b0 : decide (0 ≤ x23_1) = true := dt_ c11
     clear c11
     by_cases c12 : x23_1 < (t438.length : Int)
     ·rw [if_pos c12] at H
      have c12b0 : decide (x23_1 < (t438.length : Int)) = true := dt_ c12
      clear c12
      by_cases c13 : ((rd_T75 t438 x23_1).f1) ≤ a2
      ·rw [if_pos c13] at H
       have c13b0 : decide (((rd_T75 t438 x23_1).f1) ≤ a2) = true := dt_ c13
       clear c13
       have H' := ak_ H
       clear H
       have p441 : 0 ≤ (x23_1 : Int) := od_
       have q441 : x23_1 < (t438.length : Int) := od_
       obtain ⟨ad441, e441, hx441_0, hx441_1, hx441_2⟩ := at_T75 (Kd.R_reads' HO_21.out).2.2 x23_1 p441 q441
       cases e441
       replace p441 := eq_true p441
       replace q441 := eq_true q441
       go_wp2_with (first | ((with_reducible refine gate_dst (N := 9) rfl ?_); refine box_event ?hg (N := 9) ?hd (cs := #[.string (⟨#[]⟩ : ByteArray), .int .i64 0, .int .i64 0]) (t := 75) ?hr ?_; (case hd => rfl); (case hg => rfl); (case hr => first | (go_simp; done) | (go_simp; rfl)); intro gb442 hg w14 hbox hb; have n0_ := ak_ (Kd.R_below (Kd.R_elderB (kr_ HO_21) gb442 (Nat.le_of_eq hg.symm)) hb); have n1_ := ak_ (blk_below (g := gb437) (o := .cells #[.string a0_0, .int .i64 a0_1, .int .i64 a0_2, .int .i64 a0_3] 72 (0, 0)) (bk_ BK437) hb); have n2_ := ak_ (below_step (hg_ GE437) hb); have n3_ := ak_ (hbox); have n4_ := ak_ ((by rw [hg]; exact (below_size (hg_ GE437)) : w.heap.size ≤ gb442)); have n5_ := ak_ ((by rw [hg]; exact (below_size (hg_ GE437)) : w.heap.size ≤ gb442)); have n6_ := ak_ ((by rw [hg]; exact Nat.ne_of_lt (blk_lt (g := gb437) (o := .cells #[.string a0_0, .int .i64 a0_1, .int .i64 a0_2, .int .i64 a0_3] 72 (0, 0)) (bk_ BK437)) : gb437 ≠ gb442)); have n7_ := ak_ ((by rw [hg]; exact Nat.ne_of_gt (blk_lt (g := gb437) (o := .cells #[.string a0_0, .int .i64 a0_1, .int .i64 a0_2, .int .i64 a0_3] 72 (0, 0)) (bk_ BK437)) : gb442 ≠ gb437)); clear HO_21 BK437 HB; have HO_21 := n0_; have BK437 := n1_; have HB := n2_; have BK442 := n3_; have GW442 := n4_; have GE442 := n5_; have NB437_442 := n6_; have NB442_437 := n7_; clear n0_ n1_ n2_ n3_ n4_ n5_ n6_ n7_; clear hb hbox hg; have hnb15 := NB442_437.out; have hnc15 := NB437_442.out; have hcz16_0 : w14.cell? ⟨gb442, 0, none⟩ = some (.string (⟨#[]⟩ : ByteArray)) := (blk_cell BK442.out 0).trans rfl; have hcz16_1 : w14.cell? ⟨gb442, 1, none⟩ = some (.int .i64 0) := (blk_cell BK442.out 1).trans rfl; have hcz16_2 : w14.cell? ⟨gb442, 2, none⟩ = some (.int .i64 0) := (blk_cell BK442.out 2).trans rfl; have hfz16_0 := blk_frozen BK442.out 0; have hfz16_1 := blk_frozen BK442.out 1; have hfz16_2 := blk_frozen BK442.out 2; have hcz17_0 : w14.cell? ⟨gb437, 0, none⟩ = some (.string a0_0) := (blk_cell BK437.out 0).trans rfl; have hcz17_1 : w14.cell? ⟨gb437, 1, none⟩ = some (.int .i64 a0_1) := (blk_cell BK437.out 1).trans rfl; have hcz17_2 : w14.cell? ⟨gb437, 2, none⟩ = some (.int .i64 a0_2) := (blk_cell BK437.out 2).trans rfl; have hcz17_3 : w14.cell? ⟨gb437, 3, none⟩ = some (.int .i64 a0_3) := (blk_cell BK437.out 3).trans rfl; have hfz17_0 := blk_frozen BK437.out 0; have hfz17_1 := blk_frozen BK437.out 1; have hfz17_2 := blk_frozen BK437.out 2; have hfz17_3 := blk_frozen BK437.out 3))
       go_roundg k1
       case measure => have := HK1.out; omega
       case rel => exact ⟨(wrap64 (((rd_T75 t438 x23_1).f2) + (wrap64 (a0_2 * (wrap64 (a2 - ((rd_T75 t438 x23_1).f1))))))), (wrap64 (x23_1 + 1)), fr_, fr_, H', ⟨by have := HK1.out; omega⟩, ⟨by (with_reducible repeat (first | apply Kd.R_alloc | apply Kd.R_drewN | apply Kd.R_drew)); exact Kd.R_mono (Kd.R_far (p := ⟨gb442, 2, none⟩) (Kd.R_far (p := ⟨gb442, 1, none⟩) (Kd.R_far (p := ⟨gb442, 0, none⟩) (Kd.R_mono HO_21.out (fun k_ hk => (⟨hk, hk.2⟩ : _ ∧ k_ ≠ gb442))) (fun _ hk => hk.2) (.string ((rd_T75 t438 x23_1).f0))) (fun _ hk => hk.2) (.int .i64 ((rd_T75 t438 x23_1).f1))) (fun _ hk => hk.2) (.int .i64 ((rd_T75 t438 x23_1).f2))) (fun _ hk => trivial)⟩, ⟨by (with_reducible repeat (first | refine blk_drewN ?_ _ | refine blk_drew ?_ | refine blk_alloc ?_ _)); refine blk_far ?_ NB437_442.out _; (with_reducible repeat (first | refine blk_drewN ?_ _ | refine blk_drew ?_ | refine blk_alloc ?_ _)); refine blk_far ?_ NB437_442.out _; (with_reducible repeat (first | refine blk_drewN ?_ _ | refine blk_drew ?_ | refine blk_alloc ?_ _)); refine blk_far ?_ NB437_442.out _; (with_reducible repeat (first | refine blk_drewN ?_ _ | refine blk_drew ?_ | refine blk_alloc ?_ _)); exact BK437.out⟩, ⟨(hg2_ GE437 GE442)⟩⟩
      ·rw [if_neg c13] at H
       have c13b0 : decide (((rd_T75 t438 x23_1).f1) ≤ a2) = false := decide_eq_false c13
       clear c13
       have H' := ak_ H
       clear H
       have p441 : 0 ≤ (x23_1 : Int) := od_
       have q441 : x23_1 < (t438.length : Int) := od_
       obtain ⟨ad441, e441, hx441_0, hx441_1, hx441_2⟩ := at_T75 (Kd.R_reads' HO_21.out).2.2 x23_1 p441 q441
       cases e441
       replace p441 := eq_true p441
       replace q441 := eq_true q441
       go_wp2_with (first | ((with_reducible refine gate_dst (N := 9) rfl ?_); refine box_event ?hg (N := 9) ?hd (cs := #[.string (⟨#[]⟩ : ByteArray), .int .i64 0, .int .i64 0]) (t := 75) ?hr ?_; (case hd => rfl); (case hg => rfl); (case hr => first | (go_simp; done) | (go_simp; rfl)); intro gb442 hg w18 hbox hb; have n0_ := ak_ (Kd.R_below (Kd.R_elderB (kr_ HO_21) gb442 (Nat.le_of_eq hg.symm)) hb); have n1_ := ak_ (blk_below (g := gb437) (o := .cells #[.string a0_0, .int .i64 a0_1, .int .i64 a0_2, .int .i64 a0_3] 72 (0, 0)) (bk_ BK437) hb); have n2_ := ak_ (below_step (hg_ GE437) hb); have n3_ := ak_ (hbox); have n4_ := ak_ ((by rw [hg]; exact (below_size (hg_ GE437)) : w.heap.size ≤ gb442)); have n5_ := ak_ ((by rw [hg]; exact (below_size (hg_ GE437)) : w.heap.size ≤ gb442)); have n6_ := ak_ ((by rw [hg]; exact Nat.ne_of_lt (blk_lt (g := gb437) (o := .cells #[.string a0_0, .int .i64 a0_1, .int .i64 a0_2, .int .i64 a0_3] 72 (0, 0)) (bk_ BK437)) : gb437 ≠ gb442)); have n7_ := ak_ ((by rw [hg]; exact Nat.ne_of_gt (blk_lt (g := gb437) (o := .cells #[.string a0_0, .int .i64 a0_1, .int .i64 a0_2, .int .i64 a0_3] 72 (0, 0)) (bk_ BK437)) : gb442 ≠ gb437)); clear HO_21 BK437 HB; have HO_21 := n0_; have BK437 := n1_; have HB := n2_; have BK442 := n3_; have GW442 := n4_; have GE442 := n5_; have NB437_442 := n6_; have NB442_437 := n7_; clear n0_ n1_ n2_ n3_ n4_ n5_ n6_ n7_; clear hb hbox hg; have hnb19 := NB442_437.out; have hnc19 := NB437_442.out; have hcz20_0 : w18.cell? ⟨gb442, 0, none⟩ = some (.string (⟨#[]⟩ : ByteArray)) := (blk_cell BK442.out 0).trans rfl; have hcz20_1 : w18.cell? ⟨gb442, 1, none⟩ = some (.int .i64 0) := (blk_cell BK442.out 1).trans rfl; have hcz20_2 : w18.cell? ⟨gb442, 2, none⟩ = some (.int .i64 0) := (blk_cell BK442.out 2).trans rfl; have hfz20_0 := blk_frozen BK442.out 0; have hfz20_1 := blk_frozen BK442.out 1; have hfz20_2 := blk_frozen BK442.out 2))
       go_roundg k1
       case measure => have := HK1.out; omega
       case rel => exact ⟨(x7_1), (wrap64 (x23_1 + 1)), fr_, fr_, H', ⟨by have := HK1.out; omega⟩, ⟨by (with_reducible repeat (first | apply Kd.R_alloc | apply Kd.R_drewN | apply Kd.R_drew)); exact Kd.R_mono (Kd.R_far (p := ⟨gb442, 2, none⟩) (Kd.R_far (p := ⟨gb442, 1, none⟩) (Kd.R_far (p := ⟨gb442, 0, none⟩) (Kd.R_mono HO_21.out (fun k_ hk => (⟨hk, hk.2⟩ : _ ∧ k_ ≠ gb442))) (fun _ hk => hk.2) (.string ((rd_T75 t438 x23_1).f0))) (fun _ hk => hk.2) (.int .i64 ((rd_T75 t438 x23_1).f1))) (fun _ hk => hk.2) (.int .i64 ((rd_T75 t438 x23_1).f2))) (fun _ hk => trivial)⟩, ⟨by (with_reducible repeat (first | refine blk_drewN ?_ _ | refine blk_drew ?_ | refine blk_alloc ?_ _)); refine blk_far ?_ NB437_442.out _; (with_reducible repeat (first | refine blk_drewN ?_ _ | refine blk_drew ?_ | refine blk_alloc ?_ _)); refine blk_far ?_ NB437_442.out _; (with_reducible repeat (first | refine blk_drewN ?_ _ | refine blk_drew ?_ | refine blk_alloc ?_ _)); refine blk_far ?_ NB437_442.out _; (with_reducible repeat (first | refine blk_drewN ?_ _ | refine blk_drew ?_ | refine blk_alloc ?_ _)); exact BK437.out⟩, ⟨(hg2_ GE437 GE442)⟩⟩
     ·rw [if_neg c12] at H
      exact absurd H (by simp)
    ·rw [if_neg c11] at H
     exact absurd H (by simp)
   ·rw [if_neg c10] at H
    have c10b0 : decide (x23_1 < (t438.length : Int)) = false := decide_eq_false c10
    clear c10
    obtain rfl := Option.some.inj H
    go_wp2
    go_ret
    exact ⟨by first | rfl | (simp [errW_none, errW_some] <;> rfl) | (simp only [← hji4]; first | rfl | (simp [errW_none, errW_some] <;> rfl)) | (simp [*, errW_none, errW_some] <;> rfl), (hg_ GE437)⟩

/-! ### impl_WearOn: function 33 -/
def impl_WearOn.f (k : Nat) (l0 : List (S72)) (l1 : List (S75)) (a2 : ByteArray) (a3 : Int) : Option (Int × Int) := (impl_gearCode.f k l0 l1 a3).bind fun t443 => (if t443 = 0 then ((impl_gearNamed.f l0 a2).bind fun t444 => (if t444 < 0 then (some (0, 3)) else (if 0 ≤ t444 then (if t444 < (l0.length : Int) then ((impl_wearOn.f k ((rd_T72 l0 t444).f0) ((rd_T72 l0 t444).f1) ((rd_T72 l0 t444).f2) ((rd_T72 l0 t444).f3) l1 a3).bind fun t446 => (some (t446, 0))) else (none)) else (none)))) else (some (0, t443)))
set_option maxHeartbeats 8000000 in
set_option maxRecDepth 100000 in
theorem impl_WearOn.calls (k : Nat) (A0 : Option Addr) (c0 : Nat) (l0 : List (S72)) (A1 : Option Addr) (c1 : Nat) (l1 : List (S75)) (a2 : ByteArray) (a3 : Int) (r1 : Int) (r2 : Int) (w : World) (hr0 : Kd.C k72 w A0 l0.length l0) (hc0 : l0.length ≤ c0) (hr1 : Kd.C k75 w A1 l1.length l1) (hc1 : l1.length ≤ c1) (h : impl_WearOn.f k l0 l1 a2 a3 = some (r1, r2)) :
  Calls Try.prog 33 #[.slice A0 l0.length c0, .slice A1 l1.length c1, .string a2, .int .i64 a3] w fun e w' => e = .returned (.tuple #[.int .i64 r1, .int .i64 r2]) ∧ Below w.heap.size w w' := by
 have hu72 := Try.underlying72
 have HR0 := ak_ hr0
 have HC0 := ak_ hc0
 clear hr0 hc0
 have HR1 := ak_ hr1
 have HC1 := ak_ hc1
 clear hr1 hc1
 have HB := ak_ (Below.refl w.heap.size w)
 have H : ((impl_gearCode.f k l0 l1 a3).bind fun t443 => (if t443 = 0 then ((impl_gearNamed.f l0 a2).bind fun t444 => (if t444 < 0 then (some (0, 3)) else (if 0 ≤ t444 then (if t444 < (l0.length : Int) then ((impl_wearOn.f k ((rd_T72 l0 t444).f0) ((rd_T72 l0 t444).f1) ((rd_T72 l0 t444).f2) ((rd_T72 l0 t444).f3) l1 a3).bind fun t446 => (some (t446, 0))) else (none)) else (none)))) else (some (0, t443)))) = some (r1, r2) := h
 clear h
 replace H := ob_ H
 obtain ⟨t443, A50, H⟩ := H
 replace H : (if t443 = 0 then ((impl_gearNamed.f l0 a2).bind fun t444 => (if t444 < 0 then (some (0, 3)) else (if 0 ≤ t444 then (if t444 < (l0.length : Int) then ((impl_wearOn.f k ((rd_T72 l0 t444).f0) ((rd_T72 l0 t444).f1) ((rd_T72 l0 t444).f2) ((rd_T72 l0 t444).f3) l1 a3).bind fun t446 => (some (t446, 0))) else (none)) else (none)))) else (some (0, t443))) = some (r1, r2) := H
 have A5 := ak_ A50
 clear A50
 by_cases c6 : t443 = 0
 ·rw [if_pos c6] at H
  have c6b0 : (t443 == 0) = true := beq_iff_eq.mpr c6
  have c6b1 : (t443 != 0) = false := bne_eq_false_iff_eq.mpr c6
  clear c6
  replace H := ob_ H
  obtain ⟨t444, A70, H⟩ := H
  replace H : (if t444 < 0 then (some (0, 3)) else (if 0 ≤ t444 then (if t444 < (l0.length : Int) then ((impl_wearOn.f k ((rd_T72 l0 t444).f0) ((rd_T72 l0 t444).f1) ((rd_T72 l0 t444).f2) ((rd_T72 l0 t444).f3) l1 a3).bind fun t446 => (some (t446, 0))) else (none)) else (none))) = some (r1, r2) := H
  have A7 := ak_ A70
  clear A70
  by_cases c8 : t444 < 0
  ·rw [if_pos c8] at H
   have c8b0 : decide (t444 < 0) = true := dt_ c8
   clear c8
   simp only [Option.some.injEq, Prod.mk.injEq] at H
   obtain ⟨rfl, rfl⟩ := H
   go_enter Try.func33, Try.ntmps33
   go_wp2_with (first | ((with_reducible refine gate_callee (f := 76) rfl ?_); refine goesL_ (some 15) rfl rfl Try.func76 (by kernel_rfl) rfl #[.slice A0 l0.length c0, .slice A1 l1.length c1, .int .i64 a3] rfl ln_ ?_; (with_reducible refine (impl_gearCode.calls k _ _ l0 _ _ l1 a3 t443 _ ?side1 ?side2 ?side3 ?side4 A5.out).mono ?_); (case side1 => exact kc_ HR0.out); (case side2 => exact HC0.out); (case side3 => exact kc_ HR1.out); (case side4 => exact HC1.out); rintro e w9 ⟨rfl, hb⟩; refine ⟨_, rfl, ?_⟩; have n0_ := ak_ (below_step hb_ hb); clear HB; have HB := n0_; clear n0_; clear hb) | ((with_reducible refine gate_callee (f := 77) rfl ?_); refine goesL_ (some 21) rfl rfl Try.func77 (by kernel_rfl) rfl #[.slice A0 l0.length c0, .string a2] rfl ln_ ?_; (with_reducible refine (impl_gearNamed.calls _ _ l0 a2 t444 _ ?side1 ?side2 A7.out).mono ?_); (case side1 => exact kc_ (Kd.C_below HR0.out HB.out)); (case side2 => exact HC0.out); rintro e w10 ⟨rfl, hb⟩; refine ⟨_, rfl, ?_⟩; have n0_ := ak_ (below_step hb_ hb); clear HB; have HB := n0_; clear n0_; clear hb))
   go_ret2
   exact ⟨ew_, hb_⟩
  ·rw [if_neg c8] at H
   have c8b0 : decide (t444 < 0) = false := decide_eq_false c8
   clear c8
   by_cases c11 : 0 ≤ t444
   ·rw [if_pos c11] at H
    have c11b0 : decide (0 ≤ t444) = true := dt_ c11
    clear c11
    by_cases c12 : t444 < (l0.length : Int)
    ·rw [if_pos c12] at H
     have c12b0 : decide (t444 < (l0.length : Int)) = true := dt_ c12
     clear c12
     replace H := ob_ H
     obtain ⟨t446, A130, H⟩ := H
     replace H : (some (t446, 0)) = some (r1, r2) := H
     have A13 := ak_ A130
     clear A130
     simp only [Option.some.injEq, Prod.mk.injEq] at H
     obtain ⟨rfl, rfl⟩ := H
     go_enter Try.func33, Try.ntmps33
     go_wp2_with (first | ((with_reducible refine gate_callee (f := 76) rfl ?_); refine goesL_ (some 15) rfl rfl Try.func76 (by kernel_rfl) rfl #[.slice A0 l0.length c0, .slice A1 l1.length c1, .int .i64 a3] rfl ln_ ?_; (with_reducible refine (impl_gearCode.calls k _ _ l0 _ _ l1 a3 t443 _ ?side1 ?side2 ?side3 ?side4 A5.out).mono ?_); (case side1 => exact kc_ HR0.out); (case side2 => exact HC0.out); (case side3 => exact kc_ HR1.out); (case side4 => exact HC1.out); rintro e w14 ⟨rfl, hb⟩; refine ⟨_, rfl, ?_⟩; have n0_ := ak_ (below_step hb_ hb); clear HB; have HB := n0_; clear n0_; clear hb) | ((with_reducible refine gate_callee (f := 77) rfl ?_); refine goesL_ (some 21) rfl rfl Try.func77 (by kernel_rfl) rfl #[.slice A0 l0.length c0, .string a2] rfl ln_ ?_; (with_reducible refine (impl_gearNamed.calls _ _ l0 a2 t444 _ ?side1 ?side2 A7.out).mono ?_); (case side1 => exact kc_ (Kd.C_below HR0.out HB.out)); (case side2 => exact HC0.out); rintro e w15 ⟨rfl, hb⟩; refine ⟨_, rfl, ?_⟩; have n0_ := ak_ (below_step hb_ hb); clear HB; have HB := n0_; clear n0_; (try clear hb); (try clear hb2); (try clear hk); (try clear hi); have p445 : 0 ≤ (t444 : Int) := od_; have q445 : t444 < (l0.length : Int) := od_; obtain ⟨ad445, e445, hx445_0, hx445_1, hx445_2, hx445_3⟩ := at_T72 HR0.out t444 p445 q445; cases e445; replace hx445_0 := cq_ HB hx445_0; replace hx445_1 := cq_ HB hx445_1; replace hx445_2 := cq_ HB hx445_2; replace hx445_3 := cq_ HB hx445_3; replace p445 := eq_true p445; replace q445 := eq_true q445) | ((with_reducible refine gate_callee (f := 78) rfl ?_); refine goesL_ (some 30) rfl rfl Try.func78 (by kernel_rfl) rfl #[.agg #[.string ((rd_T72 l0 t444).f0), .int .i64 ((rd_T72 l0 t444).f1), .int .i64 ((rd_T72 l0 t444).f2), .int .i64 ((rd_T72 l0 t444).f3)], .slice A1 l1.length c1, .int .i64 a3] rfl ln_ ?_; (with_reducible refine (impl_wearOn.calls k ((rd_T72 l0 t444).f0) ((rd_T72 l0 t444).f1) ((rd_T72 l0 t444).f2) ((rd_T72 l0 t444).f3) _ _ l1 a3 t446 _ ?side1 ?side2 A13.out).mono ?_); (case side1 => exact kc_ (Kd.C_below HR1.out HB.out)); (case side2 => exact HC1.out); rintro e w16 ⟨rfl, hb⟩; refine ⟨_, rfl, ?_⟩; have n0_ := ak_ (below_step hb_ hb); clear HB; have HB := n0_; clear n0_; clear hb))
     go_ret2
     exact ⟨ew_, hb_⟩
    ·rw [if_neg c12] at H
     exact absurd H (by simp)
   ·rw [if_neg c11] at H
    exact absurd H (by simp)
 ·rw [if_neg c6] at H
  have c6b0 : (t443 == 0) = false := beq_eq_false_iff_ne.mpr c6
  have c6b1 : (t443 != 0) = true := bne_iff_ne.mpr c6
  simp only [Option.some.injEq, Prod.mk.injEq] at H
  obtain ⟨rfl, rfl⟩ := H
  go_enter Try.func33, Try.ntmps33
  go_wp2_with (first | ((with_reducible refine gate_callee (f := 76) rfl ?_); refine goesL_ (some 15) rfl rfl Try.func76 (by kernel_rfl) rfl #[.slice A0 l0.length c0, .slice A1 l1.length c1, .int .i64 a3] rfl ln_ ?_; (with_reducible refine (impl_gearCode.calls k _ _ l0 _ _ l1 a3 t443 _ ?side1 ?side2 ?side3 ?side4 A5.out).mono ?_); (case side1 => exact kc_ HR0.out); (case side2 => exact HC0.out); (case side3 => exact kc_ HR1.out); (case side4 => exact HC1.out); rintro e w17 ⟨rfl, hb⟩; refine ⟨_, rfl, ?_⟩; have n0_ := ak_ (below_step hb_ hb); clear HB; have HB := n0_; clear n0_; clear hb))
  go_ret2
  exact ⟨ew_, hb_⟩

/-! ### spec_l21Named: function 81 -/
def spec_l21Named.f (k : Nat) (l0 : List (S72)) (l1 : List (S75)) (a2 : ByteArray) : Option (Int × Int) := (spec_l21Checks.f k l0 l1).bind fun t447 => (if t447 = true then ((spec_l21Find.f k l0 a2).bind fun t448 => (if t448 < 0 then (some (0, 3)) else (some (t448, 0)))) else (some (0, 1)))
set_option maxHeartbeats 8000000 in
set_option maxRecDepth 100000 in
theorem spec_l21Named.calls (k : Nat) (A0 : Option Addr) (c0 : Nat) (l0 : List (S72)) (A1 : Option Addr) (c1 : Nat) (l1 : List (S75)) (a2 : ByteArray) (r1 : Int) (r2 : Int) (w : World) (hr0 : Kd.C k72 w A0 l0.length l0) (hc0 : l0.length ≤ c0) (hr1 : Kd.C k75 w A1 l1.length l1) (hc1 : l1.length ≤ c1) (h : spec_l21Named.f k l0 l1 a2 = some (r1, r2)) :
  Calls Try.prog 81 #[.slice A0 l0.length c0, .slice A1 l1.length c1, .string a2] w fun e w' => e = .returned (.tuple #[.int .i64 r1, .int .i64 r2]) ∧ Below w.heap.size w w' := by
 have HR0 := ak_ hr0
 have HC0 := ak_ hc0
 clear hr0 hc0
 have HR1 := ak_ hr1
 have HC1 := ak_ hc1
 clear hr1 hc1
 have HB := ak_ (Below.refl w.heap.size w)
 have H : ((spec_l21Checks.f k l0 l1).bind fun t447 => (if t447 = true then ((spec_l21Find.f k l0 a2).bind fun t448 => (if t448 < 0 then (some (0, 3)) else (some (t448, 0)))) else (some (0, 1)))) = some (r1, r2) := h
 clear h
 replace H := ob_ H
 obtain ⟨t447, A40, H⟩ := H
 replace H : (if t447 = true then ((spec_l21Find.f k l0 a2).bind fun t448 => (if t448 < 0 then (some (0, 3)) else (some (t448, 0)))) else (some (0, 1))) = some (r1, r2) := H
 have A4 := ak_ A40
 clear A40
 by_cases c5 : t447 = true
 ·subst c5
  have H1 : ((spec_l21Find.f k l0 a2).bind fun t448 => (if t448 < 0 then (some (0, 3)) else (some (t448, 0)))) = some (r1, r2) := by rw [if_pos rfl] at H; exact H
  clear H
  have H := H1
  clear H1
  replace H := ob_ H
  obtain ⟨t448, A60, H⟩ := H
  replace H : (if t448 < 0 then (some (0, 3)) else (some (t448, 0))) = some (r1, r2) := H
  have A6 := ak_ A60
  clear A60
  by_cases c7 : t448 < 0
  ·rw [if_pos c7] at H
   have c7b0 : decide (t448 < 0) = true := dt_ c7
   clear c7
   simp only [Option.some.injEq, Prod.mk.injEq] at H
   obtain ⟨rfl, rfl⟩ := H
   go_enter Try.func81, Try.ntmps81
   go_wp2_with (first | ((with_reducible refine gate_callee (f := 79) rfl ?_); refine goesL_ (some 11) rfl rfl Try.func79 (by kernel_rfl) rfl #[.slice A0 l0.length c0, .slice A1 l1.length c1] rfl ln_ ?_; (with_reducible refine (spec_l21Checks.calls k _ _ l0 _ _ l1 true _ ?side1 ?side2 ?side3 ?side4 A4.out).mono ?_); (case side1 => exact kc_ HR0.out); (case side2 => exact HC0.out); (case side3 => exact kc_ HR1.out); (case side4 => exact HC1.out); rintro e w8 ⟨rfl, hb⟩; refine ⟨_, rfl, ?_⟩; have n0_ := ak_ (below_step hb_ hb); clear HB; have HB := n0_; clear n0_; clear hb) | ((with_reducible refine gate_callee (f := 113) rfl ?_); refine goesL_ (some 15) rfl rfl Try.func113 (by kernel_rfl) rfl #[.slice A0 l0.length c0, .string a2] rfl ln_ ?_; (with_reducible refine (spec_l21Find.calls k _ _ l0 a2 t448 _ ?side1 ?side2 A6.out).mono ?_); (case side1 => exact kc_ (Kd.C_below HR0.out HB.out)); (case side2 => exact HC0.out); rintro e w' ⟨rfl, ⟨nd, rfl⟩⟩; refine ⟨_, rfl, ?_⟩))
   go_ret2
   exact ⟨ew_, hb_⟩
  ·rw [if_neg c7] at H
   have c7b0 : decide (t448 < 0) = false := decide_eq_false c7
   clear c7
   simp only [Option.some.injEq, Prod.mk.injEq] at H
   obtain ⟨rfl, rfl⟩ := H
   go_enter Try.func81, Try.ntmps81
   go_wp2_with (first | ((with_reducible refine gate_callee (f := 79) rfl ?_); refine goesL_ (some 11) rfl rfl Try.func79 (by kernel_rfl) rfl #[.slice A0 l0.length c0, .slice A1 l1.length c1] rfl ln_ ?_; (with_reducible refine (spec_l21Checks.calls k _ _ l0 _ _ l1 true _ ?side1 ?side2 ?side3 ?side4 A4.out).mono ?_); (case side1 => exact kc_ HR0.out); (case side2 => exact HC0.out); (case side3 => exact kc_ HR1.out); (case side4 => exact HC1.out); rintro e w9 ⟨rfl, hb⟩; refine ⟨_, rfl, ?_⟩; have n0_ := ak_ (below_step hb_ hb); clear HB; have HB := n0_; clear n0_; clear hb) | ((with_reducible refine gate_callee (f := 113) rfl ?_); refine goesL_ (some 15) rfl rfl Try.func113 (by kernel_rfl) rfl #[.slice A0 l0.length c0, .string a2] rfl ln_ ?_; (with_reducible refine (spec_l21Find.calls k _ _ l0 a2 t448 _ ?side1 ?side2 A6.out).mono ?_); (case side1 => exact kc_ (Kd.C_below HR0.out HB.out)); (case side2 => exact HC0.out); rintro e w' ⟨rfl, ⟨nd, rfl⟩⟩; refine ⟨_, rfl, ?_⟩))
   go_ret2
   exact ⟨ew_, hb_⟩
 ·replace c5 := Bool.eq_false_iff.mpr c5
  subst c5
  have H1 : (some (0, 1)) = some (r1, r2) := by rw [if_neg (show ¬ (false = true) by decide)] at H; exact H
  clear H
  have H := H1
  clear H1
  simp only [Option.some.injEq, Prod.mk.injEq] at H
  obtain ⟨rfl, rfl⟩ := H
  go_enter Try.func81, Try.ntmps81
  go_wp2_with (first | ((with_reducible refine gate_callee (f := 79) rfl ?_); refine goesL_ (some 11) rfl rfl Try.func79 (by kernel_rfl) rfl #[.slice A0 l0.length c0, .slice A1 l1.length c1] rfl ln_ ?_; (with_reducible refine (spec_l21Checks.calls k _ _ l0 _ _ l1 false _ ?side1 ?side2 ?side3 ?side4 A4.out).mono ?_); (case side1 => exact kc_ HR0.out); (case side2 => exact HC0.out); (case side3 => exact kc_ HR1.out); (case side4 => exact HC1.out); rintro e w10 ⟨rfl, hb⟩; refine ⟨_, rfl, ?_⟩; have n0_ := ak_ (below_step hb_ hb); clear HB; have HB := n0_; clear n0_; clear hb))
  go_ret2
  exact ⟨ew_, hb_⟩

/-! ### spec_l21Last: function 114 -/
def spec_l21Last.l0 : Nat → List (S75) → ByteArray → Int → Int → Option (ByteArray × Int × Int × Bool)
 | 0, _, _, _, _ => none
 | k + 1, x0, x1, x2, x8 => if x8 ≥ 0 then (if 0 ≤ x8 then (if x8 < (x0.length : Int) then (if ((rd_T75 x0 x8).f0).toList = x1.toList then (if ((rd_T75 x0 x8).f1) ≤ x2 then (some ((rd_T75 x0 x8).f0, (rd_T75 x0 x8).f1, (rd_T75 x0 x8).f2, true)) else (spec_l21Last.l0 k x0 x1 x2 (wrap64 (x8 - 1)))) else (spec_l21Last.l0 k x0 x1 x2 (wrap64 (x8 - 1)))) else (none)) else (none)) else (some ((⟨#[]⟩ : ByteArray), 0, 0, false))
def spec_l21Last.f (k : Nat) (l0 : List (S75)) (a1 : ByteArray) (a2 : Int) : Option (ByteArray × Int × Int × Bool) := spec_l21Last.l0 k l0 a1 a2 (wrap64 ((l0.length : Int) - 1))
set_option maxHeartbeats 8000000 in
set_option maxRecDepth 100000 in
theorem spec_l21Last.calls (k : Nat) (A0 : Option Addr) (c0 : Nat) (l0 : List (S75)) (a1 : ByteArray) (a2 : Int) (r1 : ByteArray) (r2 : Int) (r3 : Int) (r4 : Bool) (w : World) (hr0 : Kd.C k75 w A0 l0.length l0) (hc0 : l0.length ≤ c0) (h : spec_l21Last.f k l0 a1 a2 = some (r1, r2, r3, r4)) :
  Calls Try.prog 114 #[.slice A0 l0.length c0, .string a1, .int .i64 a2] w fun e w' => e = .returned (.tuple #[.agg #[.string r1, .int .i64 r2, .int .i64 r3], .bool r4]) ∧ Below w.heap.size w w' := by
 have hu75 := Try.underlying75
 have HR0 := ak_ hr0
 have HC0 := ak_ hc0
 clear hr0 hc0
 have HB := ak_ (Below.refl w.heap.size w)
 have H : (spec_l21Last.l0 k l0 a1 a2 (wrap64 ((l0.length : Int) - 1))) = some (r1, r2, r3, r4) := h
 clear h
 have H' := ak_ H
 clear H
 go_enter Try.func114, Try.ntmps114
 go_wp2_with (first | ((with_reducible refine gate_dst (N := 6) rfl ?_); refine box_event ?hg (N := 6) ?hd (cs := #[.string (⟨#[]⟩ : ByteArray), .int .i64 0, .int .i64 0]) (t := 75) ?hr ?_; (case hd => rfl); (case hg => rfl); (case hr => first | (go_simp; done) | (go_simp; rfl)); intro gb449 hg w4 hbox hb; have n0_ := ak_ (below_step hb_ hb); have n1_ := ak_ (hbox); have n2_ := ak_ ((by rw [hg]; exact (below_size hb_) : w.heap.size ≤ gb449)); have n3_ := ak_ ((by rw [hg]; exact (below_size hb_) : w.heap.size ≤ gb449)); clear HB; have HB := n0_; have BK449 := n1_; have GW449 := n2_; have GE449 := n3_; clear n0_ n1_ n2_ n3_; clear hb hbox hg))
 go_loopg [8] k (fun kq v8 w' => ∃ (x8_1 : Int) (x450000_1 : ByteArray) (x450001_1 : Int) (x450002_1 : Int), v8 = .int .i64 x8_1 ∧ Aside0 (spec_l21Last.l0 kq l0 a1 a2 x8_1 = some (r1, r2, r3, r4)) ∧ Aside0 (kq ≤ k) ∧ Aside0 (w'.heap[gb449]? = some (.cells #[.string x450000_1, .int .i64 x450001_1, .int .i64 x450002_1] 75 (0, 0))) ∧ Aside0 (Below w.heap.size w w'))
 case atStart => exact ⟨(wrap64 ((l0.length : Int) - 1)), ((⟨#[]⟩ : ByteArray)), (0), (0), fr_, H', ⟨Nat.le_refl _⟩, ⟨by (with_reducible repeat (first | refine blk_drewN ?_ _ | refine blk_drew ?_ | refine blk_alloc ?_ _)); exact BK449.out⟩, ⟨(hg_ GE449)⟩⟩
 case round =>
  clear H'
  try clear c1
  try clear p2
  obtain ⟨x8_1, x450000_1, x450001_1, x450002_1, rfl, HA, HK1, BK449, HB⟩ := hrel
  cases gk with
  | zero => exact absurd HA.out (by simp [spec_l21Last.l0])
  | succ k1 =>
   have H := HA.out
   clear HA
   simp only [spec_l21Last.l0] at H
   by_cases c5 : x8_1 ≥ 0
   ·rw [if_pos c5] at H
    have c5b0 : decide (0 ≤ x8_1) = true := dt_ c5
    clear c5
    by_cases c6 : 0 ≤ x8_1
    ·rw [if_pos c6] at H
     have c6b0 : decide (0 ≤ x8_1) = true := dt_ c6
     clear c6
     by_cases c7 : x8_1 < (l0.length : Int)
     ·rw [if_pos c7] at H
      have c7b0 : decide (x8_1 < (l0.length : Int)) = true := dt_ c7
      clear c7
      by_cases c8 : ((rd_T75 l0 x8_1).f0).toList = a1.toList
      ·rw [if_pos c8] at H
       have c8b0 : (((rd_T75 l0 x8_1).f0).toList == a1.toList) = true := beq_iff_eq.mpr c8
       have c8b1 : (((rd_T75 l0 x8_1).f0).toList != a1.toList) = false := bne_eq_false_iff_eq.mpr c8
       clear c8
       by_cases c9 : ((rd_T75 l0 x8_1).f1) ≤ a2
       ·rw [if_pos c9] at H
        have c9b0 : decide (((rd_T75 l0 x8_1).f1) ≤ a2) = true := dt_ c9
        clear c9
        simp only [Option.some.injEq, Prod.mk.injEq] at H
        obtain ⟨rfl, rfl, rfl, rfl⟩ := H
        have p450 : 0 ≤ (x8_1 : Int) := od_
        have q450 : x8_1 < (l0.length : Int) := od_
        obtain ⟨ad450, e450, hx450_0, hx450_1, hx450_2⟩ := at_T75 HR0.out x8_1 p450 q450
        cases e450
        replace hx450_0 := cq_ HB hx450_0
        replace hx450_1 := cq_ HB hx450_1
        replace hx450_2 := cq_ HB hx450_2
        replace p450 := eq_true p450
        replace q450 := eq_true q450
        have p451 : 0 ≤ (x8_1 : Int) := od_
        have q451 : x8_1 < (l0.length : Int) := od_
        obtain ⟨ad451, e451, hx451_0, hx451_1, hx451_2⟩ := at_T75 HR0.out x8_1 p451 q451
        obtain rfl : ad450 = ad451 := (by injection e451)
        replace hx451_0 := cq_ HB hx451_0
        replace hx451_1 := cq_ HB hx451_1
        replace hx451_2 := cq_ HB hx451_2
        replace p451 := eq_true p451
        replace q451 := eq_true q451
        have p452 : 0 ≤ (x8_1 : Int) := od_
        have q452 : x8_1 < (l0.length : Int) := od_
        obtain ⟨ad452, e452, hx452_0, hx452_1, hx452_2⟩ := at_T75 HR0.out x8_1 p452 q452
        obtain rfl : ad450 = ad452 := (by injection e452)
        replace hx452_0 := cq_ HB hx452_0
        replace hx452_1 := cq_ HB hx452_1
        replace hx452_2 := cq_ HB hx452_2
        replace p452 := eq_true p452
        replace q452 := eq_true q452
        have hcz10_0 : wr.cell? ⟨gb449, 0, none⟩ = some (.string x450000_1) := (blk_cell BK449.out 0).trans rfl
        have hcz10_1 : wr.cell? ⟨gb449, 1, none⟩ = some (.int .i64 x450001_1) := (blk_cell BK449.out 1).trans rfl
        have hcz10_2 : wr.cell? ⟨gb449, 2, none⟩ = some (.int .i64 x450002_1) := (blk_cell BK449.out 2).trans rfl
        have hfz10_0 := blk_frozen BK449.out 0
        have hfz10_1 := blk_frozen BK449.out 1
        have hfz10_2 := blk_frozen BK449.out 2
        go_wp2
        refine bodyPost_ret (results_ct rfl _ _ gb449 75 #[.string ((rd_T75 l0 x8_1).f0), .int .i64 ((rd_T75 l0 x8_1).f1), .int .i64 ((rd_T75 l0 x8_1).f2)] (0, 0) _ rfl (by (with_reducible repeat (first | refine blk_drewN ?_ _ | refine blk_drew ?_ | refine blk_alloc ?_ _)); refine blk_put (cs := #[.string ((rd_T75 l0 x8_1).f0), .int .i64 ((rd_T75 l0 x8_1).f1), .int .i64 x450002_1]) ?_ 2 _ rfl; (with_reducible repeat (first | refine blk_drewN ?_ _ | refine blk_drew ?_ | refine blk_alloc ?_ _)); refine blk_put (cs := #[.string ((rd_T75 l0 x8_1).f0), .int .i64 x450001_1, .int .i64 x450002_1]) ?_ 1 _ rfl; (with_reducible repeat (first | refine blk_drewN ?_ _ | refine blk_drew ?_ | refine blk_alloc ?_ _)); refine blk_put (cs := #[.string x450000_1, .int .i64 x450001_1, .int .i64 x450002_1]) ?_ 0 _ rfl; (with_reducible repeat (first | refine blk_drewN ?_ _ | refine blk_drew ?_ | refine blk_alloc ?_ _)); exact BK449.out) Try.underlying75 rfl (by kernel_rfl)) rfl ?_
        exact ⟨ew_, (hg_ GE449)⟩
       ·rw [if_neg c9] at H
        have c9b0 : decide (((rd_T75 l0 x8_1).f1) ≤ a2) = false := decide_eq_false c9
        clear c9
        have H' := ak_ H
        clear H
        have p450 : 0 ≤ (x8_1 : Int) := od_
        have q450 : x8_1 < (l0.length : Int) := od_
        obtain ⟨ad450, e450, hx450_0, hx450_1, hx450_2⟩ := at_T75 HR0.out x8_1 p450 q450
        cases e450
        replace hx450_0 := cq_ HB hx450_0
        replace hx450_1 := cq_ HB hx450_1
        replace hx450_2 := cq_ HB hx450_2
        replace p450 := eq_true p450
        replace q450 := eq_true q450
        have p451 : 0 ≤ (x8_1 : Int) := od_
        have q451 : x8_1 < (l0.length : Int) := od_
        obtain ⟨ad451, e451, hx451_0, hx451_1, hx451_2⟩ := at_T75 HR0.out x8_1 p451 q451
        obtain rfl : ad450 = ad451 := (by injection e451)
        replace hx451_0 := cq_ HB hx451_0
        replace hx451_1 := cq_ HB hx451_1
        replace hx451_2 := cq_ HB hx451_2
        replace p451 := eq_true p451
        replace q451 := eq_true q451
        go_wp2
        go_roundg k1
        case measure => have := HK1.out; omega
        case rel => exact ⟨(wrap64 (x8_1 - 1)), (x450000_1), (x450001_1), (x450002_1), fr_, H', ⟨by have := HK1.out; omega⟩, ⟨by (with_reducible repeat (first | refine blk_drewN ?_ _ | refine blk_drew ?_ | refine blk_alloc ?_ _)); exact BK449.out⟩, ⟨(hg_ GE449)⟩⟩
      ·rw [if_neg c8] at H
       have c8b0 : (((rd_T75 l0 x8_1).f0).toList == a1.toList) = false := beq_eq_false_iff_ne.mpr c8
       have c8b1 : (((rd_T75 l0 x8_1).f0).toList != a1.toList) = true := bne_iff_ne.mpr c8
       have H' := ak_ H
       clear H
       have p450 : 0 ≤ (x8_1 : Int) := od_
       have q450 : x8_1 < (l0.length : Int) := od_
       obtain ⟨ad450, e450, hx450_0, hx450_1, hx450_2⟩ := at_T75 HR0.out x8_1 p450 q450
       cases e450
       replace hx450_0 := cq_ HB hx450_0
       replace hx450_1 := cq_ HB hx450_1
       replace hx450_2 := cq_ HB hx450_2
       replace p450 := eq_true p450
       replace q450 := eq_true q450
       go_wp2
       go_roundg k1
       case measure => have := HK1.out; omega
       case rel => exact ⟨(wrap64 (x8_1 - 1)), (x450000_1), (x450001_1), (x450002_1), fr_, H', ⟨by have := HK1.out; omega⟩, ⟨by (with_reducible repeat (first | refine blk_drewN ?_ _ | refine blk_drew ?_ | refine blk_alloc ?_ _)); exact BK449.out⟩, ⟨(hg_ GE449)⟩⟩
     ·rw [if_neg c7] at H
      exact absurd H (by simp)
    ·rw [if_neg c6] at H
     exact absurd H (by simp)
   ·rw [if_neg c5] at H
    have c5b0 : decide (0 ≤ x8_1) = false := decide_eq_false c5
    clear c5
    simp only [Option.some.injEq, Prod.mk.injEq] at H
    obtain ⟨rfl, rfl, rfl, rfl⟩ := H
    have hcz11_0 : wr.cell? ⟨gb449, 0, none⟩ = some (.string x450000_1) := (blk_cell BK449.out 0).trans rfl
    have hcz11_1 : wr.cell? ⟨gb449, 1, none⟩ = some (.int .i64 x450001_1) := (blk_cell BK449.out 1).trans rfl
    have hcz11_2 : wr.cell? ⟨gb449, 2, none⟩ = some (.int .i64 x450002_1) := (blk_cell BK449.out 2).trans rfl
    have hfz11_0 := blk_frozen BK449.out 0
    have hfz11_1 := blk_frozen BK449.out 1
    have hfz11_2 := blk_frozen BK449.out 2
    go_wp2
    refine bodyPost_ret (results_ct rfl _ _ gb449 75 #[.string (⟨#[]⟩ : ByteArray), .int .i64 0, .int .i64 0] (0, 0) _ rfl (by (with_reducible repeat (first | refine blk_drewN ?_ _ | refine blk_drew ?_ | refine blk_alloc ?_ _)); refine blk_put (cs := #[.string (⟨#[]⟩ : ByteArray), .int .i64 0, .int .i64 x450002_1]) ?_ 2 _ rfl; (with_reducible repeat (first | refine blk_drewN ?_ _ | refine blk_drew ?_ | refine blk_alloc ?_ _)); refine blk_put (cs := #[.string (⟨#[]⟩ : ByteArray), .int .i64 x450001_1, .int .i64 x450002_1]) ?_ 1 _ rfl; (with_reducible repeat (first | refine blk_drewN ?_ _ | refine blk_drew ?_ | refine blk_alloc ?_ _)); refine blk_put (cs := #[.string x450000_1, .int .i64 x450001_1, .int .i64 x450002_1]) ?_ 0 _ rfl; (with_reducible repeat (first | refine blk_drewN ?_ _ | refine blk_drew ?_ | refine blk_alloc ?_ _)); exact BK449.out) Try.underlying75 rfl (by kernel_rfl)) rfl ?_
    exact ⟨ew_, (hg_ GE449)⟩

/-! ### spec_l00Max: function 115 -/
def spec_l00Max.f (a0 : Int) (a1 : Int) : Option (Int) := if a0 > a1 then (some a0) else (some a1)
set_option maxHeartbeats 8000000 in
set_option maxRecDepth 100000 in
theorem spec_l00Max.calls (a0 : Int) (a1 : Int) (r : Int) (w : World) (h : spec_l00Max.f a0 a1 = some r) :
  Calls Try.prog 115 #[.int .i64 a0, .int .i64 a1] w fun e w' => e = .returned (.int .i64 r) ∧ Drawn0 w w' := by
 have H : (if a0 > a1 then (some a0) else (some a1)) = some r := h
 clear h
 by_cases c3 : a0 > a1
 ·rw [if_pos c3] at H
  have c3b0 : decide (a1 < a0) = true := dt_ c3
  clear c3
  obtain rfl := Option.some.inj H
  go_enter Try.func115, Try.ntmps115
  go_wp2
  go_ret
  exact ⟨by first | rfl | (simp; done) | (simp [*]; done), by repeat (first | exact Drawn0.refl _ | apply Drawn0.step)⟩
 ·rw [if_neg c3] at H
  have c3b0 : decide (a1 < a0) = false := decide_eq_false c3
  clear c3
  obtain rfl := Option.some.inj H
  go_enter Try.func115, Try.ntmps115
  go_wp2
  go_ret
  exact ⟨by first | rfl | (simp; done) | (simp [*]; done), by repeat (first | exact Drawn0.refl _ | apply Drawn0.step)⟩

/-! ### spec_l21Wear: function 82 -/
def spec_l21Wear.f (k : Nat) (s0_0 : ByteArray) (s0_1 : Int) (s0_2 : Int) (s0_3 : Int) (l1 : List (S75)) (a2 : Int) : Option (Int) := (spec_l21Last.f k l1 s0_0 a2).bind fun bt453 => (if bt453.2.2.2 = true then (some (wrap64 (bt453.2.2.1 + (wrap64 (s0_2 * (wrap64 (a2 - bt453.2.1))))))) else ((spec_l00Max.f 0 (wrap64 (a2 - s0_1))).bind fun t458 => (some (wrap64 (s0_2 * t458)))))
set_option maxHeartbeats 8000000 in
set_option maxRecDepth 100000 in
theorem spec_l21Wear.calls0 (k : Nat) (g o : Nat) (z : Option Nat) (s0_0 : ByteArray) (s0_1 : Int) (s0_2 : Int) (s0_3 : Int) (A1 : Option Addr) (c1 : Nat) (l1 : List (S75)) (a2 : Int) (r : Int) (w0 w : World) (hI : IsE72 w0 w g o z s0_0 s0_1 s0_2 s0_3) (hB : Below w0.heap.size w0 w) (hr1 : ∀ W_, KeepBut w W_ w.heap.size none → Kd.C k75 W_ A1 l1.length l1) (hc1 : l1.length ≤ c1) (h : spec_l21Wear.f k s0_0 s0_1 s0_2 s0_3 l1 a2 = some r) :
  Calls Try.prog 82 #[.pointer (some ⟨g, o, z⟩), .slice A1 l1.length c1, .int .i64 a2] w fun e w' => e = .returned (.int .i64 r) ∧ IsE72 w0 w' g o z s0_0 s0_1 s0_2 s0_3 ∧ Below w0.heap.size w0 w' ∧ KeepBut w w' w.heap.size none := by
 have hu75 := Try.underlying75
 have HR1 := ak_ hr1
 have HC1 := ak_ hc1
 clear hr1 hc1
 have HI0 := ak_ hI
 have HK := ak_ (KeepBut.refl w w.heap.size none)
 have HL := ak_ hB.size
 clear hI
 have HW0 := ak_ hB.size
 have HB := ak_ hB
 clear hB
 have H : ((spec_l21Last.f k l1 s0_0 a2).bind fun bt453 => (if bt453.2.2.2 = true then (some (wrap64 (bt453.2.2.1 + (wrap64 (s0_2 * (wrap64 (a2 - bt453.2.1))))))) else ((spec_l00Max.f 0 (wrap64 (a2 - s0_1))).bind fun t458 => (some (wrap64 (s0_2 * t458)))))) = some r := h
 clear h
 replace H := ob_ H
 obtain ⟨⟨t453, t454, t455, t456⟩, A40, H⟩ := H
 replace H : (if t456 = true then (some (wrap64 (t455 + (wrap64 (s0_2 * (wrap64 (a2 - t454))))))) else ((spec_l00Max.f 0 (wrap64 (a2 - s0_1))).bind fun t458 => (some (wrap64 (s0_2 * t458))))) = some r := H
 have A4 := ak_ A40
 clear A40
 by_cases c5 : t456 = true
 ·subst c5
  have H1 : (some (wrap64 (t455 + (wrap64 (s0_2 * (wrap64 (a2 - t454))))))) = some r := by rw [if_pos rfl] at H; exact H
  clear H
  have H := H1
  clear H1
  obtain rfl := Option.some.inj H
  obtain ⟨HGz6, hgz6⟩ := HI0.out
  have hcz6_0 := cellE72_0 HGz6
  have hcz6_1 := cellE72_1 HGz6
  have hcz6_2 := cellE72_2 HGz6
  have hcz6_3 := cellE72_3 HGz6
  clear HGz6 hgz6
  go_enter Try.func82, Try.ntmps82
  go_wp2_with (first | (go_at_call 114; (with_reducible refine (spec_l21Last.calls k _ _ l1 s0_0 a2 t453 t454 t455 true _ ?side1 ?side2 A4.out).mono ?_); (case side1 => exact Kd.C_foot_now HR1.out kb_); (case side2 => exact HC1.out); rintro e w7 ⟨rfl, hb⟩; have n0_ := ak_ (IsE72.below (isE72_a HI0) hb); have n1_ := ak_ (KeepBut.trans kb_ (KeepBut.of_below hb w.heap.size none) (.inl rfl)); have n2_ := ak_ (below_step hb_ hb); clear HI0 HK HB; have HI0 := n0_; have HK := n1_; have HB := n2_; clear n0_ n1_ n2_; clear hb) | ((with_reducible refine gate_dst (N := 7) rfl ?_); refine box_event ?hg (N := 7) ?hd (cs := #[.string (⟨#[]⟩ : ByteArray), .int .i64 0, .int .i64 0]) (t := 75) ?hr ?_; (case hd => rfl); (case hg => rfl); (case hr => first | (go_simp; done) | (go_simp; rfl)); intro gb457 hg w8 hbox hb; have n0_ := ak_ (IsE72.below (isE72_a HI0) hb); have n1_ := ak_ (KeepBut.trans kb_ (KeepBut.of_below hb w.heap.size none) (.inl rfl)); have n2_ := ak_ (below_step hb_ hb); have n3_ := ak_ (hbox); have n4_ := ak_ ((by rw [hg]; exact (keep_size (w := w) (g := w.heap.size) (row := none) kb_) : w.heap.size ≤ gb457)); have n5_ := ak_ ((Nat.le_trans HW0.out (by rw [hg]; exact (keep_size (w := w) (g := w.heap.size) (row := none) kb_) : w.heap.size ≤ gb457) : w0.heap.size ≤ gb457)); have n6_ := ak_ ((by rw [hg]; exact Nat.ne_of_lt (IsE72.lt (show IsE72 w0 _ g o z s0_0 s0_1 s0_2 s0_3 from isE72_a HI0)) : g ≠ gb457)); have n7_ := ak_ ((by rw [hg]; exact Nat.ne_of_gt (IsE72.lt (show IsE72 w0 _ g o z s0_0 s0_1 s0_2 s0_3 from isE72_a HI0)) : gb457 ≠ g)); clear HI0 HK HB; have HI0 := n0_; have HK := n1_; have HB := n2_; have BK457 := n3_; have GW457 := n4_; have GE457 := n5_; have NB0_457 := n6_; have NB457_0 := n7_; clear n0_ n1_ n2_ n3_ n4_ n5_ n6_ n7_; clear hb hbox hg; have hnb9 := NB457_0.out; have hnc9 := NB0_457.out; have hcz10_0 : w8.cell? ⟨gb457, 0, none⟩ = some (.string (⟨#[]⟩ : ByteArray)) := (blk_cell BK457.out 0).trans rfl; have hcz10_1 : w8.cell? ⟨gb457, 1, none⟩ = some (.int .i64 0) := (blk_cell BK457.out 1).trans rfl; have hcz10_2 : w8.cell? ⟨gb457, 2, none⟩ = some (.int .i64 0) := (blk_cell BK457.out 2).trans rfl; have hfz10_0 := blk_frozen BK457.out 0; have hfz10_1 := blk_frozen BK457.out 1; have hfz10_2 := blk_frozen BK457.out 2; obtain ⟨HGz11, hgz11⟩ := HI0.out; have hcz11_0 := cellE72_0 HGz11; have hcz11_1 := cellE72_1 HGz11; have hcz11_2 := cellE72_2 HGz11; have hcz11_3 := cellE72_3 HGz11; clear HGz11 hgz11))
  repeat (go_quiet (first | (go_at_call 114; (with_reducible refine (spec_l21Last.calls k _ _ l1 s0_0 a2 t453 t454 t455 true _ ?side1 ?side2 A4.out).mono ?_); (case side1 => exact Kd.C_foot_now HR1.out kb_); (case side2 => exact HC1.out); rintro e w7 ⟨rfl, hb⟩; have n0_ := ak_ (IsE72.below (isE72_a HI0) hb); have n1_ := ak_ (KeepBut.trans kb_ (KeepBut.of_below hb w.heap.size none) (.inl rfl)); have n2_ := ak_ (below_step hb_ hb); clear HI0 HK HB; have HI0 := n0_; have HK := n1_; have HB := n2_; clear n0_ n1_ n2_; clear hb) | ((with_reducible refine gate_dst (N := 7) rfl ?_); refine box_event ?hg (N := 7) ?hd (cs := #[.string (⟨#[]⟩ : ByteArray), .int .i64 0, .int .i64 0]) (t := 75) ?hr ?_; (case hd => rfl); (case hg => rfl); (case hr => first | (go_simp; done) | (go_simp; rfl)); intro gb457 hg w8 hbox hb; have n0_ := ak_ (IsE72.below (isE72_a HI0) hb); have n1_ := ak_ (KeepBut.trans kb_ (KeepBut.of_below hb w.heap.size none) (.inl rfl)); have n2_ := ak_ (below_step hb_ hb); have n3_ := ak_ (hbox); have n4_ := ak_ ((by rw [hg]; exact (keep_size (w := w) (g := w.heap.size) (row := none) kb_) : w.heap.size ≤ gb457)); have n5_ := ak_ ((Nat.le_trans HW0.out (by rw [hg]; exact (keep_size (w := w) (g := w.heap.size) (row := none) kb_) : w.heap.size ≤ gb457) : w0.heap.size ≤ gb457)); have n6_ := ak_ ((by rw [hg]; exact Nat.ne_of_lt (IsE72.lt (show IsE72 w0 _ g o z s0_0 s0_1 s0_2 s0_3 from isE72_a HI0)) : g ≠ gb457)); have n7_ := ak_ ((by rw [hg]; exact Nat.ne_of_gt (IsE72.lt (show IsE72 w0 _ g o z s0_0 s0_1 s0_2 s0_3 from isE72_a HI0)) : gb457 ≠ g)); clear HI0 HK HB; have HI0 := n0_; have HK := n1_; have HB := n2_; have BK457 := n3_; have GW457 := n4_; have GE457 := n5_; have NB0_457 := n6_; have NB457_0 := n7_; clear n0_ n1_ n2_ n3_ n4_ n5_ n6_ n7_; clear hb hbox hg; have hnb9 := NB457_0.out; have hnc9 := NB0_457.out; have hcz10_0 : w8.cell? ⟨gb457, 0, none⟩ = some (.string (⟨#[]⟩ : ByteArray)) := (blk_cell BK457.out 0).trans rfl; have hcz10_1 : w8.cell? ⟨gb457, 1, none⟩ = some (.int .i64 0) := (blk_cell BK457.out 1).trans rfl; have hcz10_2 : w8.cell? ⟨gb457, 2, none⟩ = some (.int .i64 0) := (blk_cell BK457.out 2).trans rfl; have hfz10_0 := blk_frozen BK457.out 0; have hfz10_1 := blk_frozen BK457.out 1; have hfz10_2 := blk_frozen BK457.out 2; obtain ⟨HGz11, hgz11⟩ := HI0.out; have hcz11_0 := cellE72_0 HGz11; have hcz11_1 := cellE72_1 HGz11; have hcz11_2 := cellE72_2 HGz11; have hcz11_3 := cellE72_3 HGz11; clear HGz11 hgz11)); try go_wp2_with (first | (go_at_call 114; (with_reducible refine (spec_l21Last.calls k _ _ l1 s0_0 a2 t453 t454 t455 true _ ?side1 ?side2 A4.out).mono ?_); (case side1 => exact Kd.C_foot_now HR1.out kb_); (case side2 => exact HC1.out); rintro e w7 ⟨rfl, hb⟩; have n0_ := ak_ (IsE72.below (isE72_a HI0) hb); have n1_ := ak_ (KeepBut.trans kb_ (KeepBut.of_below hb w.heap.size none) (.inl rfl)); have n2_ := ak_ (below_step hb_ hb); clear HI0 HK HB; have HI0 := n0_; have HK := n1_; have HB := n2_; clear n0_ n1_ n2_; clear hb) | ((with_reducible refine gate_dst (N := 7) rfl ?_); refine box_event ?hg (N := 7) ?hd (cs := #[.string (⟨#[]⟩ : ByteArray), .int .i64 0, .int .i64 0]) (t := 75) ?hr ?_; (case hd => rfl); (case hg => rfl); (case hr => first | (go_simp; done) | (go_simp; rfl)); intro gb457 hg w8 hbox hb; have n0_ := ak_ (IsE72.below (isE72_a HI0) hb); have n1_ := ak_ (KeepBut.trans kb_ (KeepBut.of_below hb w.heap.size none) (.inl rfl)); have n2_ := ak_ (below_step hb_ hb); have n3_ := ak_ (hbox); have n4_ := ak_ ((by rw [hg]; exact (keep_size (w := w) (g := w.heap.size) (row := none) kb_) : w.heap.size ≤ gb457)); have n5_ := ak_ ((Nat.le_trans HW0.out (by rw [hg]; exact (keep_size (w := w) (g := w.heap.size) (row := none) kb_) : w.heap.size ≤ gb457) : w0.heap.size ≤ gb457)); have n6_ := ak_ ((by rw [hg]; exact Nat.ne_of_lt (IsE72.lt (show IsE72 w0 _ g o z s0_0 s0_1 s0_2 s0_3 from isE72_a HI0)) : g ≠ gb457)); have n7_ := ak_ ((by rw [hg]; exact Nat.ne_of_gt (IsE72.lt (show IsE72 w0 _ g o z s0_0 s0_1 s0_2 s0_3 from isE72_a HI0)) : gb457 ≠ g)); clear HI0 HK HB; have HI0 := n0_; have HK := n1_; have HB := n2_; have BK457 := n3_; have GW457 := n4_; have GE457 := n5_; have NB0_457 := n6_; have NB457_0 := n7_; clear n0_ n1_ n2_ n3_ n4_ n5_ n6_ n7_; clear hb hbox hg; have hnb9 := NB457_0.out; have hnc9 := NB0_457.out; have hcz10_0 : w8.cell? ⟨gb457, 0, none⟩ = some (.string (⟨#[]⟩ : ByteArray)) := (blk_cell BK457.out 0).trans rfl; have hcz10_1 : w8.cell? ⟨gb457, 1, none⟩ = some (.int .i64 0) := (blk_cell BK457.out 1).trans rfl; have hcz10_2 : w8.cell? ⟨gb457, 2, none⟩ = some (.int .i64 0) := (blk_cell BK457.out 2).trans rfl; have hfz10_0 := blk_frozen BK457.out 0; have hfz10_1 := blk_frozen BK457.out 1; have hfz10_2 := blk_frozen BK457.out 2; obtain ⟨HGz11, hgz11⟩ := HI0.out; have hcz11_0 := cellE72_0 HGz11; have hcz11_1 := cellE72_1 HGz11; have hcz11_2 := cellE72_2 HGz11; have hcz11_3 := cellE72_3 HGz11; clear HGz11 hgz11)))
  go_ret
  exact ⟨ew_, by repeat (first | (with_reducible first | exact HI0.out | apply IsE72.alloc | apply IsE72.drewN | apply IsE72.drew | refine IsE72.far ?_ NB0_457.out _) | exact HI0.out), (hg_ GE457), by repeat (first | (with_reducible first | exact HK.out | apply keep_drewN | apply keep_drew | apply keep_alloc | refine keep_far ?_ GW457.out _) | exact HK.out)⟩
 ·replace c5 := Bool.eq_false_iff.mpr c5
  subst c5
  have H1 : ((spec_l00Max.f 0 (wrap64 (a2 - s0_1))).bind fun t458 => (some (wrap64 (s0_2 * t458)))) = some r := by rw [if_neg (show ¬ (false = true) by decide)] at H; exact H
  clear H
  have H := H1
  clear H1
  replace H := ob_ H
  obtain ⟨t458, A120, H⟩ := H
  replace H : (some (wrap64 (s0_2 * t458))) = some r := H
  have A12 := ak_ A120
  clear A120
  obtain rfl := Option.some.inj H
  obtain ⟨HGz13, hgz13⟩ := HI0.out
  have hcz13_0 := cellE72_0 HGz13
  have hcz13_1 := cellE72_1 HGz13
  have hcz13_2 := cellE72_2 HGz13
  have hcz13_3 := cellE72_3 HGz13
  clear HGz13 hgz13
  go_enter Try.func82, Try.ntmps82
  go_wp2_with (first | (go_at_call 114; (with_reducible refine (spec_l21Last.calls k _ _ l1 s0_0 a2 t453 t454 t455 false _ ?side1 ?side2 A4.out).mono ?_); (case side1 => exact Kd.C_foot_now HR1.out kb_); (case side2 => exact HC1.out); rintro e w14 ⟨rfl, hb⟩; have n0_ := ak_ (IsE72.below (isE72_a HI0) hb); have n1_ := ak_ (KeepBut.trans kb_ (KeepBut.of_below hb w.heap.size none) (.inl rfl)); have n2_ := ak_ (below_step hb_ hb); clear HI0 HK HB; have HI0 := n0_; have HK := n1_; have HB := n2_; clear n0_ n1_ n2_; clear hb) | ((with_reducible refine gate_dst (N := 7) rfl ?_); refine box_event ?hg (N := 7) ?hd (cs := #[.string (⟨#[]⟩ : ByteArray), .int .i64 0, .int .i64 0]) (t := 75) ?hr ?_; (case hd => rfl); (case hg => rfl); (case hr => first | (go_simp; done) | (go_simp; rfl)); intro gb457 hg w15 hbox hb; have n0_ := ak_ (IsE72.below (isE72_a HI0) hb); have n1_ := ak_ (KeepBut.trans kb_ (KeepBut.of_below hb w.heap.size none) (.inl rfl)); have n2_ := ak_ (below_step hb_ hb); have n3_ := ak_ (hbox); have n4_ := ak_ ((by rw [hg]; exact (keep_size (w := w) (g := w.heap.size) (row := none) kb_) : w.heap.size ≤ gb457)); have n5_ := ak_ ((Nat.le_trans HW0.out (by rw [hg]; exact (keep_size (w := w) (g := w.heap.size) (row := none) kb_) : w.heap.size ≤ gb457) : w0.heap.size ≤ gb457)); have n6_ := ak_ ((by rw [hg]; exact Nat.ne_of_lt (IsE72.lt (show IsE72 w0 _ g o z s0_0 s0_1 s0_2 s0_3 from isE72_a HI0)) : g ≠ gb457)); have n7_ := ak_ ((by rw [hg]; exact Nat.ne_of_gt (IsE72.lt (show IsE72 w0 _ g o z s0_0 s0_1 s0_2 s0_3 from isE72_a HI0)) : gb457 ≠ g)); clear HI0 HK HB; have HI0 := n0_; have HK := n1_; have HB := n2_; have BK457 := n3_; have GW457 := n4_; have GE457 := n5_; have NB0_457 := n6_; have NB457_0 := n7_; clear n0_ n1_ n2_ n3_ n4_ n5_ n6_ n7_; clear hb hbox hg; have hnb16 := NB457_0.out; have hnc16 := NB0_457.out; have hcz17_0 : w15.cell? ⟨gb457, 0, none⟩ = some (.string (⟨#[]⟩ : ByteArray)) := (blk_cell BK457.out 0).trans rfl; have hcz17_1 : w15.cell? ⟨gb457, 1, none⟩ = some (.int .i64 0) := (blk_cell BK457.out 1).trans rfl; have hcz17_2 : w15.cell? ⟨gb457, 2, none⟩ = some (.int .i64 0) := (blk_cell BK457.out 2).trans rfl; have hfz17_0 := blk_frozen BK457.out 0; have hfz17_1 := blk_frozen BK457.out 1; have hfz17_2 := blk_frozen BK457.out 2; obtain ⟨HGz18, hgz18⟩ := HI0.out; have hcz18_0 := cellE72_0 HGz18; have hcz18_1 := cellE72_1 HGz18; have hcz18_2 := cellE72_2 HGz18; have hcz18_3 := cellE72_3 HGz18; clear HGz18 hgz18) | (go_at_call 115; (with_reducible refine (spec_l00Max.calls 0 (wrap64 (a2 - s0_1)) t458 _ A12.out).mono ?_); rintro e w' ⟨rfl, ⟨nd, rfl⟩⟩; (try first | exact ⟨rfl, _, World.drewN_drewN _ _ _⟩ | exact ⟨rfl, _, Eq.trans (World.drewN_drewN _ _ _) (congrArg (World.drewN _) (Nat.add_assoc _ _ _))⟩)))
  repeat (go_quiet (first | (go_at_call 114; (with_reducible refine (spec_l21Last.calls k _ _ l1 s0_0 a2 t453 t454 t455 false _ ?side1 ?side2 A4.out).mono ?_); (case side1 => exact Kd.C_foot_now HR1.out kb_); (case side2 => exact HC1.out); rintro e w14 ⟨rfl, hb⟩; have n0_ := ak_ (IsE72.below (isE72_a HI0) hb); have n1_ := ak_ (KeepBut.trans kb_ (KeepBut.of_below hb w.heap.size none) (.inl rfl)); have n2_ := ak_ (below_step hb_ hb); clear HI0 HK HB; have HI0 := n0_; have HK := n1_; have HB := n2_; clear n0_ n1_ n2_; clear hb) | ((with_reducible refine gate_dst (N := 7) rfl ?_); refine box_event ?hg (N := 7) ?hd (cs := #[.string (⟨#[]⟩ : ByteArray), .int .i64 0, .int .i64 0]) (t := 75) ?hr ?_; (case hd => rfl); (case hg => rfl); (case hr => first | (go_simp; done) | (go_simp; rfl)); intro gb457 hg w15 hbox hb; have n0_ := ak_ (IsE72.below (isE72_a HI0) hb); have n1_ := ak_ (KeepBut.trans kb_ (KeepBut.of_below hb w.heap.size none) (.inl rfl)); have n2_ := ak_ (below_step hb_ hb); have n3_ := ak_ (hbox); have n4_ := ak_ ((by rw [hg]; exact (keep_size (w := w) (g := w.heap.size) (row := none) kb_) : w.heap.size ≤ gb457)); have n5_ := ak_ ((Nat.le_trans HW0.out (by rw [hg]; exact (keep_size (w := w) (g := w.heap.size) (row := none) kb_) : w.heap.size ≤ gb457) : w0.heap.size ≤ gb457)); have n6_ := ak_ ((by rw [hg]; exact Nat.ne_of_lt (IsE72.lt (show IsE72 w0 _ g o z s0_0 s0_1 s0_2 s0_3 from isE72_a HI0)) : g ≠ gb457)); have n7_ := ak_ ((by rw [hg]; exact Nat.ne_of_gt (IsE72.lt (show IsE72 w0 _ g o z s0_0 s0_1 s0_2 s0_3 from isE72_a HI0)) : gb457 ≠ g)); clear HI0 HK HB; have HI0 := n0_; have HK := n1_; have HB := n2_; have BK457 := n3_; have GW457 := n4_; have GE457 := n5_; have NB0_457 := n6_; have NB457_0 := n7_; clear n0_ n1_ n2_ n3_ n4_ n5_ n6_ n7_; clear hb hbox hg; have hnb16 := NB457_0.out; have hnc16 := NB0_457.out; have hcz17_0 : w15.cell? ⟨gb457, 0, none⟩ = some (.string (⟨#[]⟩ : ByteArray)) := (blk_cell BK457.out 0).trans rfl; have hcz17_1 : w15.cell? ⟨gb457, 1, none⟩ = some (.int .i64 0) := (blk_cell BK457.out 1).trans rfl; have hcz17_2 : w15.cell? ⟨gb457, 2, none⟩ = some (.int .i64 0) := (blk_cell BK457.out 2).trans rfl; have hfz17_0 := blk_frozen BK457.out 0; have hfz17_1 := blk_frozen BK457.out 1; have hfz17_2 := blk_frozen BK457.out 2; obtain ⟨HGz18, hgz18⟩ := HI0.out; have hcz18_0 := cellE72_0 HGz18; have hcz18_1 := cellE72_1 HGz18; have hcz18_2 := cellE72_2 HGz18; have hcz18_3 := cellE72_3 HGz18; clear HGz18 hgz18) | (go_at_call 115; (with_reducible refine (spec_l00Max.calls 0 (wrap64 (a2 - s0_1)) t458 _ A12.out).mono ?_); rintro e w' ⟨rfl, ⟨nd, rfl⟩⟩; (try first | exact ⟨rfl, _, World.drewN_drewN _ _ _⟩ | exact ⟨rfl, _, Eq.trans (World.drewN_drewN _ _ _) (congrArg (World.drewN _) (Nat.add_assoc _ _ _))⟩))); try go_wp2_with (first | (go_at_call 114; (with_reducible refine (spec_l21Last.calls k _ _ l1 s0_0 a2 t453 t454 t455 false _ ?side1 ?side2 A4.out).mono ?_); (case side1 => exact Kd.C_foot_now HR1.out kb_); (case side2 => exact HC1.out); rintro e w14 ⟨rfl, hb⟩; have n0_ := ak_ (IsE72.below (isE72_a HI0) hb); have n1_ := ak_ (KeepBut.trans kb_ (KeepBut.of_below hb w.heap.size none) (.inl rfl)); have n2_ := ak_ (below_step hb_ hb); clear HI0 HK HB; have HI0 := n0_; have HK := n1_; have HB := n2_; clear n0_ n1_ n2_; clear hb) | ((with_reducible refine gate_dst (N := 7) rfl ?_); refine box_event ?hg (N := 7) ?hd (cs := #[.string (⟨#[]⟩ : ByteArray), .int .i64 0, .int .i64 0]) (t := 75) ?hr ?_; (case hd => rfl); (case hg => rfl); (case hr => first | (go_simp; done) | (go_simp; rfl)); intro gb457 hg w15 hbox hb; have n0_ := ak_ (IsE72.below (isE72_a HI0) hb); have n1_ := ak_ (KeepBut.trans kb_ (KeepBut.of_below hb w.heap.size none) (.inl rfl)); have n2_ := ak_ (below_step hb_ hb); have n3_ := ak_ (hbox); have n4_ := ak_ ((by rw [hg]; exact (keep_size (w := w) (g := w.heap.size) (row := none) kb_) : w.heap.size ≤ gb457)); have n5_ := ak_ ((Nat.le_trans HW0.out (by rw [hg]; exact (keep_size (w := w) (g := w.heap.size) (row := none) kb_) : w.heap.size ≤ gb457) : w0.heap.size ≤ gb457)); have n6_ := ak_ ((by rw [hg]; exact Nat.ne_of_lt (IsE72.lt (show IsE72 w0 _ g o z s0_0 s0_1 s0_2 s0_3 from isE72_a HI0)) : g ≠ gb457)); have n7_ := ak_ ((by rw [hg]; exact Nat.ne_of_gt (IsE72.lt (show IsE72 w0 _ g o z s0_0 s0_1 s0_2 s0_3 from isE72_a HI0)) : gb457 ≠ g)); clear HI0 HK HB; have HI0 := n0_; have HK := n1_; have HB := n2_; have BK457 := n3_; have GW457 := n4_; have GE457 := n5_; have NB0_457 := n6_; have NB457_0 := n7_; clear n0_ n1_ n2_ n3_ n4_ n5_ n6_ n7_; clear hb hbox hg; have hnb16 := NB457_0.out; have hnc16 := NB0_457.out; have hcz17_0 : w15.cell? ⟨gb457, 0, none⟩ = some (.string (⟨#[]⟩ : ByteArray)) := (blk_cell BK457.out 0).trans rfl; have hcz17_1 : w15.cell? ⟨gb457, 1, none⟩ = some (.int .i64 0) := (blk_cell BK457.out 1).trans rfl; have hcz17_2 : w15.cell? ⟨gb457, 2, none⟩ = some (.int .i64 0) := (blk_cell BK457.out 2).trans rfl; have hfz17_0 := blk_frozen BK457.out 0; have hfz17_1 := blk_frozen BK457.out 1; have hfz17_2 := blk_frozen BK457.out 2; obtain ⟨HGz18, hgz18⟩ := HI0.out; have hcz18_0 := cellE72_0 HGz18; have hcz18_1 := cellE72_1 HGz18; have hcz18_2 := cellE72_2 HGz18; have hcz18_3 := cellE72_3 HGz18; clear HGz18 hgz18) | (go_at_call 115; (with_reducible refine (spec_l00Max.calls 0 (wrap64 (a2 - s0_1)) t458 _ A12.out).mono ?_); rintro e w' ⟨rfl, ⟨nd, rfl⟩⟩; (try first | exact ⟨rfl, _, World.drewN_drewN _ _ _⟩ | exact ⟨rfl, _, Eq.trans (World.drewN_drewN _ _ _) (congrArg (World.drewN _) (Nat.add_assoc _ _ _))⟩))))
  go_ret
  exact ⟨ew_, by repeat (first | (with_reducible first | exact HI0.out | apply IsE72.alloc | apply IsE72.drewN | apply IsE72.drew | refine IsE72.far ?_ NB0_457.out _) | exact HI0.out), (hg_ GE457), by repeat (first | (with_reducible first | exact HK.out | apply keep_drewN | apply keep_drew | apply keep_alloc | refine keep_far ?_ GW457.out _) | exact HK.out)⟩
theorem spec_l21Wear.calls (k : Nat) (g : Addr) (s0_0 : ByteArray) (s0_1 : Int) (s0_2 : Int) (s0_3 : Int) (A1 : Option Addr) (c1 : Nat) (l1 : List (S75)) (a2 : Int) (r : Int) (w : World) (hr1 : Kd.C k75 w A1 l1.length l1) (hc1 : l1.length ≤ c1) (he0 : w.cell? g = some (.string s0_0)) (he1 : w.cell? ⟨g.block, g.off + 1, none⟩ = some (.int .i64 s0_1)) (he2 : w.cell? ⟨g.block, g.off + 2, none⟩ = some (.int .i64 s0_2)) (he3 : w.cell? ⟨g.block, g.off + 3, none⟩ = some (.int .i64 s0_3)) (h : spec_l21Wear.f k s0_0 s0_1 s0_2 s0_3 l1 a2 = some r) :
  Calls Try.prog 82 #[.pointer (some g), .slice A1 l1.length c1, .int .i64 a2] w fun e w' => e = .returned (.int .i64 r) ∧ Below w.heap.size w w' := by
 refine (spec_l21Wear.calls0 k g.block g.off g.spot s0_0 s0_1 s0_2 s0_3 A1 c1 l1 a2 r w w ⟨⟨he0, he1, he2, he3⟩, trivial⟩ (Below.refl _ _) (Kd.C_foot_came k75_heap hr1 (Below.refl _ _) (Nat.le_refl _)) hc1 h).mono ?_
 rintro e w' ⟨rfl, _, hb, _⟩
 exact ⟨rfl, hb⟩


/-! ### spec_WearOn: function 34 -/
def spec_WearOn.f (k : Nat) (l0 : List (S72)) (l1 : List (S75)) (a2 : ByteArray) (a3 : Int) : Option (Int × Int) := (spec_l21Checks.f k l0 l1).bind fun t459 => (if t459 = true then ((spec_l21Day.f a3).bind fun t460 => (if t460 = true then ((spec_l21Named.f k l0 l1 a2).bind fun bt461 => (if bt461.2 = 0 then (if 0 ≤ bt461.1 then (if bt461.1 < (l0.length : Int) then ((spec_l21Wear.f k ((rd_T72 l0 bt461.1).f0) ((rd_T72 l0 bt461.1).f1) ((rd_T72 l0 bt461.1).f2) ((rd_T72 l0 bt461.1).f3) l1 a3).bind fun t464 => (some (t464, 0))) else (none)) else (none)) else (some (0, bt461.2)))) else (some (0, 2)))) else (some (0, 1)))
set_option maxHeartbeats 8000000 in
set_option maxRecDepth 100000 in
theorem spec_WearOn.calls (k : Nat) (A0 : Option Addr) (c0 : Nat) (l0 : List (S72)) (A1 : Option Addr) (c1 : Nat) (l1 : List (S75)) (a2 : ByteArray) (a3 : Int) (r1 : Int) (r2 : Int) (w : World) (hr0 : Kd.C k72 w A0 l0.length l0) (hc0 : l0.length ≤ c0) (hr1 : Kd.C k75 w A1 l1.length l1) (hc1 : l1.length ≤ c1) (h : spec_WearOn.f k l0 l1 a2 a3 = some (r1, r2)) :
  Calls Try.prog 34 #[.slice A0 l0.length c0, .slice A1 l1.length c1, .string a2, .int .i64 a3] w fun e w' => e = .returned (.tuple #[.int .i64 r1, .int .i64 r2]) ∧ Below w.heap.size w w' := by
 have HR0 := ak_ hr0
 have HC0 := ak_ hc0
 clear hr0 hc0
 have HR1 := ak_ hr1
 have HC1 := ak_ hc1
 clear hr1 hc1
 have HB := ak_ (Below.refl w.heap.size w)
 have H : ((spec_l21Checks.f k l0 l1).bind fun t459 => (if t459 = true then ((spec_l21Day.f a3).bind fun t460 => (if t460 = true then ((spec_l21Named.f k l0 l1 a2).bind fun bt461 => (if bt461.2 = 0 then (if 0 ≤ bt461.1 then (if bt461.1 < (l0.length : Int) then ((spec_l21Wear.f k ((rd_T72 l0 bt461.1).f0) ((rd_T72 l0 bt461.1).f1) ((rd_T72 l0 bt461.1).f2) ((rd_T72 l0 bt461.1).f3) l1 a3).bind fun t464 => (some (t464, 0))) else (none)) else (none)) else (some (0, bt461.2)))) else (some (0, 2)))) else (some (0, 1)))) = some (r1, r2) := h
 clear h
 replace H := ob_ H
 obtain ⟨t459, A50, H⟩ := H
 replace H : (if t459 = true then ((spec_l21Day.f a3).bind fun t460 => (if t460 = true then ((spec_l21Named.f k l0 l1 a2).bind fun bt461 => (if bt461.2 = 0 then (if 0 ≤ bt461.1 then (if bt461.1 < (l0.length : Int) then ((spec_l21Wear.f k ((rd_T72 l0 bt461.1).f0) ((rd_T72 l0 bt461.1).f1) ((rd_T72 l0 bt461.1).f2) ((rd_T72 l0 bt461.1).f3) l1 a3).bind fun t464 => (some (t464, 0))) else (none)) else (none)) else (some (0, bt461.2)))) else (some (0, 2)))) else (some (0, 1))) = some (r1, r2) := H
 have A5 := ak_ A50
 clear A50
 by_cases c6 : t459 = true
 ·subst c6
  have H1 : ((spec_l21Day.f a3).bind fun t460 => (if t460 = true then ((spec_l21Named.f k l0 l1 a2).bind fun bt461 => (if bt461.2 = 0 then (if 0 ≤ bt461.1 then (if bt461.1 < (l0.length : Int) then ((spec_l21Wear.f k ((rd_T72 l0 bt461.1).f0) ((rd_T72 l0 bt461.1).f1) ((rd_T72 l0 bt461.1).f2) ((rd_T72 l0 bt461.1).f3) l1 a3).bind fun t464 => (some (t464, 0))) else (none)) else (none)) else (some (0, bt461.2)))) else (some (0, 2)))) = some (r1, r2) := by rw [if_pos rfl] at H; exact H
  clear H
  have H := H1
  clear H1
  replace H := ob_ H
  obtain ⟨t460, A70, H⟩ := H
  replace H : (if t460 = true then ((spec_l21Named.f k l0 l1 a2).bind fun bt461 => (if bt461.2 = 0 then (if 0 ≤ bt461.1 then (if bt461.1 < (l0.length : Int) then ((spec_l21Wear.f k ((rd_T72 l0 bt461.1).f0) ((rd_T72 l0 bt461.1).f1) ((rd_T72 l0 bt461.1).f2) ((rd_T72 l0 bt461.1).f3) l1 a3).bind fun t464 => (some (t464, 0))) else (none)) else (none)) else (some (0, bt461.2)))) else (some (0, 2))) = some (r1, r2) := H
  have A7 := ak_ A70
  clear A70
  by_cases c8 : t460 = true
  ·subst c8
   have H1 : ((spec_l21Named.f k l0 l1 a2).bind fun bt461 => (if bt461.2 = 0 then (if 0 ≤ bt461.1 then (if bt461.1 < (l0.length : Int) then ((spec_l21Wear.f k ((rd_T72 l0 bt461.1).f0) ((rd_T72 l0 bt461.1).f1) ((rd_T72 l0 bt461.1).f2) ((rd_T72 l0 bt461.1).f3) l1 a3).bind fun t464 => (some (t464, 0))) else (none)) else (none)) else (some (0, bt461.2)))) = some (r1, r2) := by rw [if_pos rfl] at H; exact H
   clear H
   have H := H1
   clear H1
   replace H := ob_ H
   obtain ⟨⟨t461, t462⟩, A90, H⟩ := H
   replace H : (if t462 = 0 then (if 0 ≤ t461 then (if t461 < (l0.length : Int) then ((spec_l21Wear.f k ((rd_T72 l0 t461).f0) ((rd_T72 l0 t461).f1) ((rd_T72 l0 t461).f2) ((rd_T72 l0 t461).f3) l1 a3).bind fun t464 => (some (t464, 0))) else (none)) else (none)) else (some (0, t462))) = some (r1, r2) := H
   have A9 := ak_ A90
   clear A90
   by_cases c10 : t462 = 0
   ·rw [if_pos c10] at H
    have c10b0 : (t462 == 0) = true := beq_iff_eq.mpr c10
    have c10b1 : (t462 != 0) = false := bne_eq_false_iff_eq.mpr c10
    clear c10
    by_cases c11 : 0 ≤ t461
    ·rw [if_pos c11] at H
     have c11b0 : decide (0 ≤ t461) = true := dt_ c11
     clear c11
     by_cases c12 : t461 < (l0.length : Int)
     ·rw [if_pos c12] at H
      have c12b0 : decide (t461 < (l0.length : Int)) = true := dt_ c12
      clear c12
      replace H := ob_ H
      obtain ⟨t464, A130, H⟩ := H
      replace H : (some (t464, 0)) = some (r1, r2) := H
      have A13 := ak_ A130
      clear A130
      simp only [Option.some.injEq, Prod.mk.injEq] at H
      obtain ⟨rfl, rfl⟩ := H
      go_enter Try.func34, Try.ntmps34
      go_wp2_with (first | ((with_reducible refine gate_callee (f := 79) rfl ?_); refine goesL_ (some 14) rfl rfl Try.func79 (by kernel_rfl) rfl #[.slice A0 l0.length c0, .slice A1 l1.length c1] rfl ln_ ?_; (with_reducible refine (spec_l21Checks.calls k _ _ l0 _ _ l1 true _ ?side1 ?side2 ?side3 ?side4 A5.out).mono ?_); (case side1 => exact kc_ HR0.out); (case side2 => exact HC0.out); (case side3 => exact kc_ HR1.out); (case side4 => exact HC1.out); rintro e w14 ⟨rfl, hb⟩; refine ⟨_, rfl, ?_⟩; have n0_ := ak_ (below_step hb_ hb); clear HB; have HB := n0_; clear n0_; clear hb) | ((with_reducible refine gate_callee (f := 80) rfl ?_); refine goesL_ (some 17) rfl rfl Try.func80 (by kernel_rfl) rfl #[.int .i64 a3] rfl ln_ ?_; (with_reducible refine (spec_l21Day.calls a3 true _ A7.out).mono ?_); rintro e w' ⟨rfl, ⟨nd, rfl⟩⟩; refine ⟨_, rfl, ?_⟩) | ((with_reducible refine gate_callee (f := 81) rfl ?_); refine goesL_ (some 23) rfl rfl Try.func81 (by kernel_rfl) rfl #[.slice A0 l0.length c0, .slice A1 l1.length c1, .string a2] rfl ln_ ?_; (with_reducible refine (spec_l21Named.calls k _ _ l0 _ _ l1 a2 t461 t462 _ ?side1 ?side2 ?side3 ?side4 A9.out).mono ?_); (case side1 => exact kc_ (Kd.C_below HR0.out hb_)); (case side2 => exact HC0.out); (case side3 => exact kc_ (Kd.C_below HR1.out hb_)); (case side4 => exact HC1.out); rintro e w15 ⟨rfl, hb⟩; refine ⟨_, rfl, ?_⟩; have n0_ := ak_ (below_step hb_ hb); clear HB; have HB := n0_; clear n0_; (try clear hb); (try clear hb2); (try clear hk); (try clear hi); have p463 : 0 ≤ (t461 : Int) := od_; have q463 : t461 < (l0.length : Int) := od_; obtain ⟨ad463, e463, hx463_0, hx463_1, hx463_2, hx463_3⟩ := at_T72 HR0.out t461 p463 q463; cases e463; replace hx463_0 := cq_ HB hx463_0; replace hx463_1 := cq_ HB hx463_1; replace hx463_2 := cq_ HB hx463_2; replace hx463_3 := cq_ HB hx463_3; replace p463 := eq_true p463; replace q463 := eq_true q463) | ((with_reducible refine gate_callee (f := 82) rfl ?_); refine goesL_ (some 34) rfl rfl Try.func82 (by kernel_rfl) rfl #[.pointer (some (ad463.add ((t461).toNat * 4))), .slice A1 l1.length c1, .int .i64 a3] rfl ln_ ?_; (with_reducible refine (spec_l21Wear.calls k _ ((rd_T72 l0 t461).f0) ((rd_T72 l0 t461).f1) ((rd_T72 l0 t461).f2) ((rd_T72 l0 t461).f3) _ _ l1 a3 t464 _ ?side1 ?side2 ?side3 ?side4 ?side5 ?side6 A13.out).mono ?_); (case side1 => exact kc_ (Kd.C_below HR1.out HB.out)); (case side2 => exact HC1.out); (case side3 => first | exact hx463_0 | (simpa using hx463_0) | (go_simp; done)); (case side4 => first | exact hx463_1 | (simpa using hx463_1) | (go_simp; done)); (case side5 => first | exact hx463_2 | (simpa using hx463_2) | (go_simp; done)); (case side6 => first | exact hx463_3 | (simpa using hx463_3) | (go_simp; done)); rintro e w16 ⟨rfl, hb⟩; refine ⟨_, rfl, ?_⟩; have n0_ := ak_ (below_step hb_ hb); clear HB; have HB := n0_; clear n0_; clear hb))
      go_ret2
      exact ⟨ew_, hb_⟩
     ·rw [if_neg c12] at H
      exact absurd H (by simp)
    ·rw [if_neg c11] at H
     exact absurd H (by simp)
   ·rw [if_neg c10] at H
    have c10b0 : (t462 == 0) = false := beq_eq_false_iff_ne.mpr c10
    have c10b1 : (t462 != 0) = true := bne_iff_ne.mpr c10
    simp only [Option.some.injEq, Prod.mk.injEq] at H
    obtain ⟨rfl, rfl⟩ := H
    go_enter Try.func34, Try.ntmps34
    go_wp2_with (first | ((with_reducible refine gate_callee (f := 79) rfl ?_); refine goesL_ (some 14) rfl rfl Try.func79 (by kernel_rfl) rfl #[.slice A0 l0.length c0, .slice A1 l1.length c1] rfl ln_ ?_; (with_reducible refine (spec_l21Checks.calls k _ _ l0 _ _ l1 true _ ?side1 ?side2 ?side3 ?side4 A5.out).mono ?_); (case side1 => exact kc_ HR0.out); (case side2 => exact HC0.out); (case side3 => exact kc_ HR1.out); (case side4 => exact HC1.out); rintro e w17 ⟨rfl, hb⟩; refine ⟨_, rfl, ?_⟩; have n0_ := ak_ (below_step hb_ hb); clear HB; have HB := n0_; clear n0_; clear hb) | ((with_reducible refine gate_callee (f := 80) rfl ?_); refine goesL_ (some 17) rfl rfl Try.func80 (by kernel_rfl) rfl #[.int .i64 a3] rfl ln_ ?_; (with_reducible refine (spec_l21Day.calls a3 true _ A7.out).mono ?_); rintro e w' ⟨rfl, ⟨nd, rfl⟩⟩; refine ⟨_, rfl, ?_⟩) | ((with_reducible refine gate_callee (f := 81) rfl ?_); refine goesL_ (some 23) rfl rfl Try.func81 (by kernel_rfl) rfl #[.slice A0 l0.length c0, .slice A1 l1.length c1, .string a2] rfl ln_ ?_; (with_reducible refine (spec_l21Named.calls k _ _ l0 _ _ l1 a2 t461 t462 _ ?side1 ?side2 ?side3 ?side4 A9.out).mono ?_); (case side1 => exact kc_ (Kd.C_below HR0.out hb_)); (case side2 => exact HC0.out); (case side3 => exact kc_ (Kd.C_below HR1.out hb_)); (case side4 => exact HC1.out); rintro e w18 ⟨rfl, hb⟩; refine ⟨_, rfl, ?_⟩; have n0_ := ak_ (below_step hb_ hb); clear HB; have HB := n0_; clear n0_; clear hb))
    go_ret2
    exact ⟨ew_, hb_⟩
  ·replace c8 := Bool.eq_false_iff.mpr c8
   subst c8
   have H1 : (some (0, 2)) = some (r1, r2) := by rw [if_neg (show ¬ (false = true) by decide)] at H; exact H
   clear H
   have H := H1
   clear H1
   simp only [Option.some.injEq, Prod.mk.injEq] at H
   obtain ⟨rfl, rfl⟩ := H
   go_enter Try.func34, Try.ntmps34
   go_wp2_with (first | ((with_reducible refine gate_callee (f := 79) rfl ?_); refine goesL_ (some 14) rfl rfl Try.func79 (by kernel_rfl) rfl #[.slice A0 l0.length c0, .slice A1 l1.length c1] rfl ln_ ?_; (with_reducible refine (spec_l21Checks.calls k _ _ l0 _ _ l1 true _ ?side1 ?side2 ?side3 ?side4 A5.out).mono ?_); (case side1 => exact kc_ HR0.out); (case side2 => exact HC0.out); (case side3 => exact kc_ HR1.out); (case side4 => exact HC1.out); rintro e w19 ⟨rfl, hb⟩; refine ⟨_, rfl, ?_⟩; have n0_ := ak_ (below_step hb_ hb); clear HB; have HB := n0_; clear n0_; clear hb) | ((with_reducible refine gate_callee (f := 80) rfl ?_); refine goesL_ (some 17) rfl rfl Try.func80 (by kernel_rfl) rfl #[.int .i64 a3] rfl ln_ ?_; (with_reducible refine (spec_l21Day.calls a3 false _ A7.out).mono ?_); rintro e w' ⟨rfl, ⟨nd, rfl⟩⟩; refine ⟨_, rfl, ?_⟩))
   go_ret2
   exact ⟨ew_, hb_⟩
 ·replace c6 := Bool.eq_false_iff.mpr c6
  subst c6
  have H1 : (some (0, 1)) = some (r1, r2) := by rw [if_neg (show ¬ (false = true) by decide)] at H; exact H
  clear H
  have H := H1
  clear H1
  simp only [Option.some.injEq, Prod.mk.injEq] at H
  obtain ⟨rfl, rfl⟩ := H
  go_enter Try.func34, Try.ntmps34
  go_wp2_with (first | ((with_reducible refine gate_callee (f := 79) rfl ?_); refine goesL_ (some 14) rfl rfl Try.func79 (by kernel_rfl) rfl #[.slice A0 l0.length c0, .slice A1 l1.length c1] rfl ln_ ?_; (with_reducible refine (spec_l21Checks.calls k _ _ l0 _ _ l1 false _ ?side1 ?side2 ?side3 ?side4 A5.out).mono ?_); (case side1 => exact kc_ HR0.out); (case side2 => exact HC0.out); (case side3 => exact kc_ HR1.out); (case side4 => exact HC1.out); rintro e w20 ⟨rfl, hb⟩; refine ⟨_, rfl, ?_⟩; have n0_ := ak_ (below_step hb_ hb); clear HB; have HB := n0_; clear n0_; clear hb))
  go_ret2
  exact ⟨ew_, hb_⟩

/-! ### spec_l21Ask: function 83 -/
def spec_l21Ask.f (k : Nat) (l0 : List Int) : Option ((List (S72)) × (List (S75)) × ByteArray) := (spec_l00From.f l0).bind fun bt465 => ((spec_l21Both.f k bt465.1 bt465.2.1 bt465.2.2).bind fun bt469 => ((spec_l21Name.f k bt465.1 bt469.2.2.1 bt469.2.2.2 bt469.1).bind fun bt477 => (some (bt469.1, bt469.2.1, bt477.1))))
set_option maxHeartbeats 8000000 in
set_option maxRecDepth 100000 in
theorem spec_l21Ask.calls (k : Nat) (A0 : Option Addr) (c0 : Nat) (l0 : List Int) (r1 : List (S72)) (r2 : List (S75)) (r3 : ByteArray) (w : World) (hr0 : Kd.C (Kd.int .u8) w A0 l0.length l0) (hc0 : l0.length ≤ c0) (h : spec_l21Ask.f k l0 = some (r1, r2, r3)) :
  Calls Try.prog 83 #[.slice A0 l0.length c0] w fun e w' => ∃ v0_ v1_ : Value, e = .returned (.tuple #[v0_, v1_, .string r3]) ∧ Kd.R k72 72 w' w.heap.size (fun _ => True) v0_ r1 ∧ Kd.R k75 75 w' w.heap.size (fun _ => True) v1_ r2 ∧ Below w.heap.size w w' := by
 have HR0 := ak_ hr0
 have HC0 := ak_ hc0
 clear hr0 hc0
 have HB := ak_ (Below.refl w.heap.size w)
 have H : ((spec_l00From.f l0).bind fun bt465 => ((spec_l21Both.f k bt465.1 bt465.2.1 bt465.2.2).bind fun bt469 => ((spec_l21Name.f k bt465.1 bt469.2.2.1 bt469.2.2.2 bt469.1).bind fun bt477 => (some (bt469.1, bt469.2.1, bt477.1))))) = some (r1, r2, r3) := h
 clear h
 replace H := ob_ H
 obtain ⟨⟨t465, t466, t467⟩, A20, H⟩ := H
 replace H : ((spec_l21Both.f k t465 t466 t467).bind fun bt469 => ((spec_l21Name.f k t465 bt469.2.2.1 bt469.2.2.2 bt469.1).bind fun bt477 => (some (bt469.1, bt469.2.1, bt477.1)))) = some (r1, r2, r3) := H
 have A2 := ak_ A20
 clear A20
 replace H := ob_ H
 obtain ⟨⟨t469, t472, t475, t476⟩, A30, H⟩ := H
 replace H : ((spec_l21Name.f k t465 t475 t476 t469).bind fun bt477 => (some (t469, t472, bt477.1))) = some (r1, r2, r3) := H
 have A3 := ak_ A30
 clear A30
 replace H := ob_ H
 obtain ⟨⟨t477, t478, t479⟩, A40, H⟩ := H
 replace H : (some (t469, t472, t477)) = some (r1, r2, r3) := H
 have A4 := ak_ A40
 clear A40
 simp only [Option.some.injEq, Prod.mk.injEq] at H
 obtain ⟨rfl, rfl, rfl⟩ := H
 go_enter Try.func83, Try.ntmps83
 go_wp2_with (first | ((with_reducible refine gate_callee (f := 72) rfl ?_); refine goesL_ (some 9) rfl rfl Try.func72 (by kernel_rfl) rfl #[.slice A0 l0.length c0] rfl ln_ ?_; (with_reducible refine (spec_l00From.calls _ _ l0 t465 t466 t467 w _ ?side1 ?side2 ?side3 A2.out).mono ?_); (case side1 => exact hb_); (case side2 => exact HR0.out); (case side3 => exact HC0.out); rintro e w5 ⟨g468, rfl, hi, hb, hb2⟩; refine ⟨_, rfl, ?_⟩; have n0_ := ak_ (hb); have n1_ := ak_ (hi); clear HB; have HB := n0_; have HI468 := n1_; clear n0_ n1_; clear hb hb2 hi) | ((with_reducible refine gate_callee (f := 73) rfl ?_); refine goesL_ (some 12) rfl rfl Try.func73 (by kernel_rfl) rfl #[.pointer (some ⟨g468, 0, none⟩)] rfl ln_ ?_; (with_reducible refine (spec_l21Both.calls k g468 t465 t466 t467 t469 t472 t475 t476 w _ ?side1 ?side2 A3.out).mono ?_); (case side1 => exact isS135_a HI468); (case side2 => exact hz_ (IsS135.ge HI468.out)); rintro e w6 ⟨v470, v473, rfl, ho0, ho1, hi, hb, hk⟩; refine ⟨_, rfl, ?_⟩; have n0_ := ak_ (Kd.R_lower ho0 (below_size (hz_ (IsS135.ge HI468.out)))); have n1_ := ak_ (Kd.R_lower ho1 (below_size (hz_ (IsS135.ge HI468.out)))); have n2_ := ak_ (hb); have n3_ := ak_ (hi); clear HB HI468; have HO471 := n0_; have HO474 := n1_; have HB := n2_; have HI468 := n3_; clear n0_ n1_ n2_ n3_; (try clear hb); (try clear hb2); (try clear hk); (try clear hi); (try clear ho0); (try clear ho1); obtain ⟨Ao7, co7, eo7⟩ := Kd.R_slice HO471.out; subst eo7) | ((with_reducible refine gate_callee (f := 74) rfl ?_); refine goesL_ (some 19) rfl rfl Try.func74 (by kernel_rfl) rfl #[.pointer (some ⟨g468, 0, none⟩), .slice Ao7 t469.length co7] rfl ln_ ?_; (with_reducible refine (spec_l21Name.calls k g468 t465 t475 t476 _ _ t469 t477 t478 t479 w _ ?side1 ?side2 ?side3 ?side4 A4.out).mono ?_); (case side1 => exact isS135_a HI468); (case side2 => exact hz_ (IsS135.ge HI468.out)); (case side3 => exact Kd.C_foot_own (IsS135.apart (show IsS135 w _ g468 t465 t475 t476 from isS135_a HI468) (kr_ HO471) (by decide)) (fun _ h_ => h_.2)); (case side4 => exact (Kd.R_reads' HO471.out).2.1); rintro e w8 ⟨rfl, hi, hb, hk⟩; refine ⟨_, rfl, ?_⟩; have n0_ := ak_ (Kd.R_mono (Kd.R_keep (IsS135.apart (show IsS135 w _ g468 t465 t475 t476 from isS135_a HI468) (kr_ HO471) (by decide)) hk (fun _ h => h.2)) (fun _ h => h.1)); have n1_ := ak_ (Kd.R_mono (Kd.R_keep (IsS135.apart (show IsS135 w _ g468 t465 t475 t476 from isS135_a HI468) (kr_ HO474) (by decide)) hk (fun _ h => h.2)) (fun _ h => h.1)); have n2_ := ak_ (hb); have n3_ := ak_ (hi); clear HO471 HO474 HB HI468; have HO471 := n0_; have HO474 := n1_; have HB := n2_; have HI468 := n3_; clear n0_ n1_ n2_ n3_; clear hb hk hi))
 go_ret3
 exact ⟨_, _, ew_, by (with_reducible repeat (first | apply Kd.R_alloc | apply Kd.R_drewN | apply Kd.R_drew)); exact HO471.out, by (with_reducible repeat (first | apply Kd.R_alloc | apply Kd.R_drewN | apply Kd.R_drew)); exact HO474.out, hz_ (IsS135.ge HI468.out)⟩

/-! ### spec_DrawDayOfEnd: function 35 -/
def spec_DrawDayOfEnd.f (k : Nat) (l0 : List Int) : Option ((List (S72)) × (List (S75)) × ByteArray) := (spec_l21Ask.f k l0).bind fun bt480 => (some (bt480.1, bt480.2.1, bt480.2.2))
set_option maxHeartbeats 8000000 in
set_option maxRecDepth 100000 in
theorem spec_DrawDayOfEnd.calls (k : Nat) (A0 : Option Addr) (c0 : Nat) (l0 : List Int) (r1 : List (S72)) (r2 : List (S75)) (r3 : ByteArray) (w : World) (hr0 : Kd.C (Kd.int .u8) w A0 l0.length l0) (hc0 : l0.length ≤ c0) (h : spec_DrawDayOfEnd.f k l0 = some (r1, r2, r3)) :
  Calls Try.prog 35 #[.slice A0 l0.length c0] w fun e w' => ∃ v0_ v1_ : Value, e = .returned (.tuple #[v0_, v1_, .string r3]) ∧ Kd.R k72 72 w' w.heap.size (fun _ => True) v0_ r1 ∧ Kd.R k75 75 w' w.heap.size (fun _ => True) v1_ r2 ∧ Below w.heap.size w w' := by
 have HR0 := ak_ hr0
 have HC0 := ak_ hc0
 clear hr0 hc0
 have HB := ak_ (Below.refl w.heap.size w)
 have H : ((spec_l21Ask.f k l0).bind fun bt480 => (some (bt480.1, bt480.2.1, bt480.2.2))) = some (r1, r2, r3) := h
 clear h
 replace H := ob_ H
 obtain ⟨⟨t480, t481, t482⟩, A20, H⟩ := H
 replace H : (some (t480, t481, t482)) = some (r1, r2, r3) := H
 have A2 := ak_ A20
 clear A20
 simp only [Option.some.injEq, Prod.mk.injEq] at H
 obtain ⟨rfl, rfl, rfl⟩ := H
 go_enter Try.func35, Try.ntmps35
 go_wp2_with (first | ((with_reducible refine gate_callee (f := 83) rfl ?_); refine goesL_ (some 6) rfl rfl Try.func83 (by kernel_rfl) rfl #[.slice A0 l0.length c0] rfl ln_ ?_; (with_reducible refine (spec_l21Ask.calls k _ _ l0 t480 t481 t482 _ ?side1 ?side2 A2.out).mono ?_); (case side1 => exact kc_ HR0.out); (case side2 => exact HC0.out); rintro e w3 ⟨v483, v485, rfl, ho0, ho1, hb⟩; refine ⟨_, rfl, ?_⟩; have n0_ := ak_ (Kd.R_lower ho0 (below_size hb_)); have n1_ := ak_ (Kd.R_lower ho1 (below_size hb_)); have n2_ := ak_ (below_step hb_ hb); clear HB; have HO484 := n0_; have HO486 := n1_; have HB := n2_; clear n0_ n1_ n2_; clear hb ho0 ho1))
 go_ret3
 exact ⟨_, _, ew_, by (with_reducible repeat (first | apply Kd.R_alloc | apply Kd.R_drewN | apply Kd.R_drew)); exact HO484.out, by (with_reducible repeat (first | apply Kd.R_alloc | apply Kd.R_drewN | apply Kd.R_drew)); exact HO486.out, hb_⟩

/-! ### impl_dayOfEnd: function 84 -/
def impl_dayOfEnd.j0 : Nat → Int → Int → ByteArray → Int → Int → Int → Option (Int)
 | 0, _, _, _, _, _, _ => none
 | k + 1, x5, x6, x488000, x488001, x488002, x488003 => if x5 ≤ x488003 then (if x488002 = 0 then (some (-1)) else (if (wrap64 (x6 + (wrap64 ((wrap64 (Int.tdiv (wrap64 (x488003 - x5)) x488002)) + 1)))) > 20000 then (some (-1)) else (some (wrap64 (x6 + (wrap64 ((wrap64 (Int.tdiv (wrap64 (x488003 - x5)) x488002)) + 1))))))) else (if x6 > 20000 then (some (-1)) else (some x6))
def impl_dayOfEnd.f (k : Nat) (a0_0 : ByteArray) (a0_1 : Int) (a0_2 : Int) (a0_3 : Int) (l1 : List (S75)) : Option (Int) := (impl_checksOf.f k l1 a0_0).bind fun t488 => (if (t488.length : Int) > 0 then (if 0 ≤ (wrap64 ((t488.length : Int) - 1)) then (if (wrap64 ((t488.length : Int) - 1)) < (t488.length : Int) then (impl_dayOfEnd.j0 k ((rd_T75 t488 (wrap64 ((t488.length : Int) - 1))).f2) ((rd_T75 t488 (wrap64 ((t488.length : Int) - 1))).f1) a0_0 a0_1 a0_2 a0_3) else (none)) else (none)) else (impl_dayOfEnd.j0 k 0 a0_1 a0_0 a0_1 a0_2 a0_3))
set_option maxHeartbeats 8000000 in
set_option maxRecDepth 100000 in
theorem impl_dayOfEnd.calls (k : Nat) (a0_0 : ByteArray) (a0_1 : Int) (a0_2 : Int) (a0_3 : Int) (A1 : Option Addr) (c1 : Nat) (l1 : List (S75)) (r : Int) (w : World) (hr1 : Kd.C k75 w A1 l1.length l1) (hc1 : l1.length ≤ c1) (h : impl_dayOfEnd.f k a0_0 a0_1 a0_2 a0_3 l1 = some r) :
  Calls Try.prog 84 #[.agg #[.string a0_0, .int .i64 a0_1, .int .i64 a0_2, .int .i64 a0_3], .slice A1 l1.length c1] w fun e w' => e = .returned (.int .i64 r) ∧ Below w.heap.size w w' := by
 have hu72 := Try.underlying72
 have HR1 := ak_ hr1
 have HC1 := ak_ hc1
 clear hr1 hc1
 have HB := ak_ (Below.refl w.heap.size w)
 have H : ((impl_checksOf.f k l1 a0_0).bind fun t488 => (if (t488.length : Int) > 0 then (if 0 ≤ (wrap64 ((t488.length : Int) - 1)) then (if (wrap64 ((t488.length : Int) - 1)) < (t488.length : Int) then (impl_dayOfEnd.j0 k ((rd_T75 t488 (wrap64 ((t488.length : Int) - 1))).f2) ((rd_T75 t488 (wrap64 ((t488.length : Int) - 1))).f1) a0_0 a0_1 a0_2 a0_3) else (none)) else (none)) else (impl_dayOfEnd.j0 k 0 a0_1 a0_0 a0_1 a0_2 a0_3))) = some r := h
 clear h
 replace H := ob_ H
 obtain ⟨t488, A30, H⟩ := H
 replace H : (if (t488.length : Int) > 0 then (if 0 ≤ (wrap64 ((t488.length : Int) - 1)) then (if (wrap64 ((t488.length : Int) - 1)) < (t488.length : Int) then (impl_dayOfEnd.j0 k ((rd_T75 t488 (wrap64 ((t488.length : Int) - 1))).f2) ((rd_T75 t488 (wrap64 ((t488.length : Int) - 1))).f1) a0_0 a0_1 a0_2 a0_3) else (none)) else (none)) else (impl_dayOfEnd.j0 k 0 a0_1 a0_0 a0_1 a0_2 a0_3)) = some r := H
 have A3 := ak_ A30
 clear A30
 have HC4 := ak_ H
 clear H
 go_enter Try.func84, Try.ntmps84
 go_upto_if 16 with (first | ((with_reducible refine gate_dst (N := 2) rfl ?_); refine box_event ?hg (N := 2) ?hd (cs := #[.string a0_0, .int .i64 a0_1, .int .i64 a0_2, .int .i64 a0_3]) (t := 72) ?hr ?_; (case hd => rfl); (case hg => rfl); (case hr => first | (go_simp; done) | (go_simp; rfl)); intro gb487 hg w5 hbox hb; have n0_ := ak_ (below_step hb_ hb); have n1_ := ak_ (hbox); have n2_ := ak_ ((by rw [hg]; exact (below_size hb_) : w.heap.size ≤ gb487)); have n3_ := ak_ ((by rw [hg]; exact (below_size hb_) : w.heap.size ≤ gb487)); clear HB; have HB := n0_; have BK487 := n1_; have GW487 := n2_; have GE487 := n3_; clear n0_ n1_ n2_ n3_; clear hb hbox hg; have hcz6_0 : w5.cell? ⟨gb487, 0, none⟩ = some (.string a0_0) := (blk_cell BK487.out 0).trans rfl; have hcz6_1 : w5.cell? ⟨gb487, 1, none⟩ = some (.int .i64 a0_1) := (blk_cell BK487.out 1).trans rfl; have hcz6_2 : w5.cell? ⟨gb487, 2, none⟩ = some (.int .i64 a0_2) := (blk_cell BK487.out 2).trans rfl; have hcz6_3 : w5.cell? ⟨gb487, 3, none⟩ = some (.int .i64 a0_3) := (blk_cell BK487.out 3).trans rfl; have hfz6_0 := blk_frozen BK487.out 0; have hfz6_1 := blk_frozen BK487.out 1; have hfz6_2 := blk_frozen BK487.out 2; have hfz6_3 := blk_frozen BK487.out 3) | (go_at_call 110; (with_reducible refine (impl_checksOf.calls k _ _ l1 a0_0 t488 _ ?side1 ?side2 A3.out).mono ?_); (case side1 => exact kc_ (Kd.C_below HR1.out HB.out)); (case side2 => exact HC1.out); rintro e w7 ⟨v489, rfl, ho0, hb⟩; have n0_ := ak_ (Kd.R_lower ho0 (below_size (hg_ GE487))); have n1_ := ak_ (blk_below (g := gb487) (o := .cells #[.string a0_0, .int .i64 a0_1, .int .i64 a0_2, .int .i64 a0_3] 72 (0, 0)) (bk_ BK487) hb); have n2_ := ak_ (below_step (hg_ GE487) hb); clear BK487 HB; have HO490 := n0_; have BK487 := n1_; have HB := n2_; clear n0_ n1_ n2_; (try clear hb); (try clear hb2); (try clear hk); (try clear hi); (try clear ho0); obtain ⟨Ao8, co8, eo8⟩ := Kd.R_slice HO490.out; subst eo8))
 repeat (go_quiet (first | ((with_reducible refine gate_dst (N := 2) rfl ?_); refine box_event ?hg (N := 2) ?hd (cs := #[.string a0_0, .int .i64 a0_1, .int .i64 a0_2, .int .i64 a0_3]) (t := 72) ?hr ?_; (case hd => rfl); (case hg => rfl); (case hr => first | (go_simp; done) | (go_simp; rfl)); intro gb487 hg w5 hbox hb; have n0_ := ak_ (below_step hb_ hb); have n1_ := ak_ (hbox); have n2_ := ak_ ((by rw [hg]; exact (below_size hb_) : w.heap.size ≤ gb487)); have n3_ := ak_ ((by rw [hg]; exact (below_size hb_) : w.heap.size ≤ gb487)); clear HB; have HB := n0_; have BK487 := n1_; have GW487 := n2_; have GE487 := n3_; clear n0_ n1_ n2_ n3_; clear hb hbox hg; have hcz6_0 : w5.cell? ⟨gb487, 0, none⟩ = some (.string a0_0) := (blk_cell BK487.out 0).trans rfl; have hcz6_1 : w5.cell? ⟨gb487, 1, none⟩ = some (.int .i64 a0_1) := (blk_cell BK487.out 1).trans rfl; have hcz6_2 : w5.cell? ⟨gb487, 2, none⟩ = some (.int .i64 a0_2) := (blk_cell BK487.out 2).trans rfl; have hcz6_3 : w5.cell? ⟨gb487, 3, none⟩ = some (.int .i64 a0_3) := (blk_cell BK487.out 3).trans rfl; have hfz6_0 := blk_frozen BK487.out 0; have hfz6_1 := blk_frozen BK487.out 1; have hfz6_2 := blk_frozen BK487.out 2; have hfz6_3 := blk_frozen BK487.out 3) | (go_at_call 110; (with_reducible refine (impl_checksOf.calls k _ _ l1 a0_0 t488 _ ?side1 ?side2 A3.out).mono ?_); (case side1 => exact kc_ (Kd.C_below HR1.out HB.out)); (case side2 => exact HC1.out); rintro e w7 ⟨v489, rfl, ho0, hb⟩; have n0_ := ak_ (Kd.R_lower ho0 (below_size (hg_ GE487))); have n1_ := ak_ (blk_below (g := gb487) (o := .cells #[.string a0_0, .int .i64 a0_1, .int .i64 a0_2, .int .i64 a0_3] 72 (0, 0)) (bk_ BK487) hb); have n2_ := ak_ (below_step (hg_ GE487) hb); clear BK487 HB; have HO490 := n0_; have BK487 := n1_; have HB := n2_; clear n0_ n1_ n2_; (try clear hb); (try clear hb2); (try clear hk); (try clear hi); (try clear ho0); obtain ⟨Ao8, co8, eo8⟩ := Kd.R_slice HO490.out; subst eo8)); go_upto_if 16 with (first | ((with_reducible refine gate_dst (N := 2) rfl ?_); refine box_event ?hg (N := 2) ?hd (cs := #[.string a0_0, .int .i64 a0_1, .int .i64 a0_2, .int .i64 a0_3]) (t := 72) ?hr ?_; (case hd => rfl); (case hg => rfl); (case hr => first | (go_simp; done) | (go_simp; rfl)); intro gb487 hg w5 hbox hb; have n0_ := ak_ (below_step hb_ hb); have n1_ := ak_ (hbox); have n2_ := ak_ ((by rw [hg]; exact (below_size hb_) : w.heap.size ≤ gb487)); have n3_ := ak_ ((by rw [hg]; exact (below_size hb_) : w.heap.size ≤ gb487)); clear HB; have HB := n0_; have BK487 := n1_; have GW487 := n2_; have GE487 := n3_; clear n0_ n1_ n2_ n3_; clear hb hbox hg; have hcz6_0 : w5.cell? ⟨gb487, 0, none⟩ = some (.string a0_0) := (blk_cell BK487.out 0).trans rfl; have hcz6_1 : w5.cell? ⟨gb487, 1, none⟩ = some (.int .i64 a0_1) := (blk_cell BK487.out 1).trans rfl; have hcz6_2 : w5.cell? ⟨gb487, 2, none⟩ = some (.int .i64 a0_2) := (blk_cell BK487.out 2).trans rfl; have hcz6_3 : w5.cell? ⟨gb487, 3, none⟩ = some (.int .i64 a0_3) := (blk_cell BK487.out 3).trans rfl; have hfz6_0 := blk_frozen BK487.out 0; have hfz6_1 := blk_frozen BK487.out 1; have hfz6_2 := blk_frozen BK487.out 2; have hfz6_3 := blk_frozen BK487.out 3) | (go_at_call 110; (with_reducible refine (impl_checksOf.calls k _ _ l1 a0_0 t488 _ ?side1 ?side2 A3.out).mono ?_); (case side1 => exact kc_ (Kd.C_below HR1.out HB.out)); (case side2 => exact HC1.out); rintro e w7 ⟨v489, rfl, ho0, hb⟩; have n0_ := ak_ (Kd.R_lower ho0 (below_size (hg_ GE487))); have n1_ := ak_ (blk_below (g := gb487) (o := .cells #[.string a0_0, .int .i64 a0_1, .int .i64 a0_2, .int .i64 a0_3] 72 (0, 0)) (bk_ BK487) hb); have n2_ := ak_ (below_step (hg_ GE487) hb); clear BK487 HB; have HO490 := n0_; have BK487 := n1_; have HB := n2_; clear n0_ n1_ n2_; (try clear hb); (try clear hb2); (try clear hk); (try clear hi); (try clear ho0); obtain ⟨Ao8, co8, eo8⟩ := Kd.R_slice HO490.out; subst eo8)))
 (try simp only [Act.put, List.setIfInBounds_toArray, List.set_cons_zero, List.set_cons_succ])
 go_cut [5, 6] (fun v5 v6 wc => ∃ (kq : Nat) (x5_3 : Int) (x6_3 : Int), v5 = .int .i64 x5_3 ∧ v6 = .int .i64 x6_3 ∧ Aside0 (impl_dayOfEnd.j0 kq x5_3 x6_3 a0_0 a0_1 a0_2 a0_3 = some r) ∧ Aside0 (kq ≤ k) ∧ Aside0 (wc.heap[gb487]? = some (.cells #[.string a0_0, .int .i64 a0_1, .int .i64 a0_2, .int .i64 a0_3] 72 (0, 0))) ∧ Aside0 (Below w.heap.size w wc))
 case first =>
  have H := HC4.out
  clear HC4
  by_cases c9 : (t488.length : Int) > 0
  ·rw [if_pos c9] at H
   have c9b0 : decide (0 < (t488.length : Int)) = true := dt_ c9
   have c9b1 : decide (0 < t488.length) = true := dt_ (by omega)
   have c9b2 : 0 < t488.length := by omega
   clear c9
   (first | rw [c9b0] | (simp only [i64_w, i32_w]; rw [c9b0]) | skip)
   obtain ⟨ji10, hji10⟩ : ∃ j_ : Int, (wrap64 ((t488.length : Int) - 1)) = j_ := ⟨_, rfl⟩
   replace H : (if 0 ≤ (ji10) then (if (ji10) < (t488.length : Int) then (impl_dayOfEnd.j0 k ((rd_T75 t488 (ji10)).f2) ((rd_T75 t488 (ji10)).f1) a0_0 a0_1 a0_2 a0_3) else (none)) else (none)) = some r := by first | (rw [hji10] at H; exact H) | (simp only [hji10] at H ⊢; exact H)
   have hji10w : (IntKind.i64.wrap ((t488.length : Int) - 1)) = ji10 := (i64_w _).trans hji10
   by_cases c11 : 0 ≤ (ji10)
   ·rw [if_pos c11] at H
    have c11b0 : decide (0 ≤ (ji10)) = true := dt_ c11
    clear c11
    by_cases c12 : (ji10) < (t488.length : Int)
    ·rw [if_pos c12] at H
     have c12b0 : decide ((ji10) < (t488.length : Int)) = true := dt_ c12
     clear c12
     have H' := ak_ H
     clear H
     have p491 : 0 ≤ ((ji10) : Int) := od_
     have q491 : (ji10) < (t488.length : Int) := od_
     obtain ⟨ad491, e491, hx491_0, hx491_1, hx491_2⟩ := at_T75 (Kd.R_reads' HO490.out).2.2 (ji10) p491 q491
     cases e491
     replace p491 := eq_true p491
     replace q491 := eq_true q491
     have p492 : 0 ≤ ((ji10) : Int) := od_
     have q492 : (ji10) < (t488.length : Int) := od_
     obtain ⟨ad492, e492, hx492_0, hx492_1, hx492_2⟩ := at_T75 (Kd.R_reads' HO490.out).2.2 (ji10) p492 q492
     obtain rfl : ad491 = ad492 := (by injection e492)
     replace p492 := eq_true p492
     replace q492 := eq_true q492
     go_wp2
     repeat (go_quiet (fail); try go_wp2)
     go_meet
     case rel => exact ⟨_, ((rd_T75 t488 (ji10)).f2), ((rd_T75 t488 (ji10)).f1), (by first | rfl | (simp; done) | (simp only [← hji10] <;> (first | rfl | simp)) | (simp [*]; done)), (by first | rfl | (simp; done) | (simp only [← hji10] <;> (first | rfl | simp)) | (simp [*]; done)), H', ⟨by first | omega | exact Nat.le_refl _⟩, ⟨by (with_reducible repeat (first | refine blk_drewN ?_ _ | refine blk_drew ?_ | refine blk_alloc ?_ _)); exact BK487.out⟩, ⟨(hg_ GE487)⟩⟩
    ·rw [if_neg c12] at H
     exact absurd H (by simp)
   ·rw [if_neg c11] at H
    exact absurd H (by simp)
  ·rw [if_neg c9] at H
   have c9b0 : decide (0 < (t488.length : Int)) = false := decide_eq_false c9
   have c9b1 : decide (0 < t488.length) = false := decide_eq_false (by omega)
   have c9b2 : ¬ (0 < t488.length) := by omega
   clear c9
   (first | rw [c9b0] | (simp only [i64_w, i32_w]; rw [c9b0]) | skip)
   have H' := ak_ H
   clear H
   go_wp2
   repeat (go_quiet (fail); try go_wp2)
   go_meet
   case rel => exact ⟨_, (0), (a0_1), fr_, fr_, H', ⟨by first | omega | exact Nat.le_refl _⟩, ⟨by (with_reducible repeat (first | refine blk_drewN ?_ _ | refine blk_drew ?_ | refine blk_alloc ?_ _)); exact BK487.out⟩, ⟨(hg_ GE487)⟩⟩
 case rest =>
  clear HC4
  try clear c1
  try clear p2
  try clear p4
  try clear q4
  try clear hx4
  try clear p6
  try clear c8
  try clear c9
  try clear c9b0
  try clear c9b1
  try clear c9b2
  try clear c11
  try clear c11b0
  try clear c12
  try clear c12b0
  try clear hcz6_0
  try clear hcz6_1
  try clear hcz6_2
  try clear hcz6_3
  try clear hfz6_0
  try clear hfz6_1
  try clear hfz6_2
  try clear hfz6_3
  try clear hx491_0
  try clear hx491_1
  try clear hx491_2
  try clear hx492_0
  try clear hx492_1
  try clear hx492_2
  try clear p491
  try clear p492
  try clear q491
  try clear q492
  obtain ⟨kq, x5_3, x6_3, rfl, rfl, HA, HJ3, BK487, HB⟩ := hcut
  cases kq with
  | zero => exact absurd HA.out (by simp [impl_dayOfEnd.j0])
  | succ kj3 =>
   have H := HA.out
   clear HA
   simp only [impl_dayOfEnd.j0] at H
   by_cases c13 : x5_3 ≤ a0_3
   ·rw [if_pos c13] at H
    have c13b0 : decide (x5_3 ≤ a0_3) = true := dt_ c13
    clear c13
    by_cases c14 : a0_2 = 0
    ·rw [if_pos c14] at H
     have c14b0 : (a0_2 == 0) = true := beq_iff_eq.mpr c14
     have c14b1 : (a0_2 != 0) = false := bne_eq_false_iff_eq.mpr c14
     clear c14
     obtain rfl := Option.some.inj H
     have hcz15_0 : wc.cell? ⟨gb487, 0, none⟩ = some (.string a0_0) := (blk_cell BK487.out 0).trans rfl
     have hcz15_1 : wc.cell? ⟨gb487, 1, none⟩ = some (.int .i64 a0_1) := (blk_cell BK487.out 1).trans rfl
     have hcz15_2 : wc.cell? ⟨gb487, 2, none⟩ = some (.int .i64 a0_2) := (blk_cell BK487.out 2).trans rfl
     have hcz15_3 : wc.cell? ⟨gb487, 3, none⟩ = some (.int .i64 a0_3) := (blk_cell BK487.out 3).trans rfl
     have hfz15_0 := blk_frozen BK487.out 0
     have hfz15_1 := blk_frozen BK487.out 1
     have hfz15_2 := blk_frozen BK487.out 2
     have hfz15_3 := blk_frozen BK487.out 3
     go_wp2
     repeat (go_quiet (fail); try go_wp2)
     go_ret
     exact ⟨ew_, (hg_ GE487)⟩
    ·rw [if_neg c14] at H
     have c14b0 : (a0_2 == 0) = false := beq_eq_false_iff_ne.mpr c14
     have c14b1 : (a0_2 != 0) = true := bne_iff_ne.mpr c14
     by_cases c16 : (wrap64 (x6_3 + (wrap64 ((wrap64 (Int.tdiv (wrap64 (a0_3 - x5_3)) a0_2)) + 1)))) > 20000
     ·rw [if_pos c16] at H
      have c16b0 : decide (20000 < (wrap64 (x6_3 + (wrap64 ((wrap64 (Int.tdiv (wrap64 (a0_3 - x5_3)) a0_2)) + 1))))) = true := dt_ c16
      clear c16
      obtain rfl := Option.some.inj H
      have hcz17_0 : wc.cell? ⟨gb487, 0, none⟩ = some (.string a0_0) := (blk_cell BK487.out 0).trans rfl
      have hcz17_1 : wc.cell? ⟨gb487, 1, none⟩ = some (.int .i64 a0_1) := (blk_cell BK487.out 1).trans rfl
      have hcz17_2 : wc.cell? ⟨gb487, 2, none⟩ = some (.int .i64 a0_2) := (blk_cell BK487.out 2).trans rfl
      have hcz17_3 : wc.cell? ⟨gb487, 3, none⟩ = some (.int .i64 a0_3) := (blk_cell BK487.out 3).trans rfl
      have hfz17_0 := blk_frozen BK487.out 0
      have hfz17_1 := blk_frozen BK487.out 1
      have hfz17_2 := blk_frozen BK487.out 2
      have hfz17_3 := blk_frozen BK487.out 3
      go_wp2
      repeat (go_quiet (fail); try go_wp2)
      go_ret
      exact ⟨ew_, (hg_ GE487)⟩
     ·rw [if_neg c16] at H
      have c16b0 : decide (20000 < (wrap64 (x6_3 + (wrap64 ((wrap64 (Int.tdiv (wrap64 (a0_3 - x5_3)) a0_2)) + 1))))) = false := decide_eq_false c16
      clear c16
      obtain rfl := Option.some.inj H
      have hcz18_0 : wc.cell? ⟨gb487, 0, none⟩ = some (.string a0_0) := (blk_cell BK487.out 0).trans rfl
      have hcz18_1 : wc.cell? ⟨gb487, 1, none⟩ = some (.int .i64 a0_1) := (blk_cell BK487.out 1).trans rfl
      have hcz18_2 : wc.cell? ⟨gb487, 2, none⟩ = some (.int .i64 a0_2) := (blk_cell BK487.out 2).trans rfl
      have hcz18_3 : wc.cell? ⟨gb487, 3, none⟩ = some (.int .i64 a0_3) := (blk_cell BK487.out 3).trans rfl
      have hfz18_0 := blk_frozen BK487.out 0
      have hfz18_1 := blk_frozen BK487.out 1
      have hfz18_2 := blk_frozen BK487.out 2
      have hfz18_3 := blk_frozen BK487.out 3
      go_wp2
      repeat (go_quiet (fail); try go_wp2)
      go_ret
      exact ⟨ew_, (hg_ GE487)⟩
   ·rw [if_neg c13] at H
    have c13b0 : decide (x5_3 ≤ a0_3) = false := decide_eq_false c13
    clear c13
    by_cases c19 : x6_3 > 20000
    ·rw [if_pos c19] at H
     have c19b0 : decide (20000 < x6_3) = true := dt_ c19
     clear c19
     obtain rfl := Option.some.inj H
     have hcz20_0 : wc.cell? ⟨gb487, 0, none⟩ = some (.string a0_0) := (blk_cell BK487.out 0).trans rfl
     have hcz20_1 : wc.cell? ⟨gb487, 1, none⟩ = some (.int .i64 a0_1) := (blk_cell BK487.out 1).trans rfl
     have hcz20_2 : wc.cell? ⟨gb487, 2, none⟩ = some (.int .i64 a0_2) := (blk_cell BK487.out 2).trans rfl
     have hcz20_3 : wc.cell? ⟨gb487, 3, none⟩ = some (.int .i64 a0_3) := (blk_cell BK487.out 3).trans rfl
     have hfz20_0 := blk_frozen BK487.out 0
     have hfz20_1 := blk_frozen BK487.out 1
     have hfz20_2 := blk_frozen BK487.out 2
     have hfz20_3 := blk_frozen BK487.out 3
     go_wp2
     repeat (go_quiet (fail); try go_wp2)
     go_ret
     exact ⟨ew_, (hg_ GE487)⟩
    ·rw [if_neg c19] at H
     have c19b0 : decide (20000 < x6_3) = false := decide_eq_false c19
     clear c19
     obtain rfl := Option.some.inj H
     have hcz21_0 : wc.cell? ⟨gb487, 0, none⟩ = some (.string a0_0) := (blk_cell BK487.out 0).trans rfl
     have hcz21_1 : wc.cell? ⟨gb487, 1, none⟩ = some (.int .i64 a0_1) := (blk_cell BK487.out 1).trans rfl
     have hcz21_2 : wc.cell? ⟨gb487, 2, none⟩ = some (.int .i64 a0_2) := (blk_cell BK487.out 2).trans rfl
     have hcz21_3 : wc.cell? ⟨gb487, 3, none⟩ = some (.int .i64 a0_3) := (blk_cell BK487.out 3).trans rfl
     have hfz21_0 := blk_frozen BK487.out 0
     have hfz21_1 := blk_frozen BK487.out 1
     have hfz21_2 := blk_frozen BK487.out 2
     have hfz21_3 := blk_frozen BK487.out 3
     go_wp2
     repeat (go_quiet (fail); try go_wp2)
     go_ret
     exact ⟨ew_, (hg_ GE487)⟩

/-! ### impl_DayOfEnd: function 36 -/
def impl_DayOfEnd.f (k : Nat) (l0 : List (S72)) (l1 : List (S75)) (a2 : ByteArray) : Option (Int × Int) := (impl_gearCode.f k l0 l1 0).bind fun t493 => (if t493 = 0 then ((impl_gearNamed.f l0 a2).bind fun t494 => (if t494 < 0 then (some (0, 3)) else (if 0 ≤ t494 then (if t494 < (l0.length : Int) then ((impl_dayOfEnd.f k ((rd_T72 l0 t494).f0) ((rd_T72 l0 t494).f1) ((rd_T72 l0 t494).f2) ((rd_T72 l0 t494).f3) l1).bind fun t496 => (if t496 < 0 then (some (0, 5)) else (some (t496, 0)))) else (none)) else (none)))) else (some (0, t493)))
set_option maxHeartbeats 8000000 in
set_option maxRecDepth 100000 in
theorem impl_DayOfEnd.calls (k : Nat) (A0 : Option Addr) (c0 : Nat) (l0 : List (S72)) (A1 : Option Addr) (c1 : Nat) (l1 : List (S75)) (a2 : ByteArray) (r1 : Int) (r2 : Int) (w : World) (hr0 : Kd.C k72 w A0 l0.length l0) (hc0 : l0.length ≤ c0) (hr1 : Kd.C k75 w A1 l1.length l1) (hc1 : l1.length ≤ c1) (h : impl_DayOfEnd.f k l0 l1 a2 = some (r1, r2)) :
  Calls Try.prog 36 #[.slice A0 l0.length c0, .slice A1 l1.length c1, .string a2] w fun e w' => e = .returned (.tuple #[.int .i64 r1, .int .i64 r2]) ∧ Below w.heap.size w w' := by
 have hu72 := Try.underlying72
 have HR0 := ak_ hr0
 have HC0 := ak_ hc0
 clear hr0 hc0
 have HR1 := ak_ hr1
 have HC1 := ak_ hc1
 clear hr1 hc1
 have HB := ak_ (Below.refl w.heap.size w)
 have H : ((impl_gearCode.f k l0 l1 0).bind fun t493 => (if t493 = 0 then ((impl_gearNamed.f l0 a2).bind fun t494 => (if t494 < 0 then (some (0, 3)) else (if 0 ≤ t494 then (if t494 < (l0.length : Int) then ((impl_dayOfEnd.f k ((rd_T72 l0 t494).f0) ((rd_T72 l0 t494).f1) ((rd_T72 l0 t494).f2) ((rd_T72 l0 t494).f3) l1).bind fun t496 => (if t496 < 0 then (some (0, 5)) else (some (t496, 0)))) else (none)) else (none)))) else (some (0, t493)))) = some (r1, r2) := h
 clear h
 replace H := ob_ H
 obtain ⟨t493, A40, H⟩ := H
 replace H : (if t493 = 0 then ((impl_gearNamed.f l0 a2).bind fun t494 => (if t494 < 0 then (some (0, 3)) else (if 0 ≤ t494 then (if t494 < (l0.length : Int) then ((impl_dayOfEnd.f k ((rd_T72 l0 t494).f0) ((rd_T72 l0 t494).f1) ((rd_T72 l0 t494).f2) ((rd_T72 l0 t494).f3) l1).bind fun t496 => (if t496 < 0 then (some (0, 5)) else (some (t496, 0)))) else (none)) else (none)))) else (some (0, t493))) = some (r1, r2) := H
 have A4 := ak_ A40
 clear A40
 by_cases c5 : t493 = 0
 ·rw [if_pos c5] at H
  have c5b0 : (t493 == 0) = true := beq_iff_eq.mpr c5
  have c5b1 : (t493 != 0) = false := bne_eq_false_iff_eq.mpr c5
  clear c5
  replace H := ob_ H
  obtain ⟨t494, A60, H⟩ := H
  replace H : (if t494 < 0 then (some (0, 3)) else (if 0 ≤ t494 then (if t494 < (l0.length : Int) then ((impl_dayOfEnd.f k ((rd_T72 l0 t494).f0) ((rd_T72 l0 t494).f1) ((rd_T72 l0 t494).f2) ((rd_T72 l0 t494).f3) l1).bind fun t496 => (if t496 < 0 then (some (0, 5)) else (some (t496, 0)))) else (none)) else (none))) = some (r1, r2) := H
  have A6 := ak_ A60
  clear A60
  by_cases c7 : t494 < 0
  ·rw [if_pos c7] at H
   have c7b0 : decide (t494 < 0) = true := dt_ c7
   clear c7
   simp only [Option.some.injEq, Prod.mk.injEq] at H
   obtain ⟨rfl, rfl⟩ := H
   go_enter Try.func36, Try.ntmps36
   go_wp2_with (first | ((with_reducible refine gate_callee (f := 76) rfl ?_); refine goesL_ (some 13) rfl rfl Try.func76 (by kernel_rfl) rfl #[.slice A0 l0.length c0, .slice A1 l1.length c1, .int .i64 0] rfl ln_ ?_; (with_reducible refine (impl_gearCode.calls k _ _ l0 _ _ l1 0 t493 _ ?side1 ?side2 ?side3 ?side4 A4.out).mono ?_); (case side1 => exact kc_ HR0.out); (case side2 => exact HC0.out); (case side3 => exact kc_ HR1.out); (case side4 => exact HC1.out); rintro e w8 ⟨rfl, hb⟩; refine ⟨_, rfl, ?_⟩; have n0_ := ak_ (below_step hb_ hb); clear HB; have HB := n0_; clear n0_; clear hb) | ((with_reducible refine gate_callee (f := 77) rfl ?_); refine goesL_ (some 19) rfl rfl Try.func77 (by kernel_rfl) rfl #[.slice A0 l0.length c0, .string a2] rfl ln_ ?_; (with_reducible refine (impl_gearNamed.calls _ _ l0 a2 t494 _ ?side1 ?side2 A6.out).mono ?_); (case side1 => exact kc_ (Kd.C_below HR0.out HB.out)); (case side2 => exact HC0.out); rintro e w9 ⟨rfl, hb⟩; refine ⟨_, rfl, ?_⟩; have n0_ := ak_ (below_step hb_ hb); clear HB; have HB := n0_; clear n0_; clear hb))
   go_ret2
   exact ⟨ew_, hb_⟩
  ·rw [if_neg c7] at H
   have c7b0 : decide (t494 < 0) = false := decide_eq_false c7
   clear c7
   by_cases c10 : 0 ≤ t494
   ·rw [if_pos c10] at H
    have c10b0 : decide (0 ≤ t494) = true := dt_ c10
    clear c10
    by_cases c11 : t494 < (l0.length : Int)
    ·rw [if_pos c11] at H
     have c11b0 : decide (t494 < (l0.length : Int)) = true := dt_ c11
     clear c11
     replace H := ob_ H
     obtain ⟨t496, A120, H⟩ := H
     replace H : (if t496 < 0 then (some (0, 5)) else (some (t496, 0))) = some (r1, r2) := H
     have A12 := ak_ A120
     clear A120
     by_cases c13 : t496 < 0
     ·rw [if_pos c13] at H
      have c13b0 : decide (t496 < 0) = true := dt_ c13
      clear c13
      simp only [Option.some.injEq, Prod.mk.injEq] at H
      obtain ⟨rfl, rfl⟩ := H
      go_enter Try.func36, Try.ntmps36
      go_wp2_with (first | ((with_reducible refine gate_callee (f := 76) rfl ?_); refine goesL_ (some 13) rfl rfl Try.func76 (by kernel_rfl) rfl #[.slice A0 l0.length c0, .slice A1 l1.length c1, .int .i64 0] rfl ln_ ?_; (with_reducible refine (impl_gearCode.calls k _ _ l0 _ _ l1 0 t493 _ ?side1 ?side2 ?side3 ?side4 A4.out).mono ?_); (case side1 => exact kc_ HR0.out); (case side2 => exact HC0.out); (case side3 => exact kc_ HR1.out); (case side4 => exact HC1.out); rintro e w14 ⟨rfl, hb⟩; refine ⟨_, rfl, ?_⟩; have n0_ := ak_ (below_step hb_ hb); clear HB; have HB := n0_; clear n0_; clear hb) | ((with_reducible refine gate_callee (f := 77) rfl ?_); refine goesL_ (some 19) rfl rfl Try.func77 (by kernel_rfl) rfl #[.slice A0 l0.length c0, .string a2] rfl ln_ ?_; (with_reducible refine (impl_gearNamed.calls _ _ l0 a2 t494 _ ?side1 ?side2 A6.out).mono ?_); (case side1 => exact kc_ (Kd.C_below HR0.out HB.out)); (case side2 => exact HC0.out); rintro e w15 ⟨rfl, hb⟩; refine ⟨_, rfl, ?_⟩; have n0_ := ak_ (below_step hb_ hb); clear HB; have HB := n0_; clear n0_; (try clear hb); (try clear hb2); (try clear hk); (try clear hi); have p495 : 0 ≤ (t494 : Int) := od_; have q495 : t494 < (l0.length : Int) := od_; obtain ⟨ad495, e495, hx495_0, hx495_1, hx495_2, hx495_3⟩ := at_T72 HR0.out t494 p495 q495; cases e495; replace hx495_0 := cq_ HB hx495_0; replace hx495_1 := cq_ HB hx495_1; replace hx495_2 := cq_ HB hx495_2; replace hx495_3 := cq_ HB hx495_3; replace p495 := eq_true p495; replace q495 := eq_true q495) | ((with_reducible refine gate_callee (f := 84) rfl ?_); refine goesL_ (some 27) rfl rfl Try.func84 (by kernel_rfl) rfl #[.agg #[.string ((rd_T72 l0 t494).f0), .int .i64 ((rd_T72 l0 t494).f1), .int .i64 ((rd_T72 l0 t494).f2), .int .i64 ((rd_T72 l0 t494).f3)], .slice A1 l1.length c1] rfl ln_ ?_; (with_reducible refine (impl_dayOfEnd.calls k ((rd_T72 l0 t494).f0) ((rd_T72 l0 t494).f1) ((rd_T72 l0 t494).f2) ((rd_T72 l0 t494).f3) _ _ l1 t496 _ ?side1 ?side2 A12.out).mono ?_); (case side1 => exact kc_ (Kd.C_below HR1.out HB.out)); (case side2 => exact HC1.out); rintro e w16 ⟨rfl, hb⟩; refine ⟨_, rfl, ?_⟩; have n0_ := ak_ (below_step hb_ hb); clear HB; have HB := n0_; clear n0_; clear hb))
      go_ret2
      exact ⟨ew_, hb_⟩
     ·rw [if_neg c13] at H
      have c13b0 : decide (t496 < 0) = false := decide_eq_false c13
      clear c13
      simp only [Option.some.injEq, Prod.mk.injEq] at H
      obtain ⟨rfl, rfl⟩ := H
      go_enter Try.func36, Try.ntmps36
      go_wp2_with (first | ((with_reducible refine gate_callee (f := 76) rfl ?_); refine goesL_ (some 13) rfl rfl Try.func76 (by kernel_rfl) rfl #[.slice A0 l0.length c0, .slice A1 l1.length c1, .int .i64 0] rfl ln_ ?_; (with_reducible refine (impl_gearCode.calls k _ _ l0 _ _ l1 0 t493 _ ?side1 ?side2 ?side3 ?side4 A4.out).mono ?_); (case side1 => exact kc_ HR0.out); (case side2 => exact HC0.out); (case side3 => exact kc_ HR1.out); (case side4 => exact HC1.out); rintro e w17 ⟨rfl, hb⟩; refine ⟨_, rfl, ?_⟩; have n0_ := ak_ (below_step hb_ hb); clear HB; have HB := n0_; clear n0_; clear hb) | ((with_reducible refine gate_callee (f := 77) rfl ?_); refine goesL_ (some 19) rfl rfl Try.func77 (by kernel_rfl) rfl #[.slice A0 l0.length c0, .string a2] rfl ln_ ?_; (with_reducible refine (impl_gearNamed.calls _ _ l0 a2 t494 _ ?side1 ?side2 A6.out).mono ?_); (case side1 => exact kc_ (Kd.C_below HR0.out HB.out)); (case side2 => exact HC0.out); rintro e w18 ⟨rfl, hb⟩; refine ⟨_, rfl, ?_⟩; have n0_ := ak_ (below_step hb_ hb); clear HB; have HB := n0_; clear n0_; (try clear hb); (try clear hb2); (try clear hk); (try clear hi); have p495 : 0 ≤ (t494 : Int) := od_; have q495 : t494 < (l0.length : Int) := od_; obtain ⟨ad495, e495, hx495_0, hx495_1, hx495_2, hx495_3⟩ := at_T72 HR0.out t494 p495 q495; cases e495; replace hx495_0 := cq_ HB hx495_0; replace hx495_1 := cq_ HB hx495_1; replace hx495_2 := cq_ HB hx495_2; replace hx495_3 := cq_ HB hx495_3; replace p495 := eq_true p495; replace q495 := eq_true q495) | ((with_reducible refine gate_callee (f := 84) rfl ?_); refine goesL_ (some 27) rfl rfl Try.func84 (by kernel_rfl) rfl #[.agg #[.string ((rd_T72 l0 t494).f0), .int .i64 ((rd_T72 l0 t494).f1), .int .i64 ((rd_T72 l0 t494).f2), .int .i64 ((rd_T72 l0 t494).f3)], .slice A1 l1.length c1] rfl ln_ ?_; (with_reducible refine (impl_dayOfEnd.calls k ((rd_T72 l0 t494).f0) ((rd_T72 l0 t494).f1) ((rd_T72 l0 t494).f2) ((rd_T72 l0 t494).f3) _ _ l1 t496 _ ?side1 ?side2 A12.out).mono ?_); (case side1 => exact kc_ (Kd.C_below HR1.out HB.out)); (case side2 => exact HC1.out); rintro e w19 ⟨rfl, hb⟩; refine ⟨_, rfl, ?_⟩; have n0_ := ak_ (below_step hb_ hb); clear HB; have HB := n0_; clear n0_; clear hb))
      go_ret2
      exact ⟨ew_, hb_⟩
    ·rw [if_neg c11] at H
     exact absurd H (by simp)
   ·rw [if_neg c10] at H
    exact absurd H (by simp)
 ·rw [if_neg c5] at H
  have c5b0 : (t493 == 0) = false := beq_eq_false_iff_ne.mpr c5
  have c5b1 : (t493 != 0) = true := bne_iff_ne.mpr c5
  simp only [Option.some.injEq, Prod.mk.injEq] at H
  obtain ⟨rfl, rfl⟩ := H
  go_enter Try.func36, Try.ntmps36
  go_wp2_with (first | ((with_reducible refine gate_callee (f := 76) rfl ?_); refine goesL_ (some 13) rfl rfl Try.func76 (by kernel_rfl) rfl #[.slice A0 l0.length c0, .slice A1 l1.length c1, .int .i64 0] rfl ln_ ?_; (with_reducible refine (impl_gearCode.calls k _ _ l0 _ _ l1 0 t493 _ ?side1 ?side2 ?side3 ?side4 A4.out).mono ?_); (case side1 => exact kc_ HR0.out); (case side2 => exact HC0.out); (case side3 => exact kc_ HR1.out); (case side4 => exact HC1.out); rintro e w20 ⟨rfl, hb⟩; refine ⟨_, rfl, ?_⟩; have n0_ := ak_ (below_step hb_ hb); clear HB; have HB := n0_; clear n0_; clear hb))
  go_ret2
  exact ⟨ew_, hb_⟩

/-! ### spec_l21End: function 85 -/
def spec_l21End.j0 : Nat → Int → Int → ByteArray → Int → Int → Int → Option (Int)
 | 0, _, _, _, _, _, _ => none
 | k + 1, x5, x6, x1000, x1001, x1002, x1003 => if x6 > x1003 then (some x5) else (if x1002 = 0 then (some (-1)) else (if (wrap64 ((wrap64 (x5 + (wrap64 (Int.tdiv (wrap64 (x1003 - x6)) x1002)))) + 1)) > 20000 then (some (-1)) else (some (wrap64 ((wrap64 (x5 + (wrap64 (Int.tdiv (wrap64 (x1003 - x6)) x1002)))) + 1)))))
def spec_l21End.f (k : Nat) (s0_0 : ByteArray) (s0_1 : Int) (s0_2 : Int) (s0_3 : Int) (l1 : List (S75)) : Option (Int) := (spec_l21Last.f k l1 s0_0 20000).bind fun bt497 => (if bt497.2.2.2 = true then (spec_l21End.j0 k bt497.2.1 bt497.2.2.1 s0_0 s0_1 s0_2 s0_3) else (spec_l21End.j0 k s0_1 0 s0_0 s0_1 s0_2 s0_3))
set_option maxHeartbeats 8000000 in
set_option maxRecDepth 100000 in
theorem spec_l21End.calls0 (k : Nat) (g o : Nat) (z : Option Nat) (s0_0 : ByteArray) (s0_1 : Int) (s0_2 : Int) (s0_3 : Int) (A1 : Option Addr) (c1 : Nat) (l1 : List (S75)) (r : Int) (w0 w : World) (hI : IsE72 w0 w g o z s0_0 s0_1 s0_2 s0_3) (hB : Below w0.heap.size w0 w) (hr1 : ∀ W_, KeepBut w W_ w.heap.size none → Kd.C k75 W_ A1 l1.length l1) (hc1 : l1.length ≤ c1) (h : spec_l21End.f k s0_0 s0_1 s0_2 s0_3 l1 = some r) :
  Calls Try.prog 85 #[.pointer (some ⟨g, o, z⟩), .slice A1 l1.length c1] w fun e w' => e = .returned (.int .i64 r) ∧ IsE72 w0 w' g o z s0_0 s0_1 s0_2 s0_3 ∧ Below w0.heap.size w0 w' ∧ KeepBut w w' w.heap.size none := by
 have hu75 := Try.underlying75
 have HR1 := ak_ hr1
 have HC1 := ak_ hc1
 clear hr1 hc1
 have HI0 := ak_ hI
 have HK := ak_ (KeepBut.refl w w.heap.size none)
 have HL := ak_ hB.size
 clear hI
 have HW0 := ak_ hB.size
 have HB := ak_ hB
 clear hB
 have H : ((spec_l21Last.f k l1 s0_0 20000).bind fun bt497 => (if bt497.2.2.2 = true then (spec_l21End.j0 k bt497.2.1 bt497.2.2.1 s0_0 s0_1 s0_2 s0_3) else (spec_l21End.j0 k s0_1 0 s0_0 s0_1 s0_2 s0_3))) = some r := h
 clear h
 replace H := ob_ H
 obtain ⟨⟨t497, t498, t499, t500⟩, A30, H⟩ := H
 replace H : (if t500 = true then (spec_l21End.j0 k t498 t499 s0_0 s0_1 s0_2 s0_3) else (spec_l21End.j0 k s0_1 0 s0_0 s0_1 s0_2 s0_3)) = some r := H
 have A3 := ak_ A30
 clear A30
 have HC4 := ak_ H
 clear H
 obtain ⟨HGz5, hgz5⟩ := HI0.out
 have hcz5_0 := cellE72_0 HGz5
 have hcz5_1 := cellE72_1 HGz5
 have hcz5_2 := cellE72_2 HGz5
 have hcz5_3 := cellE72_3 HGz5
 clear HGz5 hgz5
 go_enter Try.func85, Try.ntmps85
 go_upto_if 23 with (first | (go_at_call 114; (with_reducible refine (spec_l21Last.calls k _ _ l1 s0_0 20000 t497 t498 t499 t500 _ ?side1 ?side2 A3.out).mono ?_); (case side1 => exact Kd.C_foot_now HR1.out kb_); (case side2 => exact HC1.out); rintro e w6 ⟨rfl, hb⟩; have n0_ := ak_ (IsE72.below (isE72_a HI0) hb); have n1_ := ak_ (KeepBut.trans kb_ (KeepBut.of_below hb w.heap.size none) (.inl rfl)); have n2_ := ak_ (below_step hb_ hb); clear HI0 HK HB; have HI0 := n0_; have HK := n1_; have HB := n2_; clear n0_ n1_ n2_; clear hb) | ((with_reducible refine gate_dst (N := 7) rfl ?_); refine box_event ?hg (N := 7) ?hd (cs := #[.string (⟨#[]⟩ : ByteArray), .int .i64 0, .int .i64 0]) (t := 75) ?hr ?_; (case hd => rfl); (case hg => rfl); (case hr => first | (go_simp; done) | (go_simp; rfl)); intro gb501 hg w7 hbox hb; have n0_ := ak_ (IsE72.below (isE72_a HI0) hb); have n1_ := ak_ (KeepBut.trans kb_ (KeepBut.of_below hb w.heap.size none) (.inl rfl)); have n2_ := ak_ (below_step hb_ hb); have n3_ := ak_ (hbox); have n4_ := ak_ ((by rw [hg]; exact (keep_size (w := w) (g := w.heap.size) (row := none) kb_) : w.heap.size ≤ gb501)); have n5_ := ak_ ((Nat.le_trans HW0.out (by rw [hg]; exact (keep_size (w := w) (g := w.heap.size) (row := none) kb_) : w.heap.size ≤ gb501) : w0.heap.size ≤ gb501)); have n6_ := ak_ ((by rw [hg]; exact Nat.ne_of_lt (IsE72.lt (show IsE72 w0 _ g o z s0_0 s0_1 s0_2 s0_3 from isE72_a HI0)) : g ≠ gb501)); have n7_ := ak_ ((by rw [hg]; exact Nat.ne_of_gt (IsE72.lt (show IsE72 w0 _ g o z s0_0 s0_1 s0_2 s0_3 from isE72_a HI0)) : gb501 ≠ g)); clear HI0 HK HB; have HI0 := n0_; have HK := n1_; have HB := n2_; have BK501 := n3_; have GW501 := n4_; have GE501 := n5_; have NB0_501 := n6_; have NB501_0 := n7_; clear n0_ n1_ n2_ n3_ n4_ n5_ n6_ n7_; clear hb hbox hg; have hnb8 := NB501_0.out; have hnc8 := NB0_501.out; have hcz9_0 : w7.cell? ⟨gb501, 0, none⟩ = some (.string (⟨#[]⟩ : ByteArray)) := (blk_cell BK501.out 0).trans rfl; have hcz9_1 : w7.cell? ⟨gb501, 1, none⟩ = some (.int .i64 0) := (blk_cell BK501.out 1).trans rfl; have hcz9_2 : w7.cell? ⟨gb501, 2, none⟩ = some (.int .i64 0) := (blk_cell BK501.out 2).trans rfl; have hfz9_0 := blk_frozen BK501.out 0; have hfz9_1 := blk_frozen BK501.out 1; have hfz9_2 := blk_frozen BK501.out 2))
 repeat (go_quiet (first | (go_at_call 114; (with_reducible refine (spec_l21Last.calls k _ _ l1 s0_0 20000 t497 t498 t499 t500 _ ?side1 ?side2 A3.out).mono ?_); (case side1 => exact Kd.C_foot_now HR1.out kb_); (case side2 => exact HC1.out); rintro e w6 ⟨rfl, hb⟩; have n0_ := ak_ (IsE72.below (isE72_a HI0) hb); have n1_ := ak_ (KeepBut.trans kb_ (KeepBut.of_below hb w.heap.size none) (.inl rfl)); have n2_ := ak_ (below_step hb_ hb); clear HI0 HK HB; have HI0 := n0_; have HK := n1_; have HB := n2_; clear n0_ n1_ n2_; clear hb) | ((with_reducible refine gate_dst (N := 7) rfl ?_); refine box_event ?hg (N := 7) ?hd (cs := #[.string (⟨#[]⟩ : ByteArray), .int .i64 0, .int .i64 0]) (t := 75) ?hr ?_; (case hd => rfl); (case hg => rfl); (case hr => first | (go_simp; done) | (go_simp; rfl)); intro gb501 hg w7 hbox hb; have n0_ := ak_ (IsE72.below (isE72_a HI0) hb); have n1_ := ak_ (KeepBut.trans kb_ (KeepBut.of_below hb w.heap.size none) (.inl rfl)); have n2_ := ak_ (below_step hb_ hb); have n3_ := ak_ (hbox); have n4_ := ak_ ((by rw [hg]; exact (keep_size (w := w) (g := w.heap.size) (row := none) kb_) : w.heap.size ≤ gb501)); have n5_ := ak_ ((Nat.le_trans HW0.out (by rw [hg]; exact (keep_size (w := w) (g := w.heap.size) (row := none) kb_) : w.heap.size ≤ gb501) : w0.heap.size ≤ gb501)); have n6_ := ak_ ((by rw [hg]; exact Nat.ne_of_lt (IsE72.lt (show IsE72 w0 _ g o z s0_0 s0_1 s0_2 s0_3 from isE72_a HI0)) : g ≠ gb501)); have n7_ := ak_ ((by rw [hg]; exact Nat.ne_of_gt (IsE72.lt (show IsE72 w0 _ g o z s0_0 s0_1 s0_2 s0_3 from isE72_a HI0)) : gb501 ≠ g)); clear HI0 HK HB; have HI0 := n0_; have HK := n1_; have HB := n2_; have BK501 := n3_; have GW501 := n4_; have GE501 := n5_; have NB0_501 := n6_; have NB501_0 := n7_; clear n0_ n1_ n2_ n3_ n4_ n5_ n6_ n7_; clear hb hbox hg; have hnb8 := NB501_0.out; have hnc8 := NB0_501.out; have hcz9_0 : w7.cell? ⟨gb501, 0, none⟩ = some (.string (⟨#[]⟩ : ByteArray)) := (blk_cell BK501.out 0).trans rfl; have hcz9_1 : w7.cell? ⟨gb501, 1, none⟩ = some (.int .i64 0) := (blk_cell BK501.out 1).trans rfl; have hcz9_2 : w7.cell? ⟨gb501, 2, none⟩ = some (.int .i64 0) := (blk_cell BK501.out 2).trans rfl; have hfz9_0 := blk_frozen BK501.out 0; have hfz9_1 := blk_frozen BK501.out 1; have hfz9_2 := blk_frozen BK501.out 2)); go_upto_if 23 with (first | (go_at_call 114; (with_reducible refine (spec_l21Last.calls k _ _ l1 s0_0 20000 t497 t498 t499 t500 _ ?side1 ?side2 A3.out).mono ?_); (case side1 => exact Kd.C_foot_now HR1.out kb_); (case side2 => exact HC1.out); rintro e w6 ⟨rfl, hb⟩; have n0_ := ak_ (IsE72.below (isE72_a HI0) hb); have n1_ := ak_ (KeepBut.trans kb_ (KeepBut.of_below hb w.heap.size none) (.inl rfl)); have n2_ := ak_ (below_step hb_ hb); clear HI0 HK HB; have HI0 := n0_; have HK := n1_; have HB := n2_; clear n0_ n1_ n2_; clear hb) | ((with_reducible refine gate_dst (N := 7) rfl ?_); refine box_event ?hg (N := 7) ?hd (cs := #[.string (⟨#[]⟩ : ByteArray), .int .i64 0, .int .i64 0]) (t := 75) ?hr ?_; (case hd => rfl); (case hg => rfl); (case hr => first | (go_simp; done) | (go_simp; rfl)); intro gb501 hg w7 hbox hb; have n0_ := ak_ (IsE72.below (isE72_a HI0) hb); have n1_ := ak_ (KeepBut.trans kb_ (KeepBut.of_below hb w.heap.size none) (.inl rfl)); have n2_ := ak_ (below_step hb_ hb); have n3_ := ak_ (hbox); have n4_ := ak_ ((by rw [hg]; exact (keep_size (w := w) (g := w.heap.size) (row := none) kb_) : w.heap.size ≤ gb501)); have n5_ := ak_ ((Nat.le_trans HW0.out (by rw [hg]; exact (keep_size (w := w) (g := w.heap.size) (row := none) kb_) : w.heap.size ≤ gb501) : w0.heap.size ≤ gb501)); have n6_ := ak_ ((by rw [hg]; exact Nat.ne_of_lt (IsE72.lt (show IsE72 w0 _ g o z s0_0 s0_1 s0_2 s0_3 from isE72_a HI0)) : g ≠ gb501)); have n7_ := ak_ ((by rw [hg]; exact Nat.ne_of_gt (IsE72.lt (show IsE72 w0 _ g o z s0_0 s0_1 s0_2 s0_3 from isE72_a HI0)) : gb501 ≠ g)); clear HI0 HK HB; have HI0 := n0_; have HK := n1_; have HB := n2_; have BK501 := n3_; have GW501 := n4_; have GE501 := n5_; have NB0_501 := n6_; have NB501_0 := n7_; clear n0_ n1_ n2_ n3_ n4_ n5_ n6_ n7_; clear hb hbox hg; have hnb8 := NB501_0.out; have hnc8 := NB0_501.out; have hcz9_0 : w7.cell? ⟨gb501, 0, none⟩ = some (.string (⟨#[]⟩ : ByteArray)) := (blk_cell BK501.out 0).trans rfl; have hcz9_1 : w7.cell? ⟨gb501, 1, none⟩ = some (.int .i64 0) := (blk_cell BK501.out 1).trans rfl; have hcz9_2 : w7.cell? ⟨gb501, 2, none⟩ = some (.int .i64 0) := (blk_cell BK501.out 2).trans rfl; have hfz9_0 := blk_frozen BK501.out 0; have hfz9_1 := blk_frozen BK501.out 1; have hfz9_2 := blk_frozen BK501.out 2)))
 (try simp only [Act.put, List.setIfInBounds_toArray, List.set_cons_zero, List.set_cons_succ])
 go_cut [5, 6] (fun v5 v6 wc => ∃ (kq : Nat) (x5_3 : Int) (x6_3 : Int), v5 = .int .i64 x5_3 ∧ v6 = .int .i64 x6_3 ∧ Aside0 (spec_l21End.j0 kq x5_3 x6_3 s0_0 s0_1 s0_2 s0_3 = some r) ∧ Aside0 (kq ≤ k) ∧ Aside0 (wc.heap[gb501]? = some (.cells #[.string t497, .int .i64 t498, .int .i64 t499] 75 (0, 0))) ∧ Aside0 (IsE72 w0 wc g o z s0_0 s0_1 s0_2 s0_3) ∧ Aside0 (KeepBut w wc w.heap.size none) ∧ Aside0 (Below w0.heap.size w0 wc))
 case first =>
  have H := HC4.out
  clear HC4
  by_cases c10 : t500 = true
  ·subst c10
   have H1 : (spec_l21End.j0 k t498 t499 s0_0 s0_1 s0_2 s0_3) = some r := by rw [if_pos rfl] at H; exact H
   clear H
   have H := H1
   clear H1
   have H' := ak_ H
   clear H
   have hnb11 := NB501_0.out
   have hnc11 := NB0_501.out
   have hcz12_0 : w7.cell? ⟨gb501, 0, none⟩ = some (.string (⟨#[]⟩ : ByteArray)) := (blk_cell BK501.out 0).trans rfl
   have hcz12_1 : w7.cell? ⟨gb501, 1, none⟩ = some (.int .i64 0) := (blk_cell BK501.out 1).trans rfl
   have hcz12_2 : w7.cell? ⟨gb501, 2, none⟩ = some (.int .i64 0) := (blk_cell BK501.out 2).trans rfl
   have hfz12_0 := blk_frozen BK501.out 0
   have hfz12_1 := blk_frozen BK501.out 1
   have hfz12_2 := blk_frozen BK501.out 2
   go_wp2
   repeat (go_quiet (fail); try go_wp2)
   go_meet
   case rel => exact ⟨_, (t498), (t499), fr_, fr_, H', ⟨by first | omega | exact Nat.le_refl _⟩, ⟨by (with_reducible repeat (first | refine blk_drewN ?_ _ | refine blk_drew ?_ | refine blk_alloc ?_ _)); refine blk_put (cs := #[.string t497, .int .i64 t498, .int .i64 0]) ?_ 2 _ rfl; (with_reducible repeat (first | refine blk_drewN ?_ _ | refine blk_drew ?_ | refine blk_alloc ?_ _)); refine blk_put (cs := #[.string t497, .int .i64 0, .int .i64 0]) ?_ 1 _ rfl; (with_reducible repeat (first | refine blk_drewN ?_ _ | refine blk_drew ?_ | refine blk_alloc ?_ _)); refine blk_put (cs := #[.string (⟨#[]⟩ : ByteArray), .int .i64 0, .int .i64 0]) ?_ 0 _ rfl; (with_reducible repeat (first | refine blk_drewN ?_ _ | refine blk_drew ?_ | refine blk_alloc ?_ _)); exact BK501.out⟩, ⟨by repeat (first | (with_reducible first | exact HI0.out | apply IsE72.alloc | apply IsE72.drewN | apply IsE72.drew | refine IsE72.far ?_ NB0_501.out _) | exact HI0.out)⟩, ⟨by repeat (first | (with_reducible first | exact HK.out | apply keep_drewN | apply keep_drew | apply keep_alloc | refine keep_far ?_ GW501.out _) | exact HK.out)⟩, ⟨(hg_ GE501)⟩⟩
  ·replace c10 := Bool.eq_false_iff.mpr c10
   subst c10
   have H1 : (spec_l21End.j0 k s0_1 0 s0_0 s0_1 s0_2 s0_3) = some r := by rw [if_neg (show ¬ (false = true) by decide)] at H; exact H
   clear H
   have H := H1
   clear H1
   have H' := ak_ H
   clear H
   go_wp2
   repeat (go_quiet (fail); try go_wp2)
   go_meet
   case rel => exact ⟨_, (s0_1), (0), fr_, fr_, H', ⟨by first | omega | exact Nat.le_refl _⟩, ⟨by (with_reducible repeat (first | refine blk_drewN ?_ _ | refine blk_drew ?_ | refine blk_alloc ?_ _)); refine blk_put (cs := #[.string t497, .int .i64 t498, .int .i64 0]) ?_ 2 _ rfl; (with_reducible repeat (first | refine blk_drewN ?_ _ | refine blk_drew ?_ | refine blk_alloc ?_ _)); refine blk_put (cs := #[.string t497, .int .i64 0, .int .i64 0]) ?_ 1 _ rfl; (with_reducible repeat (first | refine blk_drewN ?_ _ | refine blk_drew ?_ | refine blk_alloc ?_ _)); refine blk_put (cs := #[.string (⟨#[]⟩ : ByteArray), .int .i64 0, .int .i64 0]) ?_ 0 _ rfl; (with_reducible repeat (first | refine blk_drewN ?_ _ | refine blk_drew ?_ | refine blk_alloc ?_ _)); exact BK501.out⟩, ⟨by repeat (first | (with_reducible first | exact HI0.out | apply IsE72.alloc | apply IsE72.drewN | apply IsE72.drew | refine IsE72.far ?_ NB0_501.out _) | exact HI0.out)⟩, ⟨by repeat (first | (with_reducible first | exact HK.out | apply keep_drewN | apply keep_drew | apply keep_alloc | refine keep_far ?_ GW501.out _) | exact HK.out)⟩, ⟨(hg_ GE501)⟩⟩
 case rest =>
  clear HC4
  try clear c1
  try clear p2
  try clear c8
  try clear c10
  try clear c11
  try clear hcz12_0
  try clear hcz12_1
  try clear hcz12_2
  try clear hcz5_0
  try clear hcz5_1
  try clear hcz5_2
  try clear hcz5_3
  try clear hcz9_0
  try clear hcz9_1
  try clear hcz9_2
  try clear hfz12_0
  try clear hfz12_1
  try clear hfz12_2
  try clear hfz5_0
  try clear hfz5_1
  try clear hfz5_2
  try clear hfz5_3
  try clear hfz9_0
  try clear hfz9_1
  try clear hfz9_2
  obtain ⟨kq, x5_3, x6_3, rfl, rfl, HA, HJ3, BK501, HI0, HK, HB⟩ := hcut
  cases kq with
  | zero => exact absurd HA.out (by simp [spec_l21End.j0])
  | succ kj3 =>
   have H := HA.out
   clear HA
   simp only [spec_l21End.j0] at H
   by_cases c13 : x6_3 > s0_3
   ·rw [if_pos c13] at H
    have c13b0 : decide (s0_3 < x6_3) = true := dt_ c13
    clear c13
    obtain rfl := Option.some.inj H
    obtain ⟨HGz14, hgz14⟩ := HI0.out
    have hcz14_0 := cellE72_0 HGz14
    have hcz14_1 := cellE72_1 HGz14
    have hcz14_2 := cellE72_2 HGz14
    have hcz14_3 := cellE72_3 HGz14
    clear HGz14 hgz14
    go_wp2
    repeat (go_quiet (fail); try go_wp2)
    go_ret
    exact ⟨ew_, by repeat (first | (with_reducible first | exact HI0.out | apply IsE72.alloc | apply IsE72.drewN | apply IsE72.drew | refine IsE72.far ?_ NB0_501.out _) | exact HI0.out), (hg_ GE501), by repeat (first | (with_reducible first | exact HK.out | apply keep_drewN | apply keep_drew | apply keep_alloc | refine keep_far ?_ GW501.out _) | exact HK.out)⟩
   ·rw [if_neg c13] at H
    have c13b0 : decide (s0_3 < x6_3) = false := decide_eq_false c13
    clear c13
    by_cases c15 : s0_2 = 0
    ·rw [if_pos c15] at H
     have c15b0 : (s0_2 == 0) = true := beq_iff_eq.mpr c15
     have c15b1 : (s0_2 != 0) = false := bne_eq_false_iff_eq.mpr c15
     clear c15
     obtain rfl := Option.some.inj H
     obtain ⟨HGz16, hgz16⟩ := HI0.out
     have hcz16_0 := cellE72_0 HGz16
     have hcz16_1 := cellE72_1 HGz16
     have hcz16_2 := cellE72_2 HGz16
     have hcz16_3 := cellE72_3 HGz16
     clear HGz16 hgz16
     go_wp2
     repeat (go_quiet (fail); try go_wp2)
     go_ret
     exact ⟨ew_, by repeat (first | (with_reducible first | exact HI0.out | apply IsE72.alloc | apply IsE72.drewN | apply IsE72.drew | refine IsE72.far ?_ NB0_501.out _) | exact HI0.out), (hg_ GE501), by repeat (first | (with_reducible first | exact HK.out | apply keep_drewN | apply keep_drew | apply keep_alloc | refine keep_far ?_ GW501.out _) | exact HK.out)⟩
    ·rw [if_neg c15] at H
     have c15b0 : (s0_2 == 0) = false := beq_eq_false_iff_ne.mpr c15
     have c15b1 : (s0_2 != 0) = true := bne_iff_ne.mpr c15
     by_cases c17 : (wrap64 ((wrap64 (x5_3 + (wrap64 (Int.tdiv (wrap64 (s0_3 - x6_3)) s0_2)))) + 1)) > 20000
     ·rw [if_pos c17] at H
      have c17b0 : decide (20000 < (wrap64 ((wrap64 (x5_3 + (wrap64 (Int.tdiv (wrap64 (s0_3 - x6_3)) s0_2)))) + 1))) = true := dt_ c17
      clear c17
      obtain rfl := Option.some.inj H
      obtain ⟨HGz18, hgz18⟩ := HI0.out
      have hcz18_0 := cellE72_0 HGz18
      have hcz18_1 := cellE72_1 HGz18
      have hcz18_2 := cellE72_2 HGz18
      have hcz18_3 := cellE72_3 HGz18
      clear HGz18 hgz18
      go_wp2
      repeat (go_quiet (fail); try go_wp2)
      go_ret
      exact ⟨ew_, by repeat (first | (with_reducible first | exact HI0.out | apply IsE72.alloc | apply IsE72.drewN | apply IsE72.drew | refine IsE72.far ?_ NB0_501.out _) | exact HI0.out), (hg_ GE501), by repeat (first | (with_reducible first | exact HK.out | apply keep_drewN | apply keep_drew | apply keep_alloc | refine keep_far ?_ GW501.out _) | exact HK.out)⟩
     ·rw [if_neg c17] at H
      have c17b0 : decide (20000 < (wrap64 ((wrap64 (x5_3 + (wrap64 (Int.tdiv (wrap64 (s0_3 - x6_3)) s0_2)))) + 1))) = false := decide_eq_false c17
      clear c17
      obtain rfl := Option.some.inj H
      obtain ⟨HGz19, hgz19⟩ := HI0.out
      have hcz19_0 := cellE72_0 HGz19
      have hcz19_1 := cellE72_1 HGz19
      have hcz19_2 := cellE72_2 HGz19
      have hcz19_3 := cellE72_3 HGz19
      clear HGz19 hgz19
      go_wp2
      repeat (go_quiet (fail); try go_wp2)
      go_ret
      exact ⟨ew_, by repeat (first | (with_reducible first | exact HI0.out | apply IsE72.alloc | apply IsE72.drewN | apply IsE72.drew | refine IsE72.far ?_ NB0_501.out _) | exact HI0.out), (hg_ GE501), by repeat (first | (with_reducible first | exact HK.out | apply keep_drewN | apply keep_drew | apply keep_alloc | refine keep_far ?_ GW501.out _) | exact HK.out)⟩
theorem spec_l21End.calls (k : Nat) (g : Addr) (s0_0 : ByteArray) (s0_1 : Int) (s0_2 : Int) (s0_3 : Int) (A1 : Option Addr) (c1 : Nat) (l1 : List (S75)) (r : Int) (w : World) (hr1 : Kd.C k75 w A1 l1.length l1) (hc1 : l1.length ≤ c1) (he0 : w.cell? g = some (.string s0_0)) (he1 : w.cell? ⟨g.block, g.off + 1, none⟩ = some (.int .i64 s0_1)) (he2 : w.cell? ⟨g.block, g.off + 2, none⟩ = some (.int .i64 s0_2)) (he3 : w.cell? ⟨g.block, g.off + 3, none⟩ = some (.int .i64 s0_3)) (h : spec_l21End.f k s0_0 s0_1 s0_2 s0_3 l1 = some r) :
  Calls Try.prog 85 #[.pointer (some g), .slice A1 l1.length c1] w fun e w' => e = .returned (.int .i64 r) ∧ Below w.heap.size w w' := by
 refine (spec_l21End.calls0 k g.block g.off g.spot s0_0 s0_1 s0_2 s0_3 A1 c1 l1 r w w ⟨⟨he0, he1, he2, he3⟩, trivial⟩ (Below.refl _ _) (Kd.C_foot_came k75_heap hr1 (Below.refl _ _) (Nat.le_refl _)) hc1 h).mono ?_
 rintro e w' ⟨rfl, _, hb, _⟩
 exact ⟨rfl, hb⟩


/-! ### spec_DayOfEnd: function 37 -/
def spec_DayOfEnd.f (k : Nat) (l0 : List (S72)) (l1 : List (S75)) (a2 : ByteArray) : Option (Int × Int) := (spec_l21Named.f k l0 l1 a2).bind fun bt502 => (if bt502.2 = 0 then (if 0 ≤ bt502.1 then (if bt502.1 < (l0.length : Int) then ((spec_l21End.f k ((rd_T72 l0 bt502.1).f0) ((rd_T72 l0 bt502.1).f1) ((rd_T72 l0 bt502.1).f2) ((rd_T72 l0 bt502.1).f3) l1).bind fun t505 => (if t505 < 0 then (some (0, 5)) else (some (t505, 0)))) else (none)) else (none)) else (some (0, bt502.2)))
set_option maxHeartbeats 8000000 in
set_option maxRecDepth 100000 in
theorem spec_DayOfEnd.calls (k : Nat) (A0 : Option Addr) (c0 : Nat) (l0 : List (S72)) (A1 : Option Addr) (c1 : Nat) (l1 : List (S75)) (a2 : ByteArray) (r1 : Int) (r2 : Int) (w : World) (hr0 : Kd.C k72 w A0 l0.length l0) (hc0 : l0.length ≤ c0) (hr1 : Kd.C k75 w A1 l1.length l1) (hc1 : l1.length ≤ c1) (h : spec_DayOfEnd.f k l0 l1 a2 = some (r1, r2)) :
  Calls Try.prog 37 #[.slice A0 l0.length c0, .slice A1 l1.length c1, .string a2] w fun e w' => e = .returned (.tuple #[.int .i64 r1, .int .i64 r2]) ∧ Below w.heap.size w w' := by
 have HR0 := ak_ hr0
 have HC0 := ak_ hc0
 clear hr0 hc0
 have HR1 := ak_ hr1
 have HC1 := ak_ hc1
 clear hr1 hc1
 have HB := ak_ (Below.refl w.heap.size w)
 have H : ((spec_l21Named.f k l0 l1 a2).bind fun bt502 => (if bt502.2 = 0 then (if 0 ≤ bt502.1 then (if bt502.1 < (l0.length : Int) then ((spec_l21End.f k ((rd_T72 l0 bt502.1).f0) ((rd_T72 l0 bt502.1).f1) ((rd_T72 l0 bt502.1).f2) ((rd_T72 l0 bt502.1).f3) l1).bind fun t505 => (if t505 < 0 then (some (0, 5)) else (some (t505, 0)))) else (none)) else (none)) else (some (0, bt502.2)))) = some (r1, r2) := h
 clear h
 replace H := ob_ H
 obtain ⟨⟨t502, t503⟩, A40, H⟩ := H
 replace H : (if t503 = 0 then (if 0 ≤ t502 then (if t502 < (l0.length : Int) then ((spec_l21End.f k ((rd_T72 l0 t502).f0) ((rd_T72 l0 t502).f1) ((rd_T72 l0 t502).f2) ((rd_T72 l0 t502).f3) l1).bind fun t505 => (if t505 < 0 then (some (0, 5)) else (some (t505, 0)))) else (none)) else (none)) else (some (0, t503))) = some (r1, r2) := H
 have A4 := ak_ A40
 clear A40
 by_cases c5 : t503 = 0
 ·rw [if_pos c5] at H
  have c5b0 : (t503 == 0) = true := beq_iff_eq.mpr c5
  have c5b1 : (t503 != 0) = false := bne_eq_false_iff_eq.mpr c5
  clear c5
  by_cases c6 : 0 ≤ t502
  ·rw [if_pos c6] at H
   have c6b0 : decide (0 ≤ t502) = true := dt_ c6
   clear c6
   by_cases c7 : t502 < (l0.length : Int)
   ·rw [if_pos c7] at H
    have c7b0 : decide (t502 < (l0.length : Int)) = true := dt_ c7
    clear c7
    replace H := ob_ H
    obtain ⟨t505, A80, H⟩ := H
    replace H : (if t505 < 0 then (some (0, 5)) else (some (t505, 0))) = some (r1, r2) := H
    have A8 := ak_ A80
    clear A80
    by_cases c9 : t505 < 0
    ·rw [if_pos c9] at H
     have c9b0 : decide (t505 < 0) = true := dt_ c9
     clear c9
     simp only [Option.some.injEq, Prod.mk.injEq] at H
     obtain ⟨rfl, rfl⟩ := H
     go_enter Try.func37, Try.ntmps37
     go_wp2_with (first | ((with_reducible refine gate_callee (f := 81) rfl ?_); refine goesL_ (some 15) rfl rfl Try.func81 (by kernel_rfl) rfl #[.slice A0 l0.length c0, .slice A1 l1.length c1, .string a2] rfl ln_ ?_; (with_reducible refine (spec_l21Named.calls k _ _ l0 _ _ l1 a2 t502 t503 _ ?side1 ?side2 ?side3 ?side4 A4.out).mono ?_); (case side1 => exact kc_ HR0.out); (case side2 => exact HC0.out); (case side3 => exact kc_ HR1.out); (case side4 => exact HC1.out); rintro e w10 ⟨rfl, hb⟩; refine ⟨_, rfl, ?_⟩; have n0_ := ak_ (below_step hb_ hb); clear HB; have HB := n0_; clear n0_; (try clear hb); (try clear hb2); (try clear hk); (try clear hi); have p504 : 0 ≤ (t502 : Int) := od_; have q504 : t502 < (l0.length : Int) := od_; obtain ⟨ad504, e504, hx504_0, hx504_1, hx504_2, hx504_3⟩ := at_T72 HR0.out t502 p504 q504; cases e504; replace hx504_0 := cq_ HB hx504_0; replace hx504_1 := cq_ HB hx504_1; replace hx504_2 := cq_ HB hx504_2; replace hx504_3 := cq_ HB hx504_3; replace p504 := eq_true p504; replace q504 := eq_true q504) | ((with_reducible refine gate_callee (f := 85) rfl ?_); refine goesL_ (some 25) rfl rfl Try.func85 (by kernel_rfl) rfl #[.pointer (some (ad504.add ((t502).toNat * 4))), .slice A1 l1.length c1] rfl ln_ ?_; (with_reducible refine (spec_l21End.calls k _ ((rd_T72 l0 t502).f0) ((rd_T72 l0 t502).f1) ((rd_T72 l0 t502).f2) ((rd_T72 l0 t502).f3) _ _ l1 t505 _ ?side1 ?side2 ?side3 ?side4 ?side5 ?side6 A8.out).mono ?_); (case side1 => exact kc_ (Kd.C_below HR1.out HB.out)); (case side2 => exact HC1.out); (case side3 => first | exact hx504_0 | (simpa using hx504_0) | (go_simp; done)); (case side4 => first | exact hx504_1 | (simpa using hx504_1) | (go_simp; done)); (case side5 => first | exact hx504_2 | (simpa using hx504_2) | (go_simp; done)); (case side6 => first | exact hx504_3 | (simpa using hx504_3) | (go_simp; done)); rintro e w11 ⟨rfl, hb⟩; refine ⟨_, rfl, ?_⟩; have n0_ := ak_ (below_step hb_ hb); clear HB; have HB := n0_; clear n0_; clear hb))
     go_ret2
     exact ⟨ew_, hb_⟩
    ·rw [if_neg c9] at H
     have c9b0 : decide (t505 < 0) = false := decide_eq_false c9
     clear c9
     simp only [Option.some.injEq, Prod.mk.injEq] at H
     obtain ⟨rfl, rfl⟩ := H
     go_enter Try.func37, Try.ntmps37
     go_wp2_with (first | ((with_reducible refine gate_callee (f := 81) rfl ?_); refine goesL_ (some 15) rfl rfl Try.func81 (by kernel_rfl) rfl #[.slice A0 l0.length c0, .slice A1 l1.length c1, .string a2] rfl ln_ ?_; (with_reducible refine (spec_l21Named.calls k _ _ l0 _ _ l1 a2 t502 t503 _ ?side1 ?side2 ?side3 ?side4 A4.out).mono ?_); (case side1 => exact kc_ HR0.out); (case side2 => exact HC0.out); (case side3 => exact kc_ HR1.out); (case side4 => exact HC1.out); rintro e w12 ⟨rfl, hb⟩; refine ⟨_, rfl, ?_⟩; have n0_ := ak_ (below_step hb_ hb); clear HB; have HB := n0_; clear n0_; (try clear hb); (try clear hb2); (try clear hk); (try clear hi); have p504 : 0 ≤ (t502 : Int) := od_; have q504 : t502 < (l0.length : Int) := od_; obtain ⟨ad504, e504, hx504_0, hx504_1, hx504_2, hx504_3⟩ := at_T72 HR0.out t502 p504 q504; cases e504; replace hx504_0 := cq_ HB hx504_0; replace hx504_1 := cq_ HB hx504_1; replace hx504_2 := cq_ HB hx504_2; replace hx504_3 := cq_ HB hx504_3; replace p504 := eq_true p504; replace q504 := eq_true q504) | ((with_reducible refine gate_callee (f := 85) rfl ?_); refine goesL_ (some 25) rfl rfl Try.func85 (by kernel_rfl) rfl #[.pointer (some (ad504.add ((t502).toNat * 4))), .slice A1 l1.length c1] rfl ln_ ?_; (with_reducible refine (spec_l21End.calls k _ ((rd_T72 l0 t502).f0) ((rd_T72 l0 t502).f1) ((rd_T72 l0 t502).f2) ((rd_T72 l0 t502).f3) _ _ l1 t505 _ ?side1 ?side2 ?side3 ?side4 ?side5 ?side6 A8.out).mono ?_); (case side1 => exact kc_ (Kd.C_below HR1.out HB.out)); (case side2 => exact HC1.out); (case side3 => first | exact hx504_0 | (simpa using hx504_0) | (go_simp; done)); (case side4 => first | exact hx504_1 | (simpa using hx504_1) | (go_simp; done)); (case side5 => first | exact hx504_2 | (simpa using hx504_2) | (go_simp; done)); (case side6 => first | exact hx504_3 | (simpa using hx504_3) | (go_simp; done)); rintro e w13 ⟨rfl, hb⟩; refine ⟨_, rfl, ?_⟩; have n0_ := ak_ (below_step hb_ hb); clear HB; have HB := n0_; clear n0_; clear hb))
     go_ret2
     exact ⟨ew_, hb_⟩
   ·rw [if_neg c7] at H
    exact absurd H (by simp)
  ·rw [if_neg c6] at H
   exact absurd H (by simp)
 ·rw [if_neg c5] at H
  have c5b0 : (t503 == 0) = false := beq_eq_false_iff_ne.mpr c5
  have c5b1 : (t503 != 0) = true := bne_iff_ne.mpr c5
  simp only [Option.some.injEq, Prod.mk.injEq] at H
  obtain ⟨rfl, rfl⟩ := H
  go_enter Try.func37, Try.ntmps37
  go_wp2_with (first | ((with_reducible refine gate_callee (f := 81) rfl ?_); refine goesL_ (some 15) rfl rfl Try.func81 (by kernel_rfl) rfl #[.slice A0 l0.length c0, .slice A1 l1.length c1, .string a2] rfl ln_ ?_; (with_reducible refine (spec_l21Named.calls k _ _ l0 _ _ l1 a2 t502 t503 _ ?side1 ?side2 ?side3 ?side4 A4.out).mono ?_); (case side1 => exact kc_ HR0.out); (case side2 => exact HC0.out); (case side3 => exact kc_ HR1.out); (case side4 => exact HC1.out); rintro e w14 ⟨rfl, hb⟩; refine ⟨_, rfl, ?_⟩; have n0_ := ak_ (below_step hb_ hb); clear HB; have HB := n0_; clear n0_; clear hb))
  go_ret2
  exact ⟨ew_, hb_⟩

end Go.Proofs.Ytfenjlkopofopaa.P
end
