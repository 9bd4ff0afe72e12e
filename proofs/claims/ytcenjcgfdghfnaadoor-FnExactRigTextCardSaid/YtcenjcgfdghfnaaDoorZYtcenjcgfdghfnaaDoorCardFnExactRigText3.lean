/- Texts of this claim, packed: Px3, Open, Base, Names, TyRail, TyBelay, RigV. -/
import Derived.Deep.Slices
import Derived.Deep.Fields
import Derived.ChangeSame
import Derived.WideShapes
import Derived.Lib.Bytes
import Derived.Test.YtcenjcgfdghfnaaDoorZYtcenjcgfdghfnaaDoorCardFnExactRigText2
section
-- Written by gprint.py (own program, over the printer of the kit) out of the translation. Lean checks it.
namespace Go.Proofs.YtcenjcgfdghfnaaDoor.P
open Go.RowKit Go.Proofs.YtcenjcgfdghfnaaDoorW.PrintWords Go.Proofs.YtcenjcgfdghfnaaDoorW.PrintLast Go.Proofs.YtcenjcgfdghfnaaDoorW.PrintMore Go.Proofs.YtcenjcgfdghfnaaDoorW.Pk
open Bool renaming true → T_, false → F_
open List renaming setIfInBounds_toArray → sT_, set_cons_zero → s0_, set_cons_succ → sS_
attribute [local go_sem] max2_int min2_int max_two min_two max_three min_three max_four min_four   -- for this text's walks alone
set_option linter.unusedVariables false
set_option linter.unusedSimpArgs false

/-! ### laws_eqRail: function 78 -/
def laws_eqRail.f (a0_0 : ByteArray) (a0_1 : ByteArray) (a0_2 : Int) (a1_0 : ByteArray) (a1_1 : ByteArray) (a1_2 : Int) : Option (Bool) := if a0_0.toList = a1_0.toList then (if a0_1.toList = a1_1.toList then (if a0_2 = a1_2 then (some true) else (some false)) else (some false)) else (some false)
set_option maxHeartbeats 8000000 in
set_option maxRecDepth 100000 in
theorem laws_eqRail.calls (a0_0 : ByteArray) (a0_1 : ByteArray) (a0_2 : Int) (a1_0 : ByteArray) (a1_1 : ByteArray) (a1_2 : Int) (r : Bool) (w : World) (h : laws_eqRail.f a0_0 a0_1 a0_2 a1_0 a1_1 a1_2 = some r) :
  Calls Tryd.prog 78 #[.agg #[.string a0_0, .string a0_1, .int .i64 a0_2], .agg #[.string a1_0, .string a1_1, .int .i64 a1_2]] w fun e w' => e = .returned (.bool r) ∧ Below w.heap.size w w' := by
 have hu64 := Tryd.underlying64
 have HB := Aside0.mk (Below.refl w.heap.size w)
 have H : (if a0_0.toList = a1_0.toList then (if a0_1.toList = a1_1.toList then (if a0_2 = a1_2 then (some true) else (some false)) else (some false)) else (some false)) = some r := h
 clear h
 by_cases c3 : a0_0.toList = a1_0.toList
 ·rw [if_pos c3] at H
  have c3b0 : (a0_0.toList == a1_0.toList) = true := beq_iff_eq.mpr c3
  have c3b1 : (a0_0.toList != a1_0.toList) = false := bne_eq_false_iff_eq.mpr c3
  clear c3
  by_cases c4 : a0_1.toList = a1_1.toList
  ·rw [if_pos c4] at H
   have c4b0 : (a0_1.toList == a1_1.toList) = true := beq_iff_eq.mpr c4
   have c4b1 : (a0_1.toList != a1_1.toList) = false := bne_eq_false_iff_eq.mpr c4
   clear c4
   by_cases c5 : a0_2 = a1_2
   ·rw [if_pos c5] at H
    have c5b0 : (a0_2 == a1_2) = true := beq_iff_eq.mpr c5
    have c5b1 : (a0_2 != a1_2) = false := bne_eq_false_iff_eq.mpr c5
    clear c5
    obtain rfl := Option.some.inj H
    go_enter Tryd.func78, Tryd.ntmps78
    go_wp2_with (first | ((with_reducible refine gate_dst (N := 2) rfl ?_); refine box_event ?hg (N := 2) ?hd (cs := #[.string a0_0, .string a0_1, .int .i64 a0_2]) (t := 64) ?hr ?_; (case hd => rfl); (case hg => rfl); (case hr => first | (go_simp; done) | (go_simp; rfl)); intro gb209 hg w6 hbox hb; have n0_ := Aside0.mk (below_step hb_ hb); have n1_ := Aside0.mk (hbox); have n2_ := Aside0.mk ((by rw [hg]; exact (below_size hb_) : w.heap.size ≤ gb209)); have n3_ := Aside0.mk ((by rw [hg]; exact (below_size hb_) : w.heap.size ≤ gb209)); clear HB; have HB := n0_; have BK209 := n1_; have GW209 := n2_; have GE209 := n3_; clear n0_ n1_ n2_ n3_; clear hb hbox hg) | ((with_reducible refine gate_dst (N := 3) rfl ?_); refine box_event ?hg (N := 3) ?hd (cs := #[.string a1_0, .string a1_1, .int .i64 a1_2]) (t := 64) ?hr ?_; (case hd => rfl); (case hg => rfl); (case hr => first | (go_simp; done) | (go_simp; rfl)); intro gb210 hg w7 hbox hb; have n0_ := Aside0.mk (blk_below (g := gb209) (o := .cells #[.string a0_0, .string a0_1, .int .i64 a0_2] 64 (0, 0)) (bk_ BK209) hb); have n1_ := Aside0.mk (below_step (hg_ GE209) hb); have n2_ := Aside0.mk (hbox); have n3_ := Aside0.mk ((by rw [hg]; exact (below_size (hg_ GE209)) : w.heap.size ≤ gb210)); have n4_ := Aside0.mk ((by rw [hg]; exact (below_size (hg_ GE209)) : w.heap.size ≤ gb210)); have n5_ := Aside0.mk ((by rw [hg]; exact Nat.ne_of_lt (blk_lt (g := gb209) (o := .cells #[.string a0_0, .string a0_1, .int .i64 a0_2] 64 (0, 0)) (bk_ BK209)) : gb209 ≠ gb210)); have n6_ := Aside0.mk ((by rw [hg]; exact Nat.ne_of_gt (blk_lt (g := gb209) (o := .cells #[.string a0_0, .string a0_1, .int .i64 a0_2] 64 (0, 0)) (bk_ BK209)) : gb210 ≠ gb209)); clear BK209; clear HB; have BK209 := n0_; have HB := n1_; have BK210 := n2_; have GW210 := n3_; have GE210 := n4_; have NB209_210 := n5_; have NB210_209 := n6_; clear n0_ n1_ n2_ n3_ n4_ n5_ n6_; clear hb hbox hg; have hnb8 := NB209_210.out; have hnc8 := NB210_209.out; have hcz9_0 : w7.cell? ⟨gb209, 0, none⟩ = some (.string a0_0) := (blk_cell BK209.out 0).trans rfl; have hcz9_1 : w7.cell? ⟨gb209, 1, none⟩ = some (.string a0_1) := (blk_cell BK209.out 1).trans rfl; have hcz9_2 : w7.cell? ⟨gb209, 2, none⟩ = some (.int .i64 a0_2) := (blk_cell BK209.out 2).trans rfl; have hfz9_0 := blk_frozen BK209.out 0; have hfz9_1 := blk_frozen BK209.out 1; have hfz9_2 := blk_frozen BK209.out 2; have hcz10_0 : w7.cell? ⟨gb210, 0, none⟩ = some (.string a1_0) := (blk_cell BK210.out 0).trans rfl; have hcz10_1 : w7.cell? ⟨gb210, 1, none⟩ = some (.string a1_1) := (blk_cell BK210.out 1).trans rfl; have hcz10_2 : w7.cell? ⟨gb210, 2, none⟩ = some (.int .i64 a1_2) := (blk_cell BK210.out 2).trans rfl; have hfz10_0 := blk_frozen BK210.out 0; have hfz10_1 := blk_frozen BK210.out 1; have hfz10_2 := blk_frozen BK210.out 2))
    go_ret
    exact ⟨ew_, (hg2_ GE209 GE210)⟩
   ·rw [if_neg c5] at H
    have c5b0 : (a0_2 == a1_2) = false := beq_eq_false_iff_ne.mpr c5
    have c5b1 : (a0_2 != a1_2) = true := bne_iff_ne.mpr c5
    obtain rfl := Option.some.inj H
    go_enter Tryd.func78, Tryd.ntmps78
    go_wp2_with (first | ((with_reducible refine gate_dst (N := 2) rfl ?_); refine box_event ?hg (N := 2) ?hd (cs := #[.string a0_0, .string a0_1, .int .i64 a0_2]) (t := 64) ?hr ?_; (case hd => rfl); (case hg => rfl); (case hr => first | (go_simp; done) | (go_simp; rfl)); intro gb209 hg w11 hbox hb; have n0_ := Aside0.mk (below_step hb_ hb); have n1_ := Aside0.mk (hbox); have n2_ := Aside0.mk ((by rw [hg]; exact (below_size hb_) : w.heap.size ≤ gb209)); have n3_ := Aside0.mk ((by rw [hg]; exact (below_size hb_) : w.heap.size ≤ gb209)); clear HB; have HB := n0_; have BK209 := n1_; have GW209 := n2_; have GE209 := n3_; clear n0_ n1_ n2_ n3_; clear hb hbox hg) | ((with_reducible refine gate_dst (N := 3) rfl ?_); refine box_event ?hg (N := 3) ?hd (cs := #[.string a1_0, .string a1_1, .int .i64 a1_2]) (t := 64) ?hr ?_; (case hd => rfl); (case hg => rfl); (case hr => first | (go_simp; done) | (go_simp; rfl)); intro gb210 hg w12 hbox hb; have n0_ := Aside0.mk (blk_below (g := gb209) (o := .cells #[.string a0_0, .string a0_1, .int .i64 a0_2] 64 (0, 0)) (bk_ BK209) hb); have n1_ := Aside0.mk (below_step (hg_ GE209) hb); have n2_ := Aside0.mk (hbox); have n3_ := Aside0.mk ((by rw [hg]; exact (below_size (hg_ GE209)) : w.heap.size ≤ gb210)); have n4_ := Aside0.mk ((by rw [hg]; exact (below_size (hg_ GE209)) : w.heap.size ≤ gb210)); have n5_ := Aside0.mk ((by rw [hg]; exact Nat.ne_of_lt (blk_lt (g := gb209) (o := .cells #[.string a0_0, .string a0_1, .int .i64 a0_2] 64 (0, 0)) (bk_ BK209)) : gb209 ≠ gb210)); have n6_ := Aside0.mk ((by rw [hg]; exact Nat.ne_of_gt (blk_lt (g := gb209) (o := .cells #[.string a0_0, .string a0_1, .int .i64 a0_2] 64 (0, 0)) (bk_ BK209)) : gb210 ≠ gb209)); clear BK209; clear HB; have BK209 := n0_; have HB := n1_; have BK210 := n2_; have GW210 := n3_; have GE210 := n4_; have NB209_210 := n5_; have NB210_209 := n6_; clear n0_ n1_ n2_ n3_ n4_ n5_ n6_; clear hb hbox hg; have hnb13 := NB209_210.out; have hnc13 := NB210_209.out; have hcz14_0 : w12.cell? ⟨gb209, 0, none⟩ = some (.string a0_0) := (blk_cell BK209.out 0).trans rfl; have hcz14_1 : w12.cell? ⟨gb209, 1, none⟩ = some (.string a0_1) := (blk_cell BK209.out 1).trans rfl; have hcz14_2 : w12.cell? ⟨gb209, 2, none⟩ = some (.int .i64 a0_2) := (blk_cell BK209.out 2).trans rfl; have hfz14_0 := blk_frozen BK209.out 0; have hfz14_1 := blk_frozen BK209.out 1; have hfz14_2 := blk_frozen BK209.out 2; have hcz15_0 : w12.cell? ⟨gb210, 0, none⟩ = some (.string a1_0) := (blk_cell BK210.out 0).trans rfl; have hcz15_1 : w12.cell? ⟨gb210, 1, none⟩ = some (.string a1_1) := (blk_cell BK210.out 1).trans rfl; have hcz15_2 : w12.cell? ⟨gb210, 2, none⟩ = some (.int .i64 a1_2) := (blk_cell BK210.out 2).trans rfl; have hfz15_0 := blk_frozen BK210.out 0; have hfz15_1 := blk_frozen BK210.out 1; have hfz15_2 := blk_frozen BK210.out 2))
    go_ret
    exact ⟨ew_, (hg2_ GE209 GE210)⟩
  ·rw [if_neg c4] at H
   have c4b0 : (a0_1.toList == a1_1.toList) = false := beq_eq_false_iff_ne.mpr c4
   have c4b1 : (a0_1.toList != a1_1.toList) = true := bne_iff_ne.mpr c4
   obtain rfl := Option.some.inj H
   go_enter Tryd.func78, Tryd.ntmps78
   go_wp2_with (first | ((with_reducible refine gate_dst (N := 2) rfl ?_); refine box_event ?hg (N := 2) ?hd (cs := #[.string a0_0, .string a0_1, .int .i64 a0_2]) (t := 64) ?hr ?_; (case hd => rfl); (case hg => rfl); (case hr => first | (go_simp; done) | (go_simp; rfl)); intro gb209 hg w16 hbox hb; have n0_ := Aside0.mk (below_step hb_ hb); have n1_ := Aside0.mk (hbox); have n2_ := Aside0.mk ((by rw [hg]; exact (below_size hb_) : w.heap.size ≤ gb209)); have n3_ := Aside0.mk ((by rw [hg]; exact (below_size hb_) : w.heap.size ≤ gb209)); clear HB; have HB := n0_; have BK209 := n1_; have GW209 := n2_; have GE209 := n3_; clear n0_ n1_ n2_ n3_; clear hb hbox hg) | ((with_reducible refine gate_dst (N := 3) rfl ?_); refine box_event ?hg (N := 3) ?hd (cs := #[.string a1_0, .string a1_1, .int .i64 a1_2]) (t := 64) ?hr ?_; (case hd => rfl); (case hg => rfl); (case hr => first | (go_simp; done) | (go_simp; rfl)); intro gb210 hg w17 hbox hb; have n0_ := Aside0.mk (blk_below (g := gb209) (o := .cells #[.string a0_0, .string a0_1, .int .i64 a0_2] 64 (0, 0)) (bk_ BK209) hb); have n1_ := Aside0.mk (below_step (hg_ GE209) hb); have n2_ := Aside0.mk (hbox); have n3_ := Aside0.mk ((by rw [hg]; exact (below_size (hg_ GE209)) : w.heap.size ≤ gb210)); have n4_ := Aside0.mk ((by rw [hg]; exact (below_size (hg_ GE209)) : w.heap.size ≤ gb210)); have n5_ := Aside0.mk ((by rw [hg]; exact Nat.ne_of_lt (blk_lt (g := gb209) (o := .cells #[.string a0_0, .string a0_1, .int .i64 a0_2] 64 (0, 0)) (bk_ BK209)) : gb209 ≠ gb210)); have n6_ := Aside0.mk ((by rw [hg]; exact Nat.ne_of_gt (blk_lt (g := gb209) (o := .cells #[.string a0_0, .string a0_1, .int .i64 a0_2] 64 (0, 0)) (bk_ BK209)) : gb210 ≠ gb209)); clear BK209; clear HB; have BK209 := n0_; have HB := n1_; have BK210 := n2_; have GW210 := n3_; have GE210 := n4_; have NB209_210 := n5_; have NB210_209 := n6_; clear n0_ n1_ n2_ n3_ n4_ n5_ n6_; clear hb hbox hg; have hnb18 := NB209_210.out; have hnc18 := NB210_209.out; have hcz19_0 : w17.cell? ⟨gb209, 0, none⟩ = some (.string a0_0) := (blk_cell BK209.out 0).trans rfl; have hcz19_1 : w17.cell? ⟨gb209, 1, none⟩ = some (.string a0_1) := (blk_cell BK209.out 1).trans rfl; have hcz19_2 : w17.cell? ⟨gb209, 2, none⟩ = some (.int .i64 a0_2) := (blk_cell BK209.out 2).trans rfl; have hfz19_0 := blk_frozen BK209.out 0; have hfz19_1 := blk_frozen BK209.out 1; have hfz19_2 := blk_frozen BK209.out 2; have hcz20_0 : w17.cell? ⟨gb210, 0, none⟩ = some (.string a1_0) := (blk_cell BK210.out 0).trans rfl; have hcz20_1 : w17.cell? ⟨gb210, 1, none⟩ = some (.string a1_1) := (blk_cell BK210.out 1).trans rfl; have hcz20_2 : w17.cell? ⟨gb210, 2, none⟩ = some (.int .i64 a1_2) := (blk_cell BK210.out 2).trans rfl; have hfz20_0 := blk_frozen BK210.out 0; have hfz20_1 := blk_frozen BK210.out 1; have hfz20_2 := blk_frozen BK210.out 2))
   go_ret
   exact ⟨ew_, (hg2_ GE209 GE210)⟩
 ·rw [if_neg c3] at H
  have c3b0 : (a0_0.toList == a1_0.toList) = false := beq_eq_false_iff_ne.mpr c3
  have c3b1 : (a0_0.toList != a1_0.toList) = true := bne_iff_ne.mpr c3
  obtain rfl := Option.some.inj H
  go_enter Tryd.func78, Tryd.ntmps78
  go_wp2_with (first | ((with_reducible refine gate_dst (N := 2) rfl ?_); refine box_event ?hg (N := 2) ?hd (cs := #[.string a0_0, .string a0_1, .int .i64 a0_2]) (t := 64) ?hr ?_; (case hd => rfl); (case hg => rfl); (case hr => first | (go_simp; done) | (go_simp; rfl)); intro gb209 hg w21 hbox hb; have n0_ := Aside0.mk (below_step hb_ hb); have n1_ := Aside0.mk (hbox); have n2_ := Aside0.mk ((by rw [hg]; exact (below_size hb_) : w.heap.size ≤ gb209)); have n3_ := Aside0.mk ((by rw [hg]; exact (below_size hb_) : w.heap.size ≤ gb209)); clear HB; have HB := n0_; have BK209 := n1_; have GW209 := n2_; have GE209 := n3_; clear n0_ n1_ n2_ n3_; clear hb hbox hg) | ((with_reducible refine gate_dst (N := 3) rfl ?_); refine box_event ?hg (N := 3) ?hd (cs := #[.string a1_0, .string a1_1, .int .i64 a1_2]) (t := 64) ?hr ?_; (case hd => rfl); (case hg => rfl); (case hr => first | (go_simp; done) | (go_simp; rfl)); intro gb210 hg w22 hbox hb; have n0_ := Aside0.mk (blk_below (g := gb209) (o := .cells #[.string a0_0, .string a0_1, .int .i64 a0_2] 64 (0, 0)) (bk_ BK209) hb); have n1_ := Aside0.mk (below_step (hg_ GE209) hb); have n2_ := Aside0.mk (hbox); have n3_ := Aside0.mk ((by rw [hg]; exact (below_size (hg_ GE209)) : w.heap.size ≤ gb210)); have n4_ := Aside0.mk ((by rw [hg]; exact (below_size (hg_ GE209)) : w.heap.size ≤ gb210)); have n5_ := Aside0.mk ((by rw [hg]; exact Nat.ne_of_lt (blk_lt (g := gb209) (o := .cells #[.string a0_0, .string a0_1, .int .i64 a0_2] 64 (0, 0)) (bk_ BK209)) : gb209 ≠ gb210)); have n6_ := Aside0.mk ((by rw [hg]; exact Nat.ne_of_gt (blk_lt (g := gb209) (o := .cells #[.string a0_0, .string a0_1, .int .i64 a0_2] 64 (0, 0)) (bk_ BK209)) : gb210 ≠ gb209)); clear BK209; clear HB; have BK209 := n0_; have HB := n1_; have BK210 := n2_; have GW210 := n3_; have GE210 := n4_; have NB209_210 := n5_; have NB210_209 := n6_; clear n0_ n1_ n2_ n3_ n4_ n5_ n6_; clear hb hbox hg; have hnb23 := NB209_210.out; have hnc23 := NB210_209.out; have hcz24_0 : w22.cell? ⟨gb209, 0, none⟩ = some (.string a0_0) := (blk_cell BK209.out 0).trans rfl; have hcz24_1 : w22.cell? ⟨gb209, 1, none⟩ = some (.string a0_1) := (blk_cell BK209.out 1).trans rfl; have hcz24_2 : w22.cell? ⟨gb209, 2, none⟩ = some (.int .i64 a0_2) := (blk_cell BK209.out 2).trans rfl; have hfz24_0 := blk_frozen BK209.out 0; have hfz24_1 := blk_frozen BK209.out 1; have hfz24_2 := blk_frozen BK209.out 2; have hcz25_0 : w22.cell? ⟨gb210, 0, none⟩ = some (.string a1_0) := (blk_cell BK210.out 0).trans rfl; have hcz25_1 : w22.cell? ⟨gb210, 1, none⟩ = some (.string a1_1) := (blk_cell BK210.out 1).trans rfl; have hcz25_2 : w22.cell? ⟨gb210, 2, none⟩ = some (.int .i64 a1_2) := (blk_cell BK210.out 2).trans rfl; have hfz25_0 := blk_frozen BK210.out 0; have hfz25_1 := blk_frozen BK210.out 1; have hfz25_2 := blk_frozen BK210.out 2))
  go_ret
  exact ⟨ew_, (hg2_ GE209 GE210)⟩

/-! ### laws_eqRailS: function 38 -/
def laws_eqRailS.l0 : Nat → List (S64) → List (S64) → Int → Option (Bool)
 | 0, _, _, _ => none
 | k + 1, x0, x1, x5 => if x5 < (x0.length : Int) then (if 0 ≤ x5 then (if x5 < (x1.length : Int) then ((laws_eqRail.f ((rd_T64 x0 x5).f0) ((rd_T64 x0 x5).f1) ((rd_T64 x0 x5).f2) ((rd_T64 x1 x5).f0) ((rd_T64 x1 x5).f1) ((rd_T64 x1 x5).f2)).bind fun t213 => (if t213 = true then (laws_eqRailS.l0 k x0 x1 (wrap64 (x5 + 1))) else (some false))) else (none)) else (none)) else (some true)
def laws_eqRailS.f (k : Nat) (l0 : List (S64)) (l1 : List (S64)) : Option (Bool) := if (l0.length : Int) = (l1.length : Int) then (laws_eqRailS.l0 k l0 l1 0) else (some false)
def laws_eqRailS.T6 : Bool × List (List Nat × List Nat) := (true, [([], []), ([], []), ([0, 1], [0, 1]), ([2], [2]), ([], []), ([], []), ([4, 5], [4, 5]), ([6], [6]), ([3, 7], [3, 7]), ([8], [8])])
def laws_eqRailS.B6 : List Nat := [0, 0, 3, 7, 0, 0, 48, 112, 255, 511]
theorem laws_eqRailS.tab6 : rtab .any (opsOf Tryd.f38 6) = laws_eqRailS.T6 := by kernel_rfl
theorem laws_eqRailS.bits6 : waitsOk laws_eqRailS.T6.2 laws_eqRailS.B6 = true := by kernel_rfl
set_option maxHeartbeats 8000000 in
set_option maxRecDepth 100000 in
theorem laws_eqRailS.calls (k : Nat) (A0 : Option Addr) (c0 : Nat) (l0 : List (S64)) (A1 : Option Addr) (c1 : Nat) (l1 : List (S64)) (r : Bool) (w : World) (hr0 : Kd.C k64 w A0 l0.length l0) (hc0 : l0.length ≤ c0) (hr1 : Kd.C k64 w A1 l1.length l1) (hc1 : l1.length ≤ c1) (h : laws_eqRailS.f k l0 l1 = some r) :
  Calls Tryd.prog 38 #[.slice A0 l0.length c0, .slice A1 l1.length c1] w fun e w' => e = .returned (.bool r) ∧ Below w.heap.size w w' := by
 have hu64 := Tryd.underlying64
 have HR0 := Aside0.mk hr0
 have HC0 := Aside0.mk hc0
 clear hr0 hc0
 have HR1 := Aside0.mk hr1
 have HC1 := Aside0.mk hc1
 clear hr1 hc1
 have HB := Aside0.mk (Below.refl w.heap.size w)
 have H : (if (l0.length : Int) = (l1.length : Int) then (laws_eqRailS.l0 k l0 l1 0) else (some false)) = some r := h
 clear h
 by_cases c3 : (l0.length : Int) = (l1.length : Int)
 ·rw [if_pos c3] at H
  have c3b0 : ((l0.length : Int) == (l1.length : Int)) = true := beq_iff_eq.mpr c3
  have c3b1 : ((l0.length : Int) != (l1.length : Int)) = false := bne_eq_false_iff_eq.mpr c3
  have c3b2 : (l0.length == l1.length) = true := by first | simpa using c3 | (simp at c3 ⊢; omega)
  clear c3
  have H' := Aside0.mk H
  clear H
  go_enter Tryd.func38, Tryd.ntmps38
  go_wp2
  go_loopg [5] k (fun kq v5 w' => ∃ (x5_1 : Int), v5 = .int .i64 x5_1 ∧ Aside0 (laws_eqRailS.l0 kq l0 l1 x5_1 = some r) ∧ Aside0 (kq ≤ k) ∧ Aside0 (Below w.heap.size w w'))
  case atStart => exact ⟨(0), (by first | rfl | (simp; done) | (simp [*]; done)), H', ⟨Nat.le_refl _⟩, ⟨hb_⟩⟩
  case round =>
   clear H'
   try clear c1
   try clear p2
   try clear c3
   try clear c3b0
   try clear c3b1
   try clear c3b2
   obtain ⟨x5_1, rfl, HA, HK1, HB⟩ := hrel
   cases gk with
   | zero => exact absurd HA.out (by simp [laws_eqRailS.l0])
   | succ k1 =>
    have H := HA.out
    clear HA
    simp only [laws_eqRailS.l0] at H
    by_cases c4 : x5_1 < (l0.length : Int)
    ·rw [if_pos c4] at H
     have c4b0 : decide (x5_1 < (l0.length : Int)) = true := decide_eq_true c4
     clear c4
     by_cases c5 : 0 ≤ x5_1
     ·rw [if_pos c5] at H
      have c5b0 : decide (0 ≤ x5_1) = true := decide_eq_true c5
      clear c5
      by_cases c6 : x5_1 < (l1.length : Int)
      ·rw [if_pos c6] at H
       have c6b0 : decide (x5_1 < (l1.length : Int)) = true := decide_eq_true c6
       clear c6
       replace H := Option.bind_eq_some_iff.mp H
       obtain ⟨t213, A70, H⟩ := H
       replace H : (if t213 = true then (laws_eqRailS.l0 k1 l0 l1 (wrap64 (x5_1 + 1))) else (some false)) = some r := H
       have A7 := Aside0.mk A70
       clear A70
       by_cases c8 : t213 = true
       ·subst c8
        have H1 : (laws_eqRailS.l0 k1 l0 l1 (wrap64 (x5_1 + 1))) = some r := by rw [if_pos rfl] at H; exact H
        clear H
        have H := H1
        clear H1
        have H' := Aside0.mk H
        clear H
        try go_wp2
        have n0_ := Aside0.mk (below_drew1 HB.out)
        clear HB
        have HB := n0_
        clear n0_
        have p211 : 0 ≤ (x5_1 : Int) := od_
        have q211 : x5_1 < (l0.length : Int) := od_
        obtain ⟨ad211, e211, hx211_0, hx211_1, hx211_2⟩ := at_T64 HR0.out x5_1 p211 q211
        have hw211_2 := hx211_2
        have hw211_1 := hx211_1
        have hw211_0 := hx211_0
        cases e211
        replace hx211_0 := cq_ HB hx211_0
        replace hx211_1 := cq_ HB hx211_1
        replace hx211_2 := cq_ HB hx211_2
        replace p211 := eq_true p211
        replace q211 := eq_true q211
        have p212 : 0 ≤ (x5_1 : Int) := od_
        have q212 : x5_1 < (l1.length : Int) := od_
        obtain ⟨ad212, e212, hx212_0, hx212_1, hx212_2⟩ := at_T64 HR1.out x5_1 p212 q212
        have hw212_2 := hx212_2
        have hw212_1 := hx212_1
        have hw212_0 := hx212_0
        cases e212
        replace hx212_0 := cq_ HB hx212_0
        replace hx212_1 := cq_ HB hx212_1
        replace hx212_2 := cq_ HB hx212_2
        replace p212 := eq_true p212
        replace q212 := eq_true q212
        refine start_ (n := 10) (S := fun w' => w'.cell? (ad211.add ((x5_1).toNat * 3)) = some (.string ((rd_T64 l0 x5_1).f0)) ∧ w'.cell? ⟨(ad211.add ((x5_1).toNat * 3)).block, (ad211.add ((x5_1).toNat * 3)).off + 1, none⟩ = some (.string ((rd_T64 l0 x5_1).f1)) ∧ w'.cell? ⟨(ad211.add ((x5_1).toNat * 3)).block, (ad211.add ((x5_1).toNat * 3)).off + 2, none⟩ = some (.int .i64 ((rd_T64 l0 x5_1).f2)) ∧ w'.cell? (ad212.add ((x5_1).toNat * 3)) = some (.string ((rd_T64 l1 x5_1).f0)) ∧ w'.cell? ⟨(ad212.add ((x5_1).toNat * 3)).block, (ad212.add ((x5_1).toNat * 3)).off + 1, none⟩ = some (.string ((rd_T64 l1 x5_1).f1)) ∧ w'.cell? ⟨(ad212.add ((x5_1).toNat * 3)).block, (ad212.add ((x5_1).toNat * 3)).off + 2, none⟩ = some (.int .i64 ((rd_T64 l1 x5_1).f2))) (ds := []) #[F_,F_,F_,F_,F_,F_,F_,F_,F_,F_] (by kernel_rfl) rfl rfl ⟨((HB.out.cell (World.block_lt_of_cell? w _ hw211_0)).trans hw211_0), ((HB.out.cell (World.block_lt_of_cell? w _ hw211_1)).trans hw211_1), ((HB.out.cell (World.block_lt_of_cell? w _ hw211_2)).trans hw211_2), ((HB.out.cell (World.block_lt_of_cell? w _ hw212_0)).trans hw212_0), ((HB.out.cell (World.block_lt_of_cell? w _ hw212_1)).trans hw212_1), ((HB.out.cell (World.block_lt_of_cell? w _ hw212_2)).trans hw212_2)⟩ (fun hHeld => ?_); refine with_tabW laws_eqRailS.tab6 laws_eqRailS.bits6 (fun HT_ HW_ => ?_)
        generalize wr.drew = w9 at HB hx211_0 hx211_1 hx211_2 hx212_0 hx212_1 hx212_2 hHeld ⊢
        refine pu (i := 0) (N := some 17) #[T_,F_,F_,F_,F_,F_,F_,F_,F_,F_] HT_ ?_
        refine pu (i := 1) (N := some 18) #[T_,T_,F_,F_,F_,F_,F_,F_,F_,F_] HT_ ?_
        refine pu (i := 2) (N := some 19) #[T_,T_,T_,F_,F_,F_,F_,F_,F_,F_] HT_ ?_
        refine pu (i := 4) (N := some 21) #[T_,T_,T_,F_,T_,F_,F_,F_,F_,F_] HT_ ?_
        refine pu (i := 5) (N := some 22) #[T_,T_,T_,F_,T_,T_,F_,F_,F_,F_] HT_ ?_
        refine pu (i := 6) (N := some 23) #[T_,T_,T_,F_,T_,T_,T_,F_,F_,F_] HT_ ?_
        refine take_ (i := 3) (N := some 20) (v := ?_) (a' := ?_) #[T_,T_,T_,T_,T_,T_,T_,F_,F_,F_] rfl rfl (take_ofW HT_.out HW_.out (by kernel_rfl)) (fun _ _ _ h => h) (Or.inl ⟨by rfl, ?_⟩) hHeld ?_ ?_
        rotate_left
        ·rintro w' ⟨s0, s1, s2, s3, s4, s5⟩
         go_simp
         with_reducible rfl
        rotate_left
        ·simp only [Act.put, sT_, s0_, sS_, i64_w, i32_w]
         rfl
        refine take_ (i := 7) (N := some 24) (v := ?_) (a' := ?_) #[T_,T_,T_,T_,T_,T_,T_,T_,F_,F_] rfl rfl (take_ofW HT_.out HW_.out (by kernel_rfl)) (fun _ _ _ h => h) (Or.inl ⟨by rfl, ?_⟩) hHeld ?_ ?_
        rotate_left
        ·rintro w' ⟨s0, s1, s2, s3, s4, s5⟩
         go_simp
         with_reducible rfl
        rotate_left
        ·simp only [Act.put, sT_, s0_, sS_, i64_w, i32_w]
         rfl
        refine one_ (i := 8) (N := some 25) #[T_,T_,T_,T_,T_,T_,T_,T_,T_,F_] rfl rfl (one_of HT_.out (by kernel_rfl)) (by decide) (fun K hK => ?_)
        refine goes_ Tryd.func78 (by kernel_rfl) rfl #[.agg #[.string ((rd_T64 l0 x5_1).f0), .string ((rd_T64 l0 x5_1).f1), .int .i64 ((rd_T64 l0 x5_1).f2)], .agg #[.string ((rd_T64 l1 x5_1).f0), .string ((rd_T64 l1 x5_1).f1), .int .i64 ((rd_T64 l1 x5_1).f2)]] (by rfl) rfl rfl ln_ ?_
        with_reducible refine (laws_eqRail.calls ((rd_T64 l0 x5_1).f0) ((rd_T64 l0 x5_1).f1) ((rd_T64 l0 x5_1).f2) ((rd_T64 l1 x5_1).f0) ((rd_T64 l1 x5_1).f1) ((rd_T64 l1 x5_1).f2) true _ A7.out).mono ?_
        rintro e w10 ⟨rfl, hb⟩
        refine ⟨_, rfl, ?_⟩
        have n0_ := Aside0.mk (below_step hb_ hb)
        clear HB
        have HB := n0_
        clear n0_
        (try clear hb)
        (try clear hb2)
        (try clear hk)
        (try clear hi)
        refine hK.out _ _ ⟨((HB.out.cell (World.block_lt_of_cell? w _ hw211_0)).trans hw211_0), ((HB.out.cell (World.block_lt_of_cell? w _ hw211_1)).trans hw211_1), ((HB.out.cell (World.block_lt_of_cell? w _ hw211_2)).trans hw211_2), ((HB.out.cell (World.block_lt_of_cell? w _ hw212_0)).trans hw212_0), ((HB.out.cell (World.block_lt_of_cell? w _ hw212_1)).trans hw212_1), ((HB.out.cell (World.block_lt_of_cell? w _ hw212_2)).trans hw212_2)⟩ (fun hHeld => ?_)
        clear hK K
        refine norm_ (a' := ?_) ?_ ?_
        rotate_left
        ·show Act.put _ (some 25) _ = _
         simp only [Act.put, sT_, s0_, sS_, i64_w, i32_w]
         rfl
        refine pu (i := 9) (N := some 26) #[T_,T_,T_,T_,T_,T_,T_,T_,T_,T_] HT_ ?_
        refine done_ (done_of HT_.out (by kernel_rfl)) ?_
        try go_wp2
        go_roundg k1
        case measure => have := HK1.out; omega
        case rel => exact ⟨(wrap64 (x5_1 + 1)), (by first | rfl | (simp; done) | (simp [*]; done)), H', ⟨by have := HK1.out; omega⟩, ⟨hb_⟩⟩
       ·replace c8 := Bool.eq_false_iff.mpr c8
        subst c8
        have H1 : (some false) = some r := by rw [if_neg (show ¬ (false = true) by decide)] at H; exact H
        clear H
        have H := H1
        clear H1
        obtain rfl := Option.some.inj H
        try go_wp2
        have n0_ := Aside0.mk (below_drew1 HB.out)
        clear HB
        have HB := n0_
        clear n0_
        have p211 : 0 ≤ (x5_1 : Int) := od_
        have q211 : x5_1 < (l0.length : Int) := od_
        obtain ⟨ad211, e211, hx211_0, hx211_1, hx211_2⟩ := at_T64 HR0.out x5_1 p211 q211
        have hw211_2 := hx211_2
        have hw211_1 := hx211_1
        have hw211_0 := hx211_0
        cases e211
        replace hx211_0 := cq_ HB hx211_0
        replace hx211_1 := cq_ HB hx211_1
        replace hx211_2 := cq_ HB hx211_2
        replace p211 := eq_true p211
        replace q211 := eq_true q211
        have p212 : 0 ≤ (x5_1 : Int) := od_
        have q212 : x5_1 < (l1.length : Int) := od_
        obtain ⟨ad212, e212, hx212_0, hx212_1, hx212_2⟩ := at_T64 HR1.out x5_1 p212 q212
        have hw212_2 := hx212_2
        have hw212_1 := hx212_1
        have hw212_0 := hx212_0
        cases e212
        replace hx212_0 := cq_ HB hx212_0
        replace hx212_1 := cq_ HB hx212_1
        replace hx212_2 := cq_ HB hx212_2
        replace p212 := eq_true p212
        replace q212 := eq_true q212
        refine start_ (n := 10) (S := fun w' => w'.cell? (ad211.add ((x5_1).toNat * 3)) = some (.string ((rd_T64 l0 x5_1).f0)) ∧ w'.cell? ⟨(ad211.add ((x5_1).toNat * 3)).block, (ad211.add ((x5_1).toNat * 3)).off + 1, none⟩ = some (.string ((rd_T64 l0 x5_1).f1)) ∧ w'.cell? ⟨(ad211.add ((x5_1).toNat * 3)).block, (ad211.add ((x5_1).toNat * 3)).off + 2, none⟩ = some (.int .i64 ((rd_T64 l0 x5_1).f2)) ∧ w'.cell? (ad212.add ((x5_1).toNat * 3)) = some (.string ((rd_T64 l1 x5_1).f0)) ∧ w'.cell? ⟨(ad212.add ((x5_1).toNat * 3)).block, (ad212.add ((x5_1).toNat * 3)).off + 1, none⟩ = some (.string ((rd_T64 l1 x5_1).f1)) ∧ w'.cell? ⟨(ad212.add ((x5_1).toNat * 3)).block, (ad212.add ((x5_1).toNat * 3)).off + 2, none⟩ = some (.int .i64 ((rd_T64 l1 x5_1).f2))) (ds := []) #[F_,F_,F_,F_,F_,F_,F_,F_,F_,F_] (by kernel_rfl) rfl rfl ⟨((HB.out.cell (World.block_lt_of_cell? w _ hw211_0)).trans hw211_0), ((HB.out.cell (World.block_lt_of_cell? w _ hw211_1)).trans hw211_1), ((HB.out.cell (World.block_lt_of_cell? w _ hw211_2)).trans hw211_2), ((HB.out.cell (World.block_lt_of_cell? w _ hw212_0)).trans hw212_0), ((HB.out.cell (World.block_lt_of_cell? w _ hw212_1)).trans hw212_1), ((HB.out.cell (World.block_lt_of_cell? w _ hw212_2)).trans hw212_2)⟩ (fun hHeld => ?_); refine with_tabW laws_eqRailS.tab6 laws_eqRailS.bits6 (fun HT_ HW_ => ?_)
        generalize wr.drew = w11 at HB hx211_0 hx211_1 hx211_2 hx212_0 hx212_1 hx212_2 hHeld ⊢
        refine pu (i := 0) (N := some 17) #[T_,F_,F_,F_,F_,F_,F_,F_,F_,F_] HT_ ?_
        refine pu (i := 1) (N := some 18) #[T_,T_,F_,F_,F_,F_,F_,F_,F_,F_] HT_ ?_
        refine pu (i := 2) (N := some 19) #[T_,T_,T_,F_,F_,F_,F_,F_,F_,F_] HT_ ?_
        refine pu (i := 4) (N := some 21) #[T_,T_,T_,F_,T_,F_,F_,F_,F_,F_] HT_ ?_
        refine pu (i := 5) (N := some 22) #[T_,T_,T_,F_,T_,T_,F_,F_,F_,F_] HT_ ?_
        refine pu (i := 6) (N := some 23) #[T_,T_,T_,F_,T_,T_,T_,F_,F_,F_] HT_ ?_
        refine take_ (i := 3) (N := some 20) (v := ?_) (a' := ?_) #[T_,T_,T_,T_,T_,T_,T_,F_,F_,F_] rfl rfl (take_ofW HT_.out HW_.out (by kernel_rfl)) (fun _ _ _ h => h) (Or.inl ⟨by rfl, ?_⟩) hHeld ?_ ?_
        rotate_left
        ·rintro w' ⟨s0, s1, s2, s3, s4, s5⟩
         go_simp
         with_reducible rfl
        rotate_left
        ·simp only [Act.put, sT_, s0_, sS_, i64_w, i32_w]
         rfl
        refine take_ (i := 7) (N := some 24) (v := ?_) (a' := ?_) #[T_,T_,T_,T_,T_,T_,T_,T_,F_,F_] rfl rfl (take_ofW HT_.out HW_.out (by kernel_rfl)) (fun _ _ _ h => h) (Or.inl ⟨by rfl, ?_⟩) hHeld ?_ ?_
        rotate_left
        ·rintro w' ⟨s0, s1, s2, s3, s4, s5⟩
         go_simp
         with_reducible rfl
        rotate_left
        ·simp only [Act.put, sT_, s0_, sS_, i64_w, i32_w]
         rfl
        refine one_ (i := 8) (N := some 25) #[T_,T_,T_,T_,T_,T_,T_,T_,T_,F_] rfl rfl (one_of HT_.out (by kernel_rfl)) (by decide) (fun K hK => ?_)
        refine goes_ Tryd.func78 (by kernel_rfl) rfl #[.agg #[.string ((rd_T64 l0 x5_1).f0), .string ((rd_T64 l0 x5_1).f1), .int .i64 ((rd_T64 l0 x5_1).f2)], .agg #[.string ((rd_T64 l1 x5_1).f0), .string ((rd_T64 l1 x5_1).f1), .int .i64 ((rd_T64 l1 x5_1).f2)]] (by rfl) rfl rfl ln_ ?_
        with_reducible refine (laws_eqRail.calls ((rd_T64 l0 x5_1).f0) ((rd_T64 l0 x5_1).f1) ((rd_T64 l0 x5_1).f2) ((rd_T64 l1 x5_1).f0) ((rd_T64 l1 x5_1).f1) ((rd_T64 l1 x5_1).f2) false _ A7.out).mono ?_
        rintro e w12 ⟨rfl, hb⟩
        refine ⟨_, rfl, ?_⟩
        have n0_ := Aside0.mk (below_step hb_ hb)
        clear HB
        have HB := n0_
        clear n0_
        (try clear hb)
        (try clear hb2)
        (try clear hk)
        (try clear hi)
        refine hK.out _ _ ⟨((HB.out.cell (World.block_lt_of_cell? w _ hw211_0)).trans hw211_0), ((HB.out.cell (World.block_lt_of_cell? w _ hw211_1)).trans hw211_1), ((HB.out.cell (World.block_lt_of_cell? w _ hw211_2)).trans hw211_2), ((HB.out.cell (World.block_lt_of_cell? w _ hw212_0)).trans hw212_0), ((HB.out.cell (World.block_lt_of_cell? w _ hw212_1)).trans hw212_1), ((HB.out.cell (World.block_lt_of_cell? w _ hw212_2)).trans hw212_2)⟩ (fun hHeld => ?_)
        clear hK K
        refine norm_ (a' := ?_) ?_ ?_
        rotate_left
        ·show Act.put _ (some 25) _ = _
         simp only [Act.put, sT_, s0_, sS_, i64_w, i32_w]
         rfl
        refine pu (i := 9) (N := some 26) #[T_,T_,T_,T_,T_,T_,T_,T_,T_,T_] HT_ ?_
        refine done_ (done_of HT_.out (by kernel_rfl)) ?_
        try go_wp2
        go_ret
        exact ⟨ew_, hb_⟩
      ·rw [if_neg c6] at H
       exact absurd H (by simp)
     ·rw [if_neg c5] at H
      exact absurd H (by simp)
    ·rw [if_neg c4] at H
     have c4b0 : decide (x5_1 < (l0.length : Int)) = false := decide_eq_false c4
     clear c4
     obtain rfl := Option.some.inj H
     go_wp2
     go_ret
     exact ⟨ew_, hb_⟩
 ·rw [if_neg c3] at H
  have c3b0 : ((l0.length : Int) == (l1.length : Int)) = false := beq_eq_false_iff_ne.mpr c3
  have c3b1 : ((l0.length : Int) != (l1.length : Int)) = true := bne_iff_ne.mpr c3
  have c3b2 : (l0.length == l1.length) = false := by first | simpa using c3 | (simp at c3 ⊢; omega)
  obtain rfl := Option.some.inj H
  go_enter Tryd.func38, Tryd.ntmps38
  go_wp2
  go_ret
  exact ⟨ew_, hb_⟩

/-! ### laws_eqStringS: function 39 -/
def laws_eqStringS.l0 : Nat → List ByteArray → List ByteArray → Int → Option (Bool)
 | 0, _, _, _ => none
 | k + 1, x0, x1, x5 => if x5 < (x0.length : Int) then (if 0 ≤ x5 then (if x5 < (x1.length : Int) then (if (rdOf ByteArray.empty x0 x5).toList = (rdOf ByteArray.empty x1 x5).toList then (laws_eqStringS.l0 k x0 x1 (wrap64 (x5 + 1))) else (some false)) else (none)) else (none)) else (some true)
def laws_eqStringS.f (k : Nat) (l0 : List ByteArray) (l1 : List ByteArray) : Option (Bool) := if (l0.length : Int) = (l1.length : Int) then (laws_eqStringS.l0 k l0 l1 0) else (some false)
set_option maxHeartbeats 8000000 in
set_option maxRecDepth 100000 in
theorem laws_eqStringS.calls (k : Nat) (A0 : Option Addr) (c0 : Nat) (l0 : List ByteArray) (A1 : Option Addr) (c1 : Nat) (l1 : List ByteArray) (r : Bool) (w : World) (hr0 : Kd.C Kd.string w A0 l0.length l0) (hc0 : l0.length ≤ c0) (hr1 : Kd.C Kd.string w A1 l1.length l1) (hc1 : l1.length ≤ c1) (h : laws_eqStringS.f k l0 l1 = some r) :
  Calls Tryd.prog 39 #[.slice A0 l0.length c0, .slice A1 l1.length c1] w fun e w' => e = .returned (.bool r) ∧ Drawn0 w w' := by
 have HR0 := Aside0.mk hr0
 have HC0 := Aside0.mk hc0
 clear hr0 hc0
 have HR1 := Aside0.mk hr1
 have HC1 := Aside0.mk hc1
 clear hr1 hc1
 have H : (if (l0.length : Int) = (l1.length : Int) then (laws_eqStringS.l0 k l0 l1 0) else (some false)) = some r := h
 clear h
 by_cases c3 : (l0.length : Int) = (l1.length : Int)
 ·rw [if_pos c3] at H
  have c3b0 : ((l0.length : Int) == (l1.length : Int)) = true := beq_iff_eq.mpr c3
  have c3b1 : ((l0.length : Int) != (l1.length : Int)) = false := bne_eq_false_iff_eq.mpr c3
  have c3b2 : (l0.length == l1.length) = true := by first | simpa using c3 | (simp at c3 ⊢; omega)
  clear c3
  have H' := Aside0.mk H
  clear H
  go_enter Tryd.func39, Tryd.ntmps39
  go_wp2
  repeat (go_quiet (fail); try go_wp2)
  go_loopg [5] k (fun kq v5 w' => ∃ (x5_1 : Int), v5 = .int .i64 x5_1 ∧ Aside0 (laws_eqStringS.l0 kq l0 l1 x5_1 = some r) ∧ Aside0 (kq ≤ k) ∧ Drawn0 w w')
  case atStart => exact ⟨(0), (by first | rfl | (simp; done) | (simp [*]; done)), H', ⟨Nat.le_refl _⟩, by repeat (first | exact Drawn0.refl _ | apply Drawn0.step)⟩
  case round =>
   clear H'
   try clear c1
   try clear p2
   try clear c3
   try clear c3b0
   try clear c3b1
   try clear c3b2
   obtain ⟨x5_1, rfl, HA, HK1, ⟨m1, rfl⟩⟩ := hrel
   cases gk with
   | zero => exact absurd HA.out (by simp [laws_eqStringS.l0])
   | succ k1 =>
    have H := HA.out
    clear HA
    simp only [laws_eqStringS.l0] at H
    by_cases c4 : x5_1 < (l0.length : Int)
    ·rw [if_pos c4] at H
     have c4b0 : decide (x5_1 < (l0.length : Int)) = true := decide_eq_true c4
     clear c4
     by_cases c5 : 0 ≤ x5_1
     ·rw [if_pos c5] at H
      have c5b0 : decide (0 ≤ x5_1) = true := decide_eq_true c5
      clear c5
      by_cases c6 : x5_1 < (l1.length : Int)
      ·rw [if_pos c6] at H
       have c6b0 : decide (x5_1 < (l1.length : Int)) = true := decide_eq_true c6
       clear c6
       by_cases c7 : (rdOf ByteArray.empty l0 x5_1).toList = (rdOf ByteArray.empty l1 x5_1).toList
       ·rw [if_pos c7] at H
        have c7b0 : ((rdOf ByteArray.empty l0 x5_1).toList == (rdOf ByteArray.empty l1 x5_1).toList) = true := beq_iff_eq.mpr c7
        have c7b1 : ((rdOf ByteArray.empty l0 x5_1).toList != (rdOf ByteArray.empty l1 x5_1).toList) = false := bne_eq_false_iff_eq.mpr c7
        clear c7
        have H' := Aside0.mk H
        clear H
        have p214 : 0 ≤ (x5_1 : Int) := od_
        have q214 : x5_1 < (l0.length : Int) := od_
        obtain ⟨ad214, e214, hx214_0⟩ := Kd.at_string HR0.out x5_1 p214 q214
        cases e214
        replace p214 := eq_true p214
        replace q214 := eq_true q214
        have p215 : 0 ≤ (x5_1 : Int) := od_
        have q215 : x5_1 < (l1.length : Int) := od_
        obtain ⟨ad215, e215, hx215_0⟩ := Kd.at_string HR1.out x5_1 p215 q215
        cases e215
        replace p215 := eq_true p215
        replace q215 := eq_true q215
        go_wp2
        repeat (go_quiet (fail); try go_wp2)
        go_roundg k1
        case measure => have := HK1.out; omega
        case rel => exact ⟨(wrap64 (x5_1 + 1)), (by first | rfl | (simp; done) | (simp [*]; done)), H', ⟨by have := HK1.out; omega⟩, by repeat (first | exact Drawn0.refl _ | apply Drawn0.step)⟩
       ·rw [if_neg c7] at H
        have c7b0 : ((rdOf ByteArray.empty l0 x5_1).toList == (rdOf ByteArray.empty l1 x5_1).toList) = false := beq_eq_false_iff_ne.mpr c7
        have c7b1 : ((rdOf ByteArray.empty l0 x5_1).toList != (rdOf ByteArray.empty l1 x5_1).toList) = true := bne_iff_ne.mpr c7
        obtain rfl := Option.some.inj H
        have p214 : 0 ≤ (x5_1 : Int) := od_
        have q214 : x5_1 < (l0.length : Int) := od_
        obtain ⟨ad214, e214, hx214_0⟩ := Kd.at_string HR0.out x5_1 p214 q214
        cases e214
        replace p214 := eq_true p214
        replace q214 := eq_true q214
        have p215 : 0 ≤ (x5_1 : Int) := od_
        have q215 : x5_1 < (l1.length : Int) := od_
        obtain ⟨ad215, e215, hx215_0⟩ := Kd.at_string HR1.out x5_1 p215 q215
        cases e215
        replace p215 := eq_true p215
        replace q215 := eq_true q215
        go_wp2
        repeat (go_quiet (fail); try go_wp2)
        go_ret
        exact ⟨by first | rfl | (simp; done) | (simp [*]; done), by repeat (first | exact Drawn0.refl _ | apply Drawn0.step)⟩
      ·rw [if_neg c6] at H
       exact absurd H (by simp)
     ·rw [if_neg c5] at H
      exact absurd H (by simp)
    ·rw [if_neg c4] at H
     have c4b0 : decide (x5_1 < (l0.length : Int)) = false := decide_eq_false c4
     clear c4
     obtain rfl := Option.some.inj H
     go_wp2
     repeat (go_quiet (fail); try go_wp2)
     go_ret
     exact ⟨by first | rfl | (simp; done) | (simp [*]; done), by repeat (first | exact Drawn0.refl _ | apply Drawn0.step)⟩
 ·rw [if_neg c3] at H
  have c3b0 : ((l0.length : Int) == (l1.length : Int)) = false := beq_eq_false_iff_ne.mpr c3
  have c3b1 : ((l0.length : Int) != (l1.length : Int)) = true := bne_iff_ne.mpr c3
  have c3b2 : (l0.length == l1.length) = false := by first | simpa using c3 | (simp at c3 ⊢; omega)
  obtain rfl := Option.some.inj H
  go_enter Tryd.func39, Tryd.ntmps39
  go_wp2
  repeat (go_quiet (fail); try go_wp2)
  go_ret
  exact ⟨by first | rfl | (simp; done) | (simp [*]; done), by repeat (first | exact Drawn0.refl _ | apply Drawn0.step)⟩

/-! ### laws_eqBelay: function 79 -/
def laws_eqBelay.f (a0_0 : ByteArray) (a0_1 : ByteArray) (a0_2 : Int) (a1_0 : ByteArray) (a1_1 : ByteArray) (a1_2 : Int) : Option (Bool) := if a0_0.toList = a1_0.toList then (if a0_1.toList = a1_1.toList then (if a0_2 = a1_2 then (some true) else (some false)) else (some false)) else (some false)
set_option maxHeartbeats 8000000 in
set_option maxRecDepth 100000 in
theorem laws_eqBelay.calls (a0_0 : ByteArray) (a0_1 : ByteArray) (a0_2 : Int) (a1_0 : ByteArray) (a1_1 : ByteArray) (a1_2 : Int) (r : Bool) (w : World) (h : laws_eqBelay.f a0_0 a0_1 a0_2 a1_0 a1_1 a1_2 = some r) :
  Calls Tryd.prog 79 #[.agg #[.string a0_0, .string a0_1, .int .i64 a0_2], .agg #[.string a1_0, .string a1_1, .int .i64 a1_2]] w fun e w' => e = .returned (.bool r) ∧ Below w.heap.size w w' := by
 have hu67 := Tryd.underlying67
 have HB := Aside0.mk (Below.refl w.heap.size w)
 have H : (if a0_0.toList = a1_0.toList then (if a0_1.toList = a1_1.toList then (if a0_2 = a1_2 then (some true) else (some false)) else (some false)) else (some false)) = some r := h
 clear h
 by_cases c3 : a0_0.toList = a1_0.toList
 ·rw [if_pos c3] at H
  have c3b0 : (a0_0.toList == a1_0.toList) = true := beq_iff_eq.mpr c3
  have c3b1 : (a0_0.toList != a1_0.toList) = false := bne_eq_false_iff_eq.mpr c3
  clear c3
  by_cases c4 : a0_1.toList = a1_1.toList
  ·rw [if_pos c4] at H
   have c4b0 : (a0_1.toList == a1_1.toList) = true := beq_iff_eq.mpr c4
   have c4b1 : (a0_1.toList != a1_1.toList) = false := bne_eq_false_iff_eq.mpr c4
   clear c4
   by_cases c5 : a0_2 = a1_2
   ·rw [if_pos c5] at H
    have c5b0 : (a0_2 == a1_2) = true := beq_iff_eq.mpr c5
    have c5b1 : (a0_2 != a1_2) = false := bne_eq_false_iff_eq.mpr c5
    clear c5
    obtain rfl := Option.some.inj H
    go_enter Tryd.func79, Tryd.ntmps79
    go_wp2_with (first | ((with_reducible refine gate_dst (N := 2) rfl ?_); refine box_event ?hg (N := 2) ?hd (cs := #[.string a0_0, .string a0_1, .int .i64 a0_2]) (t := 67) ?hr ?_; (case hd => rfl); (case hg => rfl); (case hr => first | (go_simp; done) | (go_simp; rfl)); intro gb216 hg w6 hbox hb; have n0_ := Aside0.mk (below_step hb_ hb); have n1_ := Aside0.mk (hbox); have n2_ := Aside0.mk ((by rw [hg]; exact (below_size hb_) : w.heap.size ≤ gb216)); have n3_ := Aside0.mk ((by rw [hg]; exact (below_size hb_) : w.heap.size ≤ gb216)); clear HB; have HB := n0_; have BK216 := n1_; have GW216 := n2_; have GE216 := n3_; clear n0_ n1_ n2_ n3_; clear hb hbox hg) | ((with_reducible refine gate_dst (N := 3) rfl ?_); refine box_event ?hg (N := 3) ?hd (cs := #[.string a1_0, .string a1_1, .int .i64 a1_2]) (t := 67) ?hr ?_; (case hd => rfl); (case hg => rfl); (case hr => first | (go_simp; done) | (go_simp; rfl)); intro gb217 hg w7 hbox hb; have n0_ := Aside0.mk (blk_below (g := gb216) (o := .cells #[.string a0_0, .string a0_1, .int .i64 a0_2] 67 (0, 0)) (bk_ BK216) hb); have n1_ := Aside0.mk (below_step (hg_ GE216) hb); have n2_ := Aside0.mk (hbox); have n3_ := Aside0.mk ((by rw [hg]; exact (below_size (hg_ GE216)) : w.heap.size ≤ gb217)); have n4_ := Aside0.mk ((by rw [hg]; exact (below_size (hg_ GE216)) : w.heap.size ≤ gb217)); have n5_ := Aside0.mk ((by rw [hg]; exact Nat.ne_of_lt (blk_lt (g := gb216) (o := .cells #[.string a0_0, .string a0_1, .int .i64 a0_2] 67 (0, 0)) (bk_ BK216)) : gb216 ≠ gb217)); have n6_ := Aside0.mk ((by rw [hg]; exact Nat.ne_of_gt (blk_lt (g := gb216) (o := .cells #[.string a0_0, .string a0_1, .int .i64 a0_2] 67 (0, 0)) (bk_ BK216)) : gb217 ≠ gb216)); clear BK216; clear HB; have BK216 := n0_; have HB := n1_; have BK217 := n2_; have GW217 := n3_; have GE217 := n4_; have NB216_217 := n5_; have NB217_216 := n6_; clear n0_ n1_ n2_ n3_ n4_ n5_ n6_; clear hb hbox hg; have hnb8 := NB216_217.out; have hnc8 := NB217_216.out; have hcz9_0 : w7.cell? ⟨gb216, 0, none⟩ = some (.string a0_0) := (blk_cell BK216.out 0).trans rfl; have hcz9_1 : w7.cell? ⟨gb216, 1, none⟩ = some (.string a0_1) := (blk_cell BK216.out 1).trans rfl; have hcz9_2 : w7.cell? ⟨gb216, 2, none⟩ = some (.int .i64 a0_2) := (blk_cell BK216.out 2).trans rfl; have hfz9_0 := blk_frozen BK216.out 0; have hfz9_1 := blk_frozen BK216.out 1; have hfz9_2 := blk_frozen BK216.out 2; have hcz10_0 : w7.cell? ⟨gb217, 0, none⟩ = some (.string a1_0) := (blk_cell BK217.out 0).trans rfl; have hcz10_1 : w7.cell? ⟨gb217, 1, none⟩ = some (.string a1_1) := (blk_cell BK217.out 1).trans rfl; have hcz10_2 : w7.cell? ⟨gb217, 2, none⟩ = some (.int .i64 a1_2) := (blk_cell BK217.out 2).trans rfl; have hfz10_0 := blk_frozen BK217.out 0; have hfz10_1 := blk_frozen BK217.out 1; have hfz10_2 := blk_frozen BK217.out 2))
    go_ret
    exact ⟨ew_, (hg2_ GE216 GE217)⟩
   ·rw [if_neg c5] at H
    have c5b0 : (a0_2 == a1_2) = false := beq_eq_false_iff_ne.mpr c5
    have c5b1 : (a0_2 != a1_2) = true := bne_iff_ne.mpr c5
    obtain rfl := Option.some.inj H
    go_enter Tryd.func79, Tryd.ntmps79
    go_wp2_with (first | ((with_reducible refine gate_dst (N := 2) rfl ?_); refine box_event ?hg (N := 2) ?hd (cs := #[.string a0_0, .string a0_1, .int .i64 a0_2]) (t := 67) ?hr ?_; (case hd => rfl); (case hg => rfl); (case hr => first | (go_simp; done) | (go_simp; rfl)); intro gb216 hg w11 hbox hb; have n0_ := Aside0.mk (below_step hb_ hb); have n1_ := Aside0.mk (hbox); have n2_ := Aside0.mk ((by rw [hg]; exact (below_size hb_) : w.heap.size ≤ gb216)); have n3_ := Aside0.mk ((by rw [hg]; exact (below_size hb_) : w.heap.size ≤ gb216)); clear HB; have HB := n0_; have BK216 := n1_; have GW216 := n2_; have GE216 := n3_; clear n0_ n1_ n2_ n3_; clear hb hbox hg) | ((with_reducible refine gate_dst (N := 3) rfl ?_); refine box_event ?hg (N := 3) ?hd (cs := #[.string a1_0, .string a1_1, .int .i64 a1_2]) (t := 67) ?hr ?_; (case hd => rfl); (case hg => rfl); (case hr => first | (go_simp; done) | (go_simp; rfl)); intro gb217 hg w12 hbox hb; have n0_ := Aside0.mk (blk_below (g := gb216) (o := .cells #[.string a0_0, .string a0_1, .int .i64 a0_2] 67 (0, 0)) (bk_ BK216) hb); have n1_ := Aside0.mk (below_step (hg_ GE216) hb); have n2_ := Aside0.mk (hbox); have n3_ := Aside0.mk ((by rw [hg]; exact (below_size (hg_ GE216)) : w.heap.size ≤ gb217)); have n4_ := Aside0.mk ((by rw [hg]; exact (below_size (hg_ GE216)) : w.heap.size ≤ gb217)); have n5_ := Aside0.mk ((by rw [hg]; exact Nat.ne_of_lt (blk_lt (g := gb216) (o := .cells #[.string a0_0, .string a0_1, .int .i64 a0_2] 67 (0, 0)) (bk_ BK216)) : gb216 ≠ gb217)); have n6_ := Aside0.mk ((by rw [hg]; exact Nat.ne_of_gt (blk_lt (g := gb216) (o := .cells #[.string a0_0, .string a0_1, .int .i64 a0_2] 67 (0, 0)) (bk_ BK216)) : gb217 ≠ gb216)); clear BK216; clear HB; have BK216 := n0_; have HB := n1_; have BK217 := n2_; have GW217 := n3_; have GE217 := n4_; have NB216_217 := n5_; have NB217_216 := n6_; clear n0_ n1_ n2_ n3_ n4_ n5_ n6_; clear hb hbox hg; have hnb13 := NB216_217.out; have hnc13 := NB217_216.out; have hcz14_0 : w12.cell? ⟨gb216, 0, none⟩ = some (.string a0_0) := (blk_cell BK216.out 0).trans rfl; have hcz14_1 : w12.cell? ⟨gb216, 1, none⟩ = some (.string a0_1) := (blk_cell BK216.out 1).trans rfl; have hcz14_2 : w12.cell? ⟨gb216, 2, none⟩ = some (.int .i64 a0_2) := (blk_cell BK216.out 2).trans rfl; have hfz14_0 := blk_frozen BK216.out 0; have hfz14_1 := blk_frozen BK216.out 1; have hfz14_2 := blk_frozen BK216.out 2; have hcz15_0 : w12.cell? ⟨gb217, 0, none⟩ = some (.string a1_0) := (blk_cell BK217.out 0).trans rfl; have hcz15_1 : w12.cell? ⟨gb217, 1, none⟩ = some (.string a1_1) := (blk_cell BK217.out 1).trans rfl; have hcz15_2 : w12.cell? ⟨gb217, 2, none⟩ = some (.int .i64 a1_2) := (blk_cell BK217.out 2).trans rfl; have hfz15_0 := blk_frozen BK217.out 0; have hfz15_1 := blk_frozen BK217.out 1; have hfz15_2 := blk_frozen BK217.out 2))
    go_ret
    exact ⟨ew_, (hg2_ GE216 GE217)⟩
  ·rw [if_neg c4] at H
   have c4b0 : (a0_1.toList == a1_1.toList) = false := beq_eq_false_iff_ne.mpr c4
   have c4b1 : (a0_1.toList != a1_1.toList) = true := bne_iff_ne.mpr c4
   obtain rfl := Option.some.inj H
   go_enter Tryd.func79, Tryd.ntmps79
   go_wp2_with (first | ((with_reducible refine gate_dst (N := 2) rfl ?_); refine box_event ?hg (N := 2) ?hd (cs := #[.string a0_0, .string a0_1, .int .i64 a0_2]) (t := 67) ?hr ?_; (case hd => rfl); (case hg => rfl); (case hr => first | (go_simp; done) | (go_simp; rfl)); intro gb216 hg w16 hbox hb; have n0_ := Aside0.mk (below_step hb_ hb); have n1_ := Aside0.mk (hbox); have n2_ := Aside0.mk ((by rw [hg]; exact (below_size hb_) : w.heap.size ≤ gb216)); have n3_ := Aside0.mk ((by rw [hg]; exact (below_size hb_) : w.heap.size ≤ gb216)); clear HB; have HB := n0_; have BK216 := n1_; have GW216 := n2_; have GE216 := n3_; clear n0_ n1_ n2_ n3_; clear hb hbox hg) | ((with_reducible refine gate_dst (N := 3) rfl ?_); refine box_event ?hg (N := 3) ?hd (cs := #[.string a1_0, .string a1_1, .int .i64 a1_2]) (t := 67) ?hr ?_; (case hd => rfl); (case hg => rfl); (case hr => first | (go_simp; done) | (go_simp; rfl)); intro gb217 hg w17 hbox hb; have n0_ := Aside0.mk (blk_below (g := gb216) (o := .cells #[.string a0_0, .string a0_1, .int .i64 a0_2] 67 (0, 0)) (bk_ BK216) hb); have n1_ := Aside0.mk (below_step (hg_ GE216) hb); have n2_ := Aside0.mk (hbox); have n3_ := Aside0.mk ((by rw [hg]; exact (below_size (hg_ GE216)) : w.heap.size ≤ gb217)); have n4_ := Aside0.mk ((by rw [hg]; exact (below_size (hg_ GE216)) : w.heap.size ≤ gb217)); have n5_ := Aside0.mk ((by rw [hg]; exact Nat.ne_of_lt (blk_lt (g := gb216) (o := .cells #[.string a0_0, .string a0_1, .int .i64 a0_2] 67 (0, 0)) (bk_ BK216)) : gb216 ≠ gb217)); have n6_ := Aside0.mk ((by rw [hg]; exact Nat.ne_of_gt (blk_lt (g := gb216) (o := .cells #[.string a0_0, .string a0_1, .int .i64 a0_2] 67 (0, 0)) (bk_ BK216)) : gb217 ≠ gb216)); clear BK216; clear HB; have BK216 := n0_; have HB := n1_; have BK217 := n2_; have GW217 := n3_; have GE217 := n4_; have NB216_217 := n5_; have NB217_216 := n6_; clear n0_ n1_ n2_ n3_ n4_ n5_ n6_; clear hb hbox hg; have hnb18 := NB216_217.out; have hnc18 := NB217_216.out; have hcz19_0 : w17.cell? ⟨gb216, 0, none⟩ = some (.string a0_0) := (blk_cell BK216.out 0).trans rfl; have hcz19_1 : w17.cell? ⟨gb216, 1, none⟩ = some (.string a0_1) := (blk_cell BK216.out 1).trans rfl; have hcz19_2 : w17.cell? ⟨gb216, 2, none⟩ = some (.int .i64 a0_2) := (blk_cell BK216.out 2).trans rfl; have hfz19_0 := blk_frozen BK216.out 0; have hfz19_1 := blk_frozen BK216.out 1; have hfz19_2 := blk_frozen BK216.out 2; have hcz20_0 : w17.cell? ⟨gb217, 0, none⟩ = some (.string a1_0) := (blk_cell BK217.out 0).trans rfl; have hcz20_1 : w17.cell? ⟨gb217, 1, none⟩ = some (.string a1_1) := (blk_cell BK217.out 1).trans rfl; have hcz20_2 : w17.cell? ⟨gb217, 2, none⟩ = some (.int .i64 a1_2) := (blk_cell BK217.out 2).trans rfl; have hfz20_0 := blk_frozen BK217.out 0; have hfz20_1 := blk_frozen BK217.out 1; have hfz20_2 := blk_frozen BK217.out 2))
   go_ret
   exact ⟨ew_, (hg2_ GE216 GE217)⟩
 ·rw [if_neg c3] at H
  have c3b0 : (a0_0.toList == a1_0.toList) = false := beq_eq_false_iff_ne.mpr c3
  have c3b1 : (a0_0.toList != a1_0.toList) = true := bne_iff_ne.mpr c3
  obtain rfl := Option.some.inj H
  go_enter Tryd.func79, Tryd.ntmps79
  go_wp2_with (first | ((with_reducible refine gate_dst (N := 2) rfl ?_); refine box_event ?hg (N := 2) ?hd (cs := #[.string a0_0, .string a0_1, .int .i64 a0_2]) (t := 67) ?hr ?_; (case hd => rfl); (case hg => rfl); (case hr => first | (go_simp; done) | (go_simp; rfl)); intro gb216 hg w21 hbox hb; have n0_ := Aside0.mk (below_step hb_ hb); have n1_ := Aside0.mk (hbox); have n2_ := Aside0.mk ((by rw [hg]; exact (below_size hb_) : w.heap.size ≤ gb216)); have n3_ := Aside0.mk ((by rw [hg]; exact (below_size hb_) : w.heap.size ≤ gb216)); clear HB; have HB := n0_; have BK216 := n1_; have GW216 := n2_; have GE216 := n3_; clear n0_ n1_ n2_ n3_; clear hb hbox hg) | ((with_reducible refine gate_dst (N := 3) rfl ?_); refine box_event ?hg (N := 3) ?hd (cs := #[.string a1_0, .string a1_1, .int .i64 a1_2]) (t := 67) ?hr ?_; (case hd => rfl); (case hg => rfl); (case hr => first | (go_simp; done) | (go_simp; rfl)); intro gb217 hg w22 hbox hb; have n0_ := Aside0.mk (blk_below (g := gb216) (o := .cells #[.string a0_0, .string a0_1, .int .i64 a0_2] 67 (0, 0)) (bk_ BK216) hb); have n1_ := Aside0.mk (below_step (hg_ GE216) hb); have n2_ := Aside0.mk (hbox); have n3_ := Aside0.mk ((by rw [hg]; exact (below_size (hg_ GE216)) : w.heap.size ≤ gb217)); have n4_ := Aside0.mk ((by rw [hg]; exact (below_size (hg_ GE216)) : w.heap.size ≤ gb217)); have n5_ := Aside0.mk ((by rw [hg]; exact Nat.ne_of_lt (blk_lt (g := gb216) (o := .cells #[.string a0_0, .string a0_1, .int .i64 a0_2] 67 (0, 0)) (bk_ BK216)) : gb216 ≠ gb217)); have n6_ := Aside0.mk ((by rw [hg]; exact Nat.ne_of_gt (blk_lt (g := gb216) (o := .cells #[.string a0_0, .string a0_1, .int .i64 a0_2] 67 (0, 0)) (bk_ BK216)) : gb217 ≠ gb216)); clear BK216; clear HB; have BK216 := n0_; have HB := n1_; have BK217 := n2_; have GW217 := n3_; have GE217 := n4_; have NB216_217 := n5_; have NB217_216 := n6_; clear n0_ n1_ n2_ n3_ n4_ n5_ n6_; clear hb hbox hg; have hnb23 := NB216_217.out; have hnc23 := NB217_216.out; have hcz24_0 : w22.cell? ⟨gb216, 0, none⟩ = some (.string a0_0) := (blk_cell BK216.out 0).trans rfl; have hcz24_1 : w22.cell? ⟨gb216, 1, none⟩ = some (.string a0_1) := (blk_cell BK216.out 1).trans rfl; have hcz24_2 : w22.cell? ⟨gb216, 2, none⟩ = some (.int .i64 a0_2) := (blk_cell BK216.out 2).trans rfl; have hfz24_0 := blk_frozen BK216.out 0; have hfz24_1 := blk_frozen BK216.out 1; have hfz24_2 := blk_frozen BK216.out 2; have hcz25_0 : w22.cell? ⟨gb217, 0, none⟩ = some (.string a1_0) := (blk_cell BK217.out 0).trans rfl; have hcz25_1 : w22.cell? ⟨gb217, 1, none⟩ = some (.string a1_1) := (blk_cell BK217.out 1).trans rfl; have hcz25_2 : w22.cell? ⟨gb217, 2, none⟩ = some (.int .i64 a1_2) := (blk_cell BK217.out 2).trans rfl; have hfz25_0 := blk_frozen BK217.out 0; have hfz25_1 := blk_frozen BK217.out 1; have hfz25_2 := blk_frozen BK217.out 2))
  go_ret
  exact ⟨ew_, (hg2_ GE216 GE217)⟩

/-! ### laws_eqBelayS: function 40 -/
def laws_eqBelayS.l0 : Nat → List (S67) → List (S67) → Int → Option (Bool)
 | 0, _, _, _ => none
 | k + 1, x0, x1, x5 => if x5 < (x0.length : Int) then (if 0 ≤ x5 then (if x5 < (x1.length : Int) then ((laws_eqBelay.f ((rd_T67 x0 x5).f0) ((rd_T67 x0 x5).f1) ((rd_T67 x0 x5).f2) ((rd_T67 x1 x5).f0) ((rd_T67 x1 x5).f1) ((rd_T67 x1 x5).f2)).bind fun t220 => (if t220 = true then (laws_eqBelayS.l0 k x0 x1 (wrap64 (x5 + 1))) else (some false))) else (none)) else (none)) else (some true)
def laws_eqBelayS.f (k : Nat) (l0 : List (S67)) (l1 : List (S67)) : Option (Bool) := if (l0.length : Int) = (l1.length : Int) then (laws_eqBelayS.l0 k l0 l1 0) else (some false)
def laws_eqBelayS.T6 : Bool × List (List Nat × List Nat) := (true, [([], []), ([], []), ([0, 1], [0, 1]), ([2], [2]), ([], []), ([], []), ([4, 5], [4, 5]), ([6], [6]), ([3, 7], [3, 7]), ([8], [8])])
def laws_eqBelayS.B6 : List Nat := [0, 0, 3, 7, 0, 0, 48, 112, 255, 511]
theorem laws_eqBelayS.tab6 : rtab .any (opsOf Tryd.f40 6) = laws_eqBelayS.T6 := by kernel_rfl
theorem laws_eqBelayS.bits6 : waitsOk laws_eqBelayS.T6.2 laws_eqBelayS.B6 = true := by kernel_rfl
set_option maxHeartbeats 8000000 in
set_option maxRecDepth 100000 in
theorem laws_eqBelayS.calls (k : Nat) (A0 : Option Addr) (c0 : Nat) (l0 : List (S67)) (A1 : Option Addr) (c1 : Nat) (l1 : List (S67)) (r : Bool) (w : World) (hr0 : Kd.C k67 w A0 l0.length l0) (hc0 : l0.length ≤ c0) (hr1 : Kd.C k67 w A1 l1.length l1) (hc1 : l1.length ≤ c1) (h : laws_eqBelayS.f k l0 l1 = some r) :
  Calls Tryd.prog 40 #[.slice A0 l0.length c0, .slice A1 l1.length c1] w fun e w' => e = .returned (.bool r) ∧ Below w.heap.size w w' := by
 have hu67 := Tryd.underlying67
 have HR0 := Aside0.mk hr0
 have HC0 := Aside0.mk hc0
 clear hr0 hc0
 have HR1 := Aside0.mk hr1
 have HC1 := Aside0.mk hc1
 clear hr1 hc1
 have HB := Aside0.mk (Below.refl w.heap.size w)
 have H : (if (l0.length : Int) = (l1.length : Int) then (laws_eqBelayS.l0 k l0 l1 0) else (some false)) = some r := h
 clear h
 by_cases c3 : (l0.length : Int) = (l1.length : Int)
 ·rw [if_pos c3] at H
  have c3b0 : ((l0.length : Int) == (l1.length : Int)) = true := beq_iff_eq.mpr c3
  have c3b1 : ((l0.length : Int) != (l1.length : Int)) = false := bne_eq_false_iff_eq.mpr c3
  have c3b2 : (l0.length == l1.length) = true := by first | simpa using c3 | (simp at c3 ⊢; omega)
  clear c3
  have H' := Aside0.mk H
  clear H
  go_enter Tryd.func40, Tryd.ntmps40
  go_wp2
  go_loopg [5] k (fun kq v5 w' => ∃ (x5_1 : Int), v5 = .int .i64 x5_1 ∧ Aside0 (laws_eqBelayS.l0 kq l0 l1 x5_1 = some r) ∧ Aside0 (kq ≤ k) ∧ Aside0 (Below w.heap.size w w'))
  case atStart => exact ⟨(0), (by first | rfl | (simp; done) | (simp [*]; done)), H', ⟨Nat.le_refl _⟩, ⟨hb_⟩⟩
  case round =>
   clear H'
   try clear c1
   try clear p2
   try clear c3
   try clear c3b0
   try clear c3b1
   try clear c3b2
   obtain ⟨x5_1, rfl, HA, HK1, HB⟩ := hrel
   cases gk with
   | zero => exact absurd HA.out (by simp [laws_eqBelayS.l0])
   | succ k1 =>
    have H := HA.out
    clear HA
    simp only [laws_eqBelayS.l0] at H
    by_cases c4 : x5_1 < (l0.length : Int)
    ·rw [if_pos c4] at H
     have c4b0 : decide (x5_1 < (l0.length : Int)) = true := decide_eq_true c4
     clear c4
     by_cases c5 : 0 ≤ x5_1
     ·rw [if_pos c5] at H
      have c5b0 : decide (0 ≤ x5_1) = true := decide_eq_true c5
      clear c5
      by_cases c6 : x5_1 < (l1.length : Int)
      ·rw [if_pos c6] at H
       have c6b0 : decide (x5_1 < (l1.length : Int)) = true := decide_eq_true c6
       clear c6
       replace H := Option.bind_eq_some_iff.mp H
       obtain ⟨t220, A70, H⟩ := H
       replace H : (if t220 = true then (laws_eqBelayS.l0 k1 l0 l1 (wrap64 (x5_1 + 1))) else (some false)) = some r := H
       have A7 := Aside0.mk A70
       clear A70
       by_cases c8 : t220 = true
       ·subst c8
        have H1 : (laws_eqBelayS.l0 k1 l0 l1 (wrap64 (x5_1 + 1))) = some r := by rw [if_pos rfl] at H; exact H
        clear H
        have H := H1
        clear H1
        have H' := Aside0.mk H
        clear H
        try go_wp2
        have n0_ := Aside0.mk (below_drew1 HB.out)
        clear HB
        have HB := n0_
        clear n0_
        have p218 : 0 ≤ (x5_1 : Int) := od_
        have q218 : x5_1 < (l0.length : Int) := od_
        obtain ⟨ad218, e218, hx218_0, hx218_1, hx218_2⟩ := at_T67 HR0.out x5_1 p218 q218
        have hw218_2 := hx218_2
        have hw218_1 := hx218_1
        have hw218_0 := hx218_0
        cases e218
        replace hx218_0 := cq_ HB hx218_0
        replace hx218_1 := cq_ HB hx218_1
        replace hx218_2 := cq_ HB hx218_2
        replace p218 := eq_true p218
        replace q218 := eq_true q218
        have p219 : 0 ≤ (x5_1 : Int) := od_
        have q219 : x5_1 < (l1.length : Int) := od_
        obtain ⟨ad219, e219, hx219_0, hx219_1, hx219_2⟩ := at_T67 HR1.out x5_1 p219 q219
        have hw219_2 := hx219_2
        have hw219_1 := hx219_1
        have hw219_0 := hx219_0
        cases e219
        replace hx219_0 := cq_ HB hx219_0
        replace hx219_1 := cq_ HB hx219_1
        replace hx219_2 := cq_ HB hx219_2
        replace p219 := eq_true p219
        replace q219 := eq_true q219
        refine start_ (n := 10) (S := fun w' => w'.cell? (ad218.add ((x5_1).toNat * 3)) = some (.string ((rd_T67 l0 x5_1).f0)) ∧ w'.cell? ⟨(ad218.add ((x5_1).toNat * 3)).block, (ad218.add ((x5_1).toNat * 3)).off + 1, none⟩ = some (.string ((rd_T67 l0 x5_1).f1)) ∧ w'.cell? ⟨(ad218.add ((x5_1).toNat * 3)).block, (ad218.add ((x5_1).toNat * 3)).off + 2, none⟩ = some (.int .i64 ((rd_T67 l0 x5_1).f2)) ∧ w'.cell? (ad219.add ((x5_1).toNat * 3)) = some (.string ((rd_T67 l1 x5_1).f0)) ∧ w'.cell? ⟨(ad219.add ((x5_1).toNat * 3)).block, (ad219.add ((x5_1).toNat * 3)).off + 1, none⟩ = some (.string ((rd_T67 l1 x5_1).f1)) ∧ w'.cell? ⟨(ad219.add ((x5_1).toNat * 3)).block, (ad219.add ((x5_1).toNat * 3)).off + 2, none⟩ = some (.int .i64 ((rd_T67 l1 x5_1).f2))) (ds := []) #[F_,F_,F_,F_,F_,F_,F_,F_,F_,F_] (by kernel_rfl) rfl rfl ⟨((HB.out.cell (World.block_lt_of_cell? w _ hw218_0)).trans hw218_0), ((HB.out.cell (World.block_lt_of_cell? w _ hw218_1)).trans hw218_1), ((HB.out.cell (World.block_lt_of_cell? w _ hw218_2)).trans hw218_2), ((HB.out.cell (World.block_lt_of_cell? w _ hw219_0)).trans hw219_0), ((HB.out.cell (World.block_lt_of_cell? w _ hw219_1)).trans hw219_1), ((HB.out.cell (World.block_lt_of_cell? w _ hw219_2)).trans hw219_2)⟩ (fun hHeld => ?_); refine with_tabW laws_eqBelayS.tab6 laws_eqBelayS.bits6 (fun HT_ HW_ => ?_)
        generalize wr.drew = w9 at HB hx218_0 hx218_1 hx218_2 hx219_0 hx219_1 hx219_2 hHeld ⊢
        refine pu (i := 0) (N := some 17) #[T_,F_,F_,F_,F_,F_,F_,F_,F_,F_] HT_ ?_
        refine pu (i := 1) (N := some 18) #[T_,T_,F_,F_,F_,F_,F_,F_,F_,F_] HT_ ?_
        refine pu (i := 2) (N := some 19) #[T_,T_,T_,F_,F_,F_,F_,F_,F_,F_] HT_ ?_
        refine pu (i := 4) (N := some 21) #[T_,T_,T_,F_,T_,F_,F_,F_,F_,F_] HT_ ?_
        refine pu (i := 5) (N := some 22) #[T_,T_,T_,F_,T_,T_,F_,F_,F_,F_] HT_ ?_
        refine pu (i := 6) (N := some 23) #[T_,T_,T_,F_,T_,T_,T_,F_,F_,F_] HT_ ?_
        refine take_ (i := 3) (N := some 20) (v := ?_) (a' := ?_) #[T_,T_,T_,T_,T_,T_,T_,F_,F_,F_] rfl rfl (take_ofW HT_.out HW_.out (by kernel_rfl)) (fun _ _ _ h => h) (Or.inl ⟨by rfl, ?_⟩) hHeld ?_ ?_
        rotate_left
        ·rintro w' ⟨s0, s1, s2, s3, s4, s5⟩
         go_simp
         with_reducible rfl
        rotate_left
        ·simp only [Act.put, sT_, s0_, sS_, i64_w, i32_w]
         rfl
        refine take_ (i := 7) (N := some 24) (v := ?_) (a' := ?_) #[T_,T_,T_,T_,T_,T_,T_,T_,F_,F_] rfl rfl (take_ofW HT_.out HW_.out (by kernel_rfl)) (fun _ _ _ h => h) (Or.inl ⟨by rfl, ?_⟩) hHeld ?_ ?_
        rotate_left
        ·rintro w' ⟨s0, s1, s2, s3, s4, s5⟩
         go_simp
         with_reducible rfl
        rotate_left
        ·simp only [Act.put, sT_, s0_, sS_, i64_w, i32_w]
         rfl
        refine one_ (i := 8) (N := some 25) #[T_,T_,T_,T_,T_,T_,T_,T_,T_,F_] rfl rfl (one_of HT_.out (by kernel_rfl)) (by decide) (fun K hK => ?_)
        refine goes_ Tryd.func79 (by kernel_rfl) rfl #[.agg #[.string ((rd_T67 l0 x5_1).f0), .string ((rd_T67 l0 x5_1).f1), .int .i64 ((rd_T67 l0 x5_1).f2)], .agg #[.string ((rd_T67 l1 x5_1).f0), .string ((rd_T67 l1 x5_1).f1), .int .i64 ((rd_T67 l1 x5_1).f2)]] (by rfl) rfl rfl ln_ ?_
        with_reducible refine (laws_eqBelay.calls ((rd_T67 l0 x5_1).f0) ((rd_T67 l0 x5_1).f1) ((rd_T67 l0 x5_1).f2) ((rd_T67 l1 x5_1).f0) ((rd_T67 l1 x5_1).f1) ((rd_T67 l1 x5_1).f2) true _ A7.out).mono ?_
        rintro e w10 ⟨rfl, hb⟩
        refine ⟨_, rfl, ?_⟩
        have n0_ := Aside0.mk (below_step hb_ hb)
        clear HB
        have HB := n0_
        clear n0_
        (try clear hb)
        (try clear hb2)
        (try clear hk)
        (try clear hi)
        refine hK.out _ _ ⟨((HB.out.cell (World.block_lt_of_cell? w _ hw218_0)).trans hw218_0), ((HB.out.cell (World.block_lt_of_cell? w _ hw218_1)).trans hw218_1), ((HB.out.cell (World.block_lt_of_cell? w _ hw218_2)).trans hw218_2), ((HB.out.cell (World.block_lt_of_cell? w _ hw219_0)).trans hw219_0), ((HB.out.cell (World.block_lt_of_cell? w _ hw219_1)).trans hw219_1), ((HB.out.cell (World.block_lt_of_cell? w _ hw219_2)).trans hw219_2)⟩ (fun hHeld => ?_)
        clear hK K
        refine norm_ (a' := ?_) ?_ ?_
        rotate_left
        ·show Act.put _ (some 25) _ = _
         simp only [Act.put, sT_, s0_, sS_, i64_w, i32_w]
         rfl
        refine pu (i := 9) (N := some 26) #[T_,T_,T_,T_,T_,T_,T_,T_,T_,T_] HT_ ?_
        refine done_ (done_of HT_.out (by kernel_rfl)) ?_
        try go_wp2
        go_roundg k1
        case measure => have := HK1.out; omega
        case rel => exact ⟨(wrap64 (x5_1 + 1)), (by first | rfl | (simp; done) | (simp [*]; done)), H', ⟨by have := HK1.out; omega⟩, ⟨hb_⟩⟩
       ·replace c8 := Bool.eq_false_iff.mpr c8
        subst c8
        have H1 : (some false) = some r := by rw [if_neg (show ¬ (false = true) by decide)] at H; exact H
        clear H
        have H := H1
        clear H1
        obtain rfl := Option.some.inj H
        try go_wp2
        have n0_ := Aside0.mk (below_drew1 HB.out)
        clear HB
        have HB := n0_
        clear n0_
        have p218 : 0 ≤ (x5_1 : Int) := od_
        have q218 : x5_1 < (l0.length : Int) := od_
        obtain ⟨ad218, e218, hx218_0, hx218_1, hx218_2⟩ := at_T67 HR0.out x5_1 p218 q218
        have hw218_2 := hx218_2
        have hw218_1 := hx218_1
        have hw218_0 := hx218_0
        cases e218
        replace hx218_0 := cq_ HB hx218_0
        replace hx218_1 := cq_ HB hx218_1
        replace hx218_2 := cq_ HB hx218_2
        replace p218 := eq_true p218
        replace q218 := eq_true q218
        have p219 : 0 ≤ (x5_1 : Int) := od_
        have q219 : x5_1 < (l1.length : Int) := od_
        obtain ⟨ad219, e219, hx219_0, hx219_1, hx219_2⟩ := at_T67 HR1.out x5_1 p219 q219
        have hw219_2 := hx219_2
        have hw219_1 := hx219_1
        have hw219_0 := hx219_0
        cases e219
        replace hx219_0 := cq_ HB hx219_0
        replace hx219_1 := cq_ HB hx219_1
        replace hx219_2 := cq_ HB hx219_2
        replace p219 := eq_true p219
        replace q219 := eq_true q219
        refine start_ (n := 10) (S := fun w' => w'.cell? (ad218.add ((x5_1).toNat * 3)) = some (.string ((rd_T67 l0 x5_1).f0)) ∧ w'.cell? ⟨(ad218.add ((x5_1).toNat * 3)).block, (ad218.add ((x5_1).toNat * 3)).off + 1, none⟩ = some (.string ((rd_T67 l0 x5_1).f1)) ∧ w'.cell? ⟨(ad218.add ((x5_1).toNat * 3)).block, (ad218.add ((x5_1).toNat * 3)).off + 2, none⟩ = some (.int .i64 ((rd_T67 l0 x5_1).f2)) ∧ w'.cell? (ad219.add ((x5_1).toNat * 3)) = some (.string ((rd_T67 l1 x5_1).f0)) ∧ w'.cell? ⟨(ad219.add ((x5_1).toNat * 3)).block, (ad219.add ((x5_1).toNat * 3)).off + 1, none⟩ = some (.string ((rd_T67 l1 x5_1).f1)) ∧ w'.cell? ⟨(ad219.add ((x5_1).toNat * 3)).block, (ad219.add ((x5_1).toNat * 3)).off + 2, none⟩ = some (.int .i64 ((rd_T67 l1 x5_1).f2))) (ds := []) #[F_,F_,F_,F_,F_,F_,F_,F_,F_,F_] (by kernel_rfl) rfl rfl ⟨((HB.out.cell (World.block_lt_of_cell? w _ hw218_0)).trans hw218_0), ((HB.out.cell (World.block_lt_of_cell? w _ hw218_1)).trans hw218_1), ((HB.out.cell (World.block_lt_of_cell? w _ hw218_2)).trans hw218_2), ((HB.out.cell (World.block_lt_of_cell? w _ hw219_0)).trans hw219_0), ((HB.out.cell (World.block_lt_of_cell? w _ hw219_1)).trans hw219_1), ((HB.out.cell (World.block_lt_of_cell? w _ hw219_2)).trans hw219_2)⟩ (fun hHeld => ?_); refine with_tabW laws_eqBelayS.tab6 laws_eqBelayS.bits6 (fun HT_ HW_ => ?_)
        generalize wr.drew = w11 at HB hx218_0 hx218_1 hx218_2 hx219_0 hx219_1 hx219_2 hHeld ⊢
        refine pu (i := 0) (N := some 17) #[T_,F_,F_,F_,F_,F_,F_,F_,F_,F_] HT_ ?_
        refine pu (i := 1) (N := some 18) #[T_,T_,F_,F_,F_,F_,F_,F_,F_,F_] HT_ ?_
        refine pu (i := 2) (N := some 19) #[T_,T_,T_,F_,F_,F_,F_,F_,F_,F_] HT_ ?_
        refine pu (i := 4) (N := some 21) #[T_,T_,T_,F_,T_,F_,F_,F_,F_,F_] HT_ ?_
        refine pu (i := 5) (N := some 22) #[T_,T_,T_,F_,T_,T_,F_,F_,F_,F_] HT_ ?_
        refine pu (i := 6) (N := some 23) #[T_,T_,T_,F_,T_,T_,T_,F_,F_,F_] HT_ ?_
        refine take_ (i := 3) (N := some 20) (v := ?_) (a' := ?_) #[T_,T_,T_,T_,T_,T_,T_,F_,F_,F_] rfl rfl (take_ofW HT_.out HW_.out (by kernel_rfl)) (fun _ _ _ h => h) (Or.inl ⟨by rfl, ?_⟩) hHeld ?_ ?_
        rotate_left
        ·rintro w' ⟨s0, s1, s2, s3, s4, s5⟩
         go_simp
         with_reducible rfl
        rotate_left
        ·simp only [Act.put, sT_, s0_, sS_, i64_w, i32_w]
         rfl
        refine take_ (i := 7) (N := some 24) (v := ?_) (a' := ?_) #[T_,T_,T_,T_,T_,T_,T_,T_,F_,F_] rfl rfl (take_ofW HT_.out HW_.out (by kernel_rfl)) (fun _ _ _ h => h) (Or.inl ⟨by rfl, ?_⟩) hHeld ?_ ?_
        rotate_left
        ·rintro w' ⟨s0, s1, s2, s3, s4, s5⟩
         go_simp
         with_reducible rfl
        rotate_left
        ·simp only [Act.put, sT_, s0_, sS_, i64_w, i32_w]
         rfl
        refine one_ (i := 8) (N := some 25) #[T_,T_,T_,T_,T_,T_,T_,T_,T_,F_] rfl rfl (one_of HT_.out (by kernel_rfl)) (by decide) (fun K hK => ?_)
        refine goes_ Tryd.func79 (by kernel_rfl) rfl #[.agg #[.string ((rd_T67 l0 x5_1).f0), .string ((rd_T67 l0 x5_1).f1), .int .i64 ((rd_T67 l0 x5_1).f2)], .agg #[.string ((rd_T67 l1 x5_1).f0), .string ((rd_T67 l1 x5_1).f1), .int .i64 ((rd_T67 l1 x5_1).f2)]] (by rfl) rfl rfl ln_ ?_
        with_reducible refine (laws_eqBelay.calls ((rd_T67 l0 x5_1).f0) ((rd_T67 l0 x5_1).f1) ((rd_T67 l0 x5_1).f2) ((rd_T67 l1 x5_1).f0) ((rd_T67 l1 x5_1).f1) ((rd_T67 l1 x5_1).f2) false _ A7.out).mono ?_
        rintro e w12 ⟨rfl, hb⟩
        refine ⟨_, rfl, ?_⟩
        have n0_ := Aside0.mk (below_step hb_ hb)
        clear HB
        have HB := n0_
        clear n0_
        (try clear hb)
        (try clear hb2)
        (try clear hk)
        (try clear hi)
        refine hK.out _ _ ⟨((HB.out.cell (World.block_lt_of_cell? w _ hw218_0)).trans hw218_0), ((HB.out.cell (World.block_lt_of_cell? w _ hw218_1)).trans hw218_1), ((HB.out.cell (World.block_lt_of_cell? w _ hw218_2)).trans hw218_2), ((HB.out.cell (World.block_lt_of_cell? w _ hw219_0)).trans hw219_0), ((HB.out.cell (World.block_lt_of_cell? w _ hw219_1)).trans hw219_1), ((HB.out.cell (World.block_lt_of_cell? w _ hw219_2)).trans hw219_2)⟩ (fun hHeld => ?_)
        clear hK K
        refine norm_ (a' := ?_) ?_ ?_
        rotate_left
        ·show Act.put _ (some 25) _ = _
         simp only [Act.put, sT_, s0_, sS_, i64_w, i32_w]
         rfl
        refine pu (i := 9) (N := some 26) #[T_,T_,T_,T_,T_,T_,T_,T_,T_,T_] HT_ ?_
        refine done_ (done_of HT_.out (by kernel_rfl)) ?_
        try go_wp2
        go_ret
        exact ⟨ew_, hb_⟩
      ·rw [if_neg c6] at H
       exact absurd H (by simp)
     ·rw [if_neg c5] at H
      exact absurd H (by simp)
    ·rw [if_neg c4] at H
     have c4b0 : decide (x5_1 < (l0.length : Int)) = false := decide_eq_false c4
     clear c4
     obtain rfl := Option.some.inj H
     go_wp2
     go_ret
     exact ⟨ew_, hb_⟩
 ·rw [if_neg c3] at H
  have c3b0 : ((l0.length : Int) == (l1.length : Int)) = false := beq_eq_false_iff_ne.mpr c3
  have c3b1 : ((l0.length : Int) != (l1.length : Int)) = true := bne_iff_ne.mpr c3
  have c3b2 : (l0.length == l1.length) = false := by first | simpa using c3 | (simp at c3 ⊢; omega)
  obtain rfl := Option.some.inj H
  go_enter Tryd.func40, Tryd.ntmps40
  go_wp2
  go_ret
  exact ⟨ew_, hb_⟩

/-! ### laws_eqRig: function 10 -/
def laws_eqRig.f (k : Nat) (l0_0 : List (S64)) (l0_1 : List ByteArray) (l0_2 : List (S67)) (l1_0 : List (S64)) (l1_1 : List ByteArray) (l1_2 : List (S67)) : Option (Bool) := (laws_eqRailS.f k l0_0 l1_0).bind fun t223 => (if t223 = true then ((laws_eqStringS.f k l0_1 l1_1).bind fun t224 => (if t224 = true then ((laws_eqBelayS.f k l0_2 l1_2).bind fun t225 => (if t225 = true then (some true) else (some false))) else (some false))) else (some false))
set_option maxHeartbeats 8000000 in
set_option maxRecDepth 100000 in
theorem laws_eqRig.calls (k : Nat) (A0_0 : Option Addr) (c0_0 : Nat) (l0_0 : List (S64)) (A0_1 : Option Addr) (c0_1 : Nat) (l0_1 : List ByteArray) (A0_2 : Option Addr) (c0_2 : Nat) (l0_2 : List (S67)) (A1_0 : Option Addr) (c1_0 : Nat) (l1_0 : List (S64)) (A1_1 : Option Addr) (c1_1 : Nat) (l1_1 : List ByteArray) (A1_2 : Option Addr) (c1_2 : Nat) (l1_2 : List (S67)) (r : Bool) (w : World) (hr0_0 : Kd.C k64 w A0_0 l0_0.length l0_0) (hc0_0 : l0_0.length ≤ c0_0) (hr0_1 : Kd.C Kd.string w A0_1 l0_1.length l0_1) (hc0_1 : l0_1.length ≤ c0_1) (hr0_2 : Kd.C k67 w A0_2 l0_2.length l0_2) (hc0_2 : l0_2.length ≤ c0_2) (hr1_0 : Kd.C k64 w A1_0 l1_0.length l1_0) (hc1_0 : l1_0.length ≤ c1_0) (hr1_1 : Kd.C Kd.string w A1_1 l1_1.length l1_1) (hc1_1 : l1_1.length ≤ c1_1) (hr1_2 : Kd.C k67 w A1_2 l1_2.length l1_2) (hc1_2 : l1_2.length ≤ c1_2) (h : laws_eqRig.f k l0_0 l0_1 l0_2 l1_0 l1_1 l1_2 = some r) :
  Calls Tryd.prog 10 #[.agg #[.slice A0_0 l0_0.length c0_0, .slice A0_1 l0_1.length c0_1, .slice A0_2 l0_2.length c0_2], .agg #[.slice A1_0 l1_0.length c1_0, .slice A1_1 l1_1.length c1_1, .slice A1_2 l1_2.length c1_2]] w fun e w' => e = .returned (.bool r) ∧ Below w.heap.size w w' := by
 have hu32 := Tryd.underlying32
 have HR0_0 := Aside0.mk hr0_0
 have HC0_0 := Aside0.mk hc0_0
 clear hr0_0 hc0_0
 have HR0_1 := Aside0.mk hr0_1
 have HC0_1 := Aside0.mk hc0_1
 clear hr0_1 hc0_1
 have HR0_2 := Aside0.mk hr0_2
 have HC0_2 := Aside0.mk hc0_2
 clear hr0_2 hc0_2
 have HR1_0 := Aside0.mk hr1_0
 have HC1_0 := Aside0.mk hc1_0
 clear hr1_0 hc1_0
 have HR1_1 := Aside0.mk hr1_1
 have HC1_1 := Aside0.mk hc1_1
 clear hr1_1 hc1_1
 have HR1_2 := Aside0.mk hr1_2
 have HC1_2 := Aside0.mk hc1_2
 clear hr1_2 hc1_2
 have HB := Aside0.mk (Below.refl w.heap.size w)
 have H : ((laws_eqRailS.f k l0_0 l1_0).bind fun t223 => (if t223 = true then ((laws_eqStringS.f k l0_1 l1_1).bind fun t224 => (if t224 = true then ((laws_eqBelayS.f k l0_2 l1_2).bind fun t225 => (if t225 = true then (some true) else (some false))) else (some false))) else (some false))) = some r := h
 clear h
 replace H := Option.bind_eq_some_iff.mp H
 obtain ⟨t223, A30, H⟩ := H
 replace H : (if t223 = true then ((laws_eqStringS.f k l0_1 l1_1).bind fun t224 => (if t224 = true then ((laws_eqBelayS.f k l0_2 l1_2).bind fun t225 => (if t225 = true then (some true) else (some false))) else (some false))) else (some false)) = some r := H
 have A3 := Aside0.mk A30
 clear A30
 by_cases c4 : t223 = true
 ·subst c4
  have H1 : ((laws_eqStringS.f k l0_1 l1_1).bind fun t224 => (if t224 = true then ((laws_eqBelayS.f k l0_2 l1_2).bind fun t225 => (if t225 = true then (some true) else (some false))) else (some false))) = some r := by rw [if_pos rfl] at H; exact H
  clear H
  have H := H1
  clear H1
  replace H := Option.bind_eq_some_iff.mp H
  obtain ⟨t224, A50, H⟩ := H
  replace H : (if t224 = true then ((laws_eqBelayS.f k l0_2 l1_2).bind fun t225 => (if t225 = true then (some true) else (some false))) else (some false)) = some r := H
  have A5 := Aside0.mk A50
  clear A50
  by_cases c6 : t224 = true
  ·subst c6
   have H1 : ((laws_eqBelayS.f k l0_2 l1_2).bind fun t225 => (if t225 = true then (some true) else (some false))) = some r := by rw [if_pos rfl] at H; exact H
   clear H
   have H := H1
   clear H1
   replace H := Option.bind_eq_some_iff.mp H
   obtain ⟨t225, A70, H⟩ := H
   replace H : (if t225 = true then (some true) else (some false)) = some r := H
   have A7 := Aside0.mk A70
   clear A70
   by_cases c8 : t225 = true
   ·subst c8
    have H1 : (some true) = some r := by rw [if_pos rfl] at H; exact H
    clear H
    have H := H1
    clear H1
    obtain rfl := Option.some.inj H
    go_enter Tryd.func10, Tryd.ntmps10
    go_wp2_with (first | ((with_reducible refine gate_dst (N := 2) rfl ?_); refine box_event ?hg (N := 2) ?hd (cs := #[.slice A0_0 l0_0.length c0_0, .slice A0_1 l0_1.length c0_1, .slice A0_2 l0_2.length c0_2]) (t := 32) ?hr ?_; (case hd => rfl); (case hg => rfl); (case hr => first | (go_simp; done) | (go_simp; rfl)); intro gb221 hg w9 hbox hb; have n0_ := Aside0.mk (below_step hb_ hb); have n1_ := Aside0.mk (hbox); have n2_ := Aside0.mk ((by rw [hg]; exact (below_size hb_) : w.heap.size ≤ gb221)); have n3_ := Aside0.mk ((by rw [hg]; exact (below_size hb_) : w.heap.size ≤ gb221)); clear HB; have HB := n0_; have BK221 := n1_; have GW221 := n2_; have GE221 := n3_; clear n0_ n1_ n2_ n3_; clear hb hbox hg) | ((with_reducible refine gate_dst (N := 3) rfl ?_); refine box_event ?hg (N := 3) ?hd (cs := #[.slice A1_0 l1_0.length c1_0, .slice A1_1 l1_1.length c1_1, .slice A1_2 l1_2.length c1_2]) (t := 32) ?hr ?_; (case hd => rfl); (case hg => rfl); (case hr => first | (go_simp; done) | (go_simp; rfl)); intro gb222 hg w10 hbox hb; have n0_ := Aside0.mk (blk_below (g := gb221) (o := .cells #[.slice A0_0 l0_0.length c0_0, .slice A0_1 l0_1.length c0_1, .slice A0_2 l0_2.length c0_2] 32 (0, 0)) (bk_ BK221) hb); have n1_ := Aside0.mk (below_step (hg_ GE221) hb); have n2_ := Aside0.mk (hbox); have n3_ := Aside0.mk ((by rw [hg]; exact (below_size (hg_ GE221)) : w.heap.size ≤ gb222)); have n4_ := Aside0.mk ((by rw [hg]; exact (below_size (hg_ GE221)) : w.heap.size ≤ gb222)); have n5_ := Aside0.mk ((by rw [hg]; exact Nat.ne_of_lt (blk_lt (g := gb221) (o := .cells #[.slice A0_0 l0_0.length c0_0, .slice A0_1 l0_1.length c0_1, .slice A0_2 l0_2.length c0_2] 32 (0, 0)) (bk_ BK221)) : gb221 ≠ gb222)); have n6_ := Aside0.mk ((by rw [hg]; exact Nat.ne_of_gt (blk_lt (g := gb221) (o := .cells #[.slice A0_0 l0_0.length c0_0, .slice A0_1 l0_1.length c0_1, .slice A0_2 l0_2.length c0_2] 32 (0, 0)) (bk_ BK221)) : gb222 ≠ gb221)); clear BK221; clear HB; have BK221 := n0_; have HB := n1_; have BK222 := n2_; have GW222 := n3_; have GE222 := n4_; have NB221_222 := n5_; have NB222_221 := n6_; clear n0_ n1_ n2_ n3_ n4_ n5_ n6_; clear hb hbox hg; have hnb11 := NB221_222.out; have hnc11 := NB222_221.out; have hcz12_0 : w10.cell? ⟨gb221, 0, none⟩ = some (.slice A0_0 l0_0.length c0_0) := (blk_cell BK221.out 0).trans rfl; have hcz12_1 : w10.cell? ⟨gb221, 1, none⟩ = some (.slice A0_1 l0_1.length c0_1) := (blk_cell BK221.out 1).trans rfl; have hcz12_2 : w10.cell? ⟨gb221, 2, none⟩ = some (.slice A0_2 l0_2.length c0_2) := (blk_cell BK221.out 2).trans rfl; have hfz12_0 := blk_frozen BK221.out 0; have hfz12_1 := blk_frozen BK221.out 1; have hfz12_2 := blk_frozen BK221.out 2; have hcz13_0 : w10.cell? ⟨gb222, 0, none⟩ = some (.slice A1_0 l1_0.length c1_0) := (blk_cell BK222.out 0).trans rfl; have hcz13_1 : w10.cell? ⟨gb222, 1, none⟩ = some (.slice A1_1 l1_1.length c1_1) := (blk_cell BK222.out 1).trans rfl; have hcz13_2 : w10.cell? ⟨gb222, 2, none⟩ = some (.slice A1_2 l1_2.length c1_2) := (blk_cell BK222.out 2).trans rfl; have hfz13_0 := blk_frozen BK222.out 0; have hfz13_1 := blk_frozen BK222.out 1; have hfz13_2 := blk_frozen BK222.out 2) | ((with_reducible refine gate_callee (f := 38) rfl ?_); refine goesL_ (some 9) rfl rfl Tryd.func38 (by kernel_rfl) rfl #[.slice A0_0 l0_0.length c0_0, .slice A1_0 l1_0.length c1_0] rfl ln_ ?_; (with_reducible refine (laws_eqRailS.calls k _ _ l0_0 _ _ l1_0 true _ ?side1 ?side2 ?side3 ?side4 A3.out).mono ?_); (case side1 => exact kc_ (Kd.C_below HR0_0.out HB.out)); (case side2 => exact HC0_0.out); (case side3 => exact kc_ (Kd.C_below HR1_0.out HB.out)); (case side4 => exact HC1_0.out); rintro e w14 ⟨rfl, hb⟩; refine ⟨_, rfl, ?_⟩; have n0_ := Aside0.mk (blk_below (g := gb221) (o := .cells #[.slice A0_0 l0_0.length c0_0, .slice A0_1 l0_1.length c0_1, .slice A0_2 l0_2.length c0_2] 32 (0, 0)) (bk_ BK221) hb); have n1_ := Aside0.mk (blk_below (g := gb222) (o := .cells #[.slice A1_0 l1_0.length c1_0, .slice A1_1 l1_1.length c1_1, .slice A1_2 l1_2.length c1_2] 32 (0, 0)) (bk_ BK222) hb); have n2_ := Aside0.mk (below_step (hg2_ GE221 GE222) hb); clear BK221; clear BK222; clear HB; have BK221 := n0_; have BK222 := n1_; have HB := n2_; clear n0_ n1_ n2_; (try clear hb); (try clear hb2); (try clear hk); (try clear hi); have hcz15_0 : w14.cell? ⟨gb221, 0, none⟩ = some (.slice A0_0 l0_0.length c0_0) := (blk_cell BK221.out 0).trans rfl; have hcz15_1 : w14.cell? ⟨gb221, 1, none⟩ = some (.slice A0_1 l0_1.length c0_1) := (blk_cell BK221.out 1).trans rfl; have hcz15_2 : w14.cell? ⟨gb221, 2, none⟩ = some (.slice A0_2 l0_2.length c0_2) := (blk_cell BK221.out 2).trans rfl; have hfz15_0 := blk_frozen BK221.out 0; have hfz15_1 := blk_frozen BK221.out 1; have hfz15_2 := blk_frozen BK221.out 2; have hcz16_0 : w14.cell? ⟨gb222, 0, none⟩ = some (.slice A1_0 l1_0.length c1_0) := (blk_cell BK222.out 0).trans rfl; have hcz16_1 : w14.cell? ⟨gb222, 1, none⟩ = some (.slice A1_1 l1_1.length c1_1) := (blk_cell BK222.out 1).trans rfl; have hcz16_2 : w14.cell? ⟨gb222, 2, none⟩ = some (.slice A1_2 l1_2.length c1_2) := (blk_cell BK222.out 2).trans rfl; have hfz16_0 := blk_frozen BK222.out 0; have hfz16_1 := blk_frozen BK222.out 1; have hfz16_2 := blk_frozen BK222.out 2) | ((with_reducible refine gate_callee (f := 39) rfl ?_); refine goesL_ (some 15) rfl rfl Tryd.func39 (by kernel_rfl) rfl #[.slice A0_1 l0_1.length c0_1, .slice A1_1 l1_1.length c1_1] rfl ln_ ?_; (with_reducible refine (laws_eqStringS.calls k _ _ l0_1 _ _ l1_1 true _ ?side1 ?side2 ?side3 ?side4 A5.out).mono ?_); (case side1 => exact kc_ (Kd.C_below HR0_1.out HB.out)); (case side2 => exact HC0_1.out); (case side3 => exact kc_ (Kd.C_below HR1_1.out HB.out)); (case side4 => exact HC1_1.out); rintro e w' ⟨rfl, ⟨nd, rfl⟩⟩; refine ⟨_, rfl, ?_⟩) | ((with_reducible refine gate_callee (f := 40) rfl ?_); refine goesL_ (some 21) rfl rfl Tryd.func40 (by kernel_rfl) rfl #[.slice A0_2 l0_2.length c0_2, .slice A1_2 l1_2.length c1_2] rfl ln_ ?_; (with_reducible refine (laws_eqBelayS.calls k _ _ l0_2 _ _ l1_2 true _ ?side1 ?side2 ?side3 ?side4 A7.out).mono ?_); (case side1 => repeat (first | exact (Kd.C_below HR0_2.out (hg2_ GE221 GE222)) | (with_reducible refine Kd.C_alloc ?_ _) | (with_reducible refine Kd.C_drewN ?_ _) | (with_reducible refine Kd.C_drew ?_))); (case side2 => exact HC0_2.out); (case side3 => repeat (first | exact (Kd.C_below HR1_2.out (hg2_ GE221 GE222)) | (with_reducible refine Kd.C_alloc ?_ _) | (with_reducible refine Kd.C_drewN ?_ _) | (with_reducible refine Kd.C_drew ?_))); (case side4 => exact HC1_2.out); rintro e w17 ⟨rfl, hb⟩; refine ⟨_, rfl, ?_⟩; have n0_ := Aside0.mk (blk_below (g := gb221) (o := .cells #[.slice A0_0 l0_0.length c0_0, .slice A0_1 l0_1.length c0_1, .slice A0_2 l0_2.length c0_2] 32 (0, 0)) (bk_ BK221) hb); have n1_ := Aside0.mk (blk_below (g := gb222) (o := .cells #[.slice A1_0 l1_0.length c1_0, .slice A1_1 l1_1.length c1_1, .slice A1_2 l1_2.length c1_2] 32 (0, 0)) (bk_ BK222) hb); have n2_ := Aside0.mk (below_step (hg2_ GE221 GE222) hb); clear BK221; clear BK222; clear HB; have BK221 := n0_; have BK222 := n1_; have HB := n2_; clear n0_ n1_ n2_; (try clear hb); (try clear hb2); (try clear hk); (try clear hi)))
    go_ret
    exact ⟨ew_, (hg2_ GE221 GE222)⟩
   ·replace c8 := Bool.eq_false_iff.mpr c8
    subst c8
    have H1 : (some false) = some r := by rw [if_neg (show ¬ (false = true) by decide)] at H; exact H
    clear H
    have H := H1
    clear H1
    obtain rfl := Option.some.inj H
    go_enter Tryd.func10, Tryd.ntmps10
    go_wp2_with (first | ((with_reducible refine gate_dst (N := 2) rfl ?_); refine box_event ?hg (N := 2) ?hd (cs := #[.slice A0_0 l0_0.length c0_0, .slice A0_1 l0_1.length c0_1, .slice A0_2 l0_2.length c0_2]) (t := 32) ?hr ?_; (case hd => rfl); (case hg => rfl); (case hr => first | (go_simp; done) | (go_simp; rfl)); intro gb221 hg w18 hbox hb; have n0_ := Aside0.mk (below_step hb_ hb); have n1_ := Aside0.mk (hbox); have n2_ := Aside0.mk ((by rw [hg]; exact (below_size hb_) : w.heap.size ≤ gb221)); have n3_ := Aside0.mk ((by rw [hg]; exact (below_size hb_) : w.heap.size ≤ gb221)); clear HB; have HB := n0_; have BK221 := n1_; have GW221 := n2_; have GE221 := n3_; clear n0_ n1_ n2_ n3_; clear hb hbox hg) | ((with_reducible refine gate_dst (N := 3) rfl ?_); refine box_event ?hg (N := 3) ?hd (cs := #[.slice A1_0 l1_0.length c1_0, .slice A1_1 l1_1.length c1_1, .slice A1_2 l1_2.length c1_2]) (t := 32) ?hr ?_; (case hd => rfl); (case hg => rfl); (case hr => first | (go_simp; done) | (go_simp; rfl)); intro gb222 hg w19 hbox hb; have n0_ := Aside0.mk (blk_below (g := gb221) (o := .cells #[.slice A0_0 l0_0.length c0_0, .slice A0_1 l0_1.length c0_1, .slice A0_2 l0_2.length c0_2] 32 (0, 0)) (bk_ BK221) hb); have n1_ := Aside0.mk (below_step (hg_ GE221) hb); have n2_ := Aside0.mk (hbox); have n3_ := Aside0.mk ((by rw [hg]; exact (below_size (hg_ GE221)) : w.heap.size ≤ gb222)); have n4_ := Aside0.mk ((by rw [hg]; exact (below_size (hg_ GE221)) : w.heap.size ≤ gb222)); have n5_ := Aside0.mk ((by rw [hg]; exact Nat.ne_of_lt (blk_lt (g := gb221) (o := .cells #[.slice A0_0 l0_0.length c0_0, .slice A0_1 l0_1.length c0_1, .slice A0_2 l0_2.length c0_2] 32 (0, 0)) (bk_ BK221)) : gb221 ≠ gb222)); have n6_ := Aside0.mk ((by rw [hg]; exact Nat.ne_of_gt (blk_lt (g := gb221) (o := .cells #[.slice A0_0 l0_0.length c0_0, .slice A0_1 l0_1.length c0_1, .slice A0_2 l0_2.length c0_2] 32 (0, 0)) (bk_ BK221)) : gb222 ≠ gb221)); clear BK221; clear HB; have BK221 := n0_; have HB := n1_; have BK222 := n2_; have GW222 := n3_; have GE222 := n4_; have NB221_222 := n5_; have NB222_221 := n6_; clear n0_ n1_ n2_ n3_ n4_ n5_ n6_; clear hb hbox hg; have hnb20 := NB221_222.out; have hnc20 := NB222_221.out; have hcz21_0 : w19.cell? ⟨gb221, 0, none⟩ = some (.slice A0_0 l0_0.length c0_0) := (blk_cell BK221.out 0).trans rfl; have hcz21_1 : w19.cell? ⟨gb221, 1, none⟩ = some (.slice A0_1 l0_1.length c0_1) := (blk_cell BK221.out 1).trans rfl; have hcz21_2 : w19.cell? ⟨gb221, 2, none⟩ = some (.slice A0_2 l0_2.length c0_2) := (blk_cell BK221.out 2).trans rfl; have hfz21_0 := blk_frozen BK221.out 0; have hfz21_1 := blk_frozen BK221.out 1; have hfz21_2 := blk_frozen BK221.out 2; have hcz22_0 : w19.cell? ⟨gb222, 0, none⟩ = some (.slice A1_0 l1_0.length c1_0) := (blk_cell BK222.out 0).trans rfl; have hcz22_1 : w19.cell? ⟨gb222, 1, none⟩ = some (.slice A1_1 l1_1.length c1_1) := (blk_cell BK222.out 1).trans rfl; have hcz22_2 : w19.cell? ⟨gb222, 2, none⟩ = some (.slice A1_2 l1_2.length c1_2) := (blk_cell BK222.out 2).trans rfl; have hfz22_0 := blk_frozen BK222.out 0; have hfz22_1 := blk_frozen BK222.out 1; have hfz22_2 := blk_frozen BK222.out 2) | ((with_reducible refine gate_callee (f := 38) rfl ?_); refine goesL_ (some 9) rfl rfl Tryd.func38 (by kernel_rfl) rfl #[.slice A0_0 l0_0.length c0_0, .slice A1_0 l1_0.length c1_0] rfl ln_ ?_; (with_reducible refine (laws_eqRailS.calls k _ _ l0_0 _ _ l1_0 true _ ?side1 ?side2 ?side3 ?side4 A3.out).mono ?_); (case side1 => exact kc_ (Kd.C_below HR0_0.out HB.out)); (case side2 => exact HC0_0.out); (case side3 => exact kc_ (Kd.C_below HR1_0.out HB.out)); (case side4 => exact HC1_0.out); rintro e w23 ⟨rfl, hb⟩; refine ⟨_, rfl, ?_⟩; have n0_ := Aside0.mk (blk_below (g := gb221) (o := .cells #[.slice A0_0 l0_0.length c0_0, .slice A0_1 l0_1.length c0_1, .slice A0_2 l0_2.length c0_2] 32 (0, 0)) (bk_ BK221) hb); have n1_ := Aside0.mk (blk_below (g := gb222) (o := .cells #[.slice A1_0 l1_0.length c1_0, .slice A1_1 l1_1.length c1_1, .slice A1_2 l1_2.length c1_2] 32 (0, 0)) (bk_ BK222) hb); have n2_ := Aside0.mk (below_step (hg2_ GE221 GE222) hb); clear BK221; clear BK222; clear HB; have BK221 := n0_; have BK222 := n1_; have HB := n2_; clear n0_ n1_ n2_; (try clear hb); (try clear hb2); (try clear hk); (try clear hi); have hcz24_0 : w23.cell? ⟨gb221, 0, none⟩ = some (.slice A0_0 l0_0.length c0_0) := (blk_cell BK221.out 0).trans rfl; have hcz24_1 : w23.cell? ⟨gb221, 1, none⟩ = some (.slice A0_1 l0_1.length c0_1) := (blk_cell BK221.out 1).trans rfl; have hcz24_2 : w23.cell? ⟨gb221, 2, none⟩ = some (.slice A0_2 l0_2.length c0_2) := (blk_cell BK221.out 2).trans rfl; have hfz24_0 := blk_frozen BK221.out 0; have hfz24_1 := blk_frozen BK221.out 1; have hfz24_2 := blk_frozen BK221.out 2; have hcz25_0 : w23.cell? ⟨gb222, 0, none⟩ = some (.slice A1_0 l1_0.length c1_0) := (blk_cell BK222.out 0).trans rfl; have hcz25_1 : w23.cell? ⟨gb222, 1, none⟩ = some (.slice A1_1 l1_1.length c1_1) := (blk_cell BK222.out 1).trans rfl; have hcz25_2 : w23.cell? ⟨gb222, 2, none⟩ = some (.slice A1_2 l1_2.length c1_2) := (blk_cell BK222.out 2).trans rfl; have hfz25_0 := blk_frozen BK222.out 0; have hfz25_1 := blk_frozen BK222.out 1; have hfz25_2 := blk_frozen BK222.out 2) | ((with_reducible refine gate_callee (f := 39) rfl ?_); refine goesL_ (some 15) rfl rfl Tryd.func39 (by kernel_rfl) rfl #[.slice A0_1 l0_1.length c0_1, .slice A1_1 l1_1.length c1_1] rfl ln_ ?_; (with_reducible refine (laws_eqStringS.calls k _ _ l0_1 _ _ l1_1 true _ ?side1 ?side2 ?side3 ?side4 A5.out).mono ?_); (case side1 => exact kc_ (Kd.C_below HR0_1.out HB.out)); (case side2 => exact HC0_1.out); (case side3 => exact kc_ (Kd.C_below HR1_1.out HB.out)); (case side4 => exact HC1_1.out); rintro e w' ⟨rfl, ⟨nd, rfl⟩⟩; refine ⟨_, rfl, ?_⟩) | ((with_reducible refine gate_callee (f := 40) rfl ?_); refine goesL_ (some 21) rfl rfl Tryd.func40 (by kernel_rfl) rfl #[.slice A0_2 l0_2.length c0_2, .slice A1_2 l1_2.length c1_2] rfl ln_ ?_; (with_reducible refine (laws_eqBelayS.calls k _ _ l0_2 _ _ l1_2 false _ ?side1 ?side2 ?side3 ?side4 A7.out).mono ?_); (case side1 => repeat (first | exact (Kd.C_below HR0_2.out (hg2_ GE221 GE222)) | (with_reducible refine Kd.C_alloc ?_ _) | (with_reducible refine Kd.C_drewN ?_ _) | (with_reducible refine Kd.C_drew ?_))); (case side2 => exact HC0_2.out); (case side3 => repeat (first | exact (Kd.C_below HR1_2.out (hg2_ GE221 GE222)) | (with_reducible refine Kd.C_alloc ?_ _) | (with_reducible refine Kd.C_drewN ?_ _) | (with_reducible refine Kd.C_drew ?_))); (case side4 => exact HC1_2.out); rintro e w26 ⟨rfl, hb⟩; refine ⟨_, rfl, ?_⟩; have n0_ := Aside0.mk (blk_below (g := gb221) (o := .cells #[.slice A0_0 l0_0.length c0_0, .slice A0_1 l0_1.length c0_1, .slice A0_2 l0_2.length c0_2] 32 (0, 0)) (bk_ BK221) hb); have n1_ := Aside0.mk (blk_below (g := gb222) (o := .cells #[.slice A1_0 l1_0.length c1_0, .slice A1_1 l1_1.length c1_1, .slice A1_2 l1_2.length c1_2] 32 (0, 0)) (bk_ BK222) hb); have n2_ := Aside0.mk (below_step (hg2_ GE221 GE222) hb); clear BK221; clear BK222; clear HB; have BK221 := n0_; have BK222 := n1_; have HB := n2_; clear n0_ n1_ n2_; (try clear hb); (try clear hb2); (try clear hk); (try clear hi)))
    go_ret
    exact ⟨ew_, (hg2_ GE221 GE222)⟩
  ·replace c6 := Bool.eq_false_iff.mpr c6
   subst c6
   have H1 : (some false) = some r := by rw [if_neg (show ¬ (false = true) by decide)] at H; exact H
   clear H
   have H := H1
   clear H1
   obtain rfl := Option.some.inj H
   go_enter Tryd.func10, Tryd.ntmps10
   go_wp2_with (first | ((with_reducible refine gate_dst (N := 2) rfl ?_); refine box_event ?hg (N := 2) ?hd (cs := #[.slice A0_0 l0_0.length c0_0, .slice A0_1 l0_1.length c0_1, .slice A0_2 l0_2.length c0_2]) (t := 32) ?hr ?_; (case hd => rfl); (case hg => rfl); (case hr => first | (go_simp; done) | (go_simp; rfl)); intro gb221 hg w27 hbox hb; have n0_ := Aside0.mk (below_step hb_ hb); have n1_ := Aside0.mk (hbox); have n2_ := Aside0.mk ((by rw [hg]; exact (below_size hb_) : w.heap.size ≤ gb221)); have n3_ := Aside0.mk ((by rw [hg]; exact (below_size hb_) : w.heap.size ≤ gb221)); clear HB; have HB := n0_; have BK221 := n1_; have GW221 := n2_; have GE221 := n3_; clear n0_ n1_ n2_ n3_; clear hb hbox hg) | ((with_reducible refine gate_dst (N := 3) rfl ?_); refine box_event ?hg (N := 3) ?hd (cs := #[.slice A1_0 l1_0.length c1_0, .slice A1_1 l1_1.length c1_1, .slice A1_2 l1_2.length c1_2]) (t := 32) ?hr ?_; (case hd => rfl); (case hg => rfl); (case hr => first | (go_simp; done) | (go_simp; rfl)); intro gb222 hg w28 hbox hb; have n0_ := Aside0.mk (blk_below (g := gb221) (o := .cells #[.slice A0_0 l0_0.length c0_0, .slice A0_1 l0_1.length c0_1, .slice A0_2 l0_2.length c0_2] 32 (0, 0)) (bk_ BK221) hb); have n1_ := Aside0.mk (below_step (hg_ GE221) hb); have n2_ := Aside0.mk (hbox); have n3_ := Aside0.mk ((by rw [hg]; exact (below_size (hg_ GE221)) : w.heap.size ≤ gb222)); have n4_ := Aside0.mk ((by rw [hg]; exact (below_size (hg_ GE221)) : w.heap.size ≤ gb222)); have n5_ := Aside0.mk ((by rw [hg]; exact Nat.ne_of_lt (blk_lt (g := gb221) (o := .cells #[.slice A0_0 l0_0.length c0_0, .slice A0_1 l0_1.length c0_1, .slice A0_2 l0_2.length c0_2] 32 (0, 0)) (bk_ BK221)) : gb221 ≠ gb222)); have n6_ := Aside0.mk ((by rw [hg]; exact Nat.ne_of_gt (blk_lt (g := gb221) (o := .cells #[.slice A0_0 l0_0.length c0_0, .slice A0_1 l0_1.length c0_1, .slice A0_2 l0_2.length c0_2] 32 (0, 0)) (bk_ BK221)) : gb222 ≠ gb221)); clear BK221; clear HB; have BK221 := n0_; have HB := n1_; have BK222 := n2_; have GW222 := n3_; have GE222 := n4_; have NB221_222 := n5_; have NB222_221 := n6_; clear n0_ n1_ n2_ n3_ n4_ n5_ n6_; clear hb hbox hg; have hnb29 := NB221_222.out; have hnc29 := NB222_221.out; have hcz30_0 : w28.cell? ⟨gb221, 0, none⟩ = some (.slice A0_0 l0_0.length c0_0) := (blk_cell BK221.out 0).trans rfl; have hcz30_1 : w28.cell? ⟨gb221, 1, none⟩ = some (.slice A0_1 l0_1.length c0_1) := (blk_cell BK221.out 1).trans rfl; have hcz30_2 : w28.cell? ⟨gb221, 2, none⟩ = some (.slice A0_2 l0_2.length c0_2) := (blk_cell BK221.out 2).trans rfl; have hfz30_0 := blk_frozen BK221.out 0; have hfz30_1 := blk_frozen BK221.out 1; have hfz30_2 := blk_frozen BK221.out 2; have hcz31_0 : w28.cell? ⟨gb222, 0, none⟩ = some (.slice A1_0 l1_0.length c1_0) := (blk_cell BK222.out 0).trans rfl; have hcz31_1 : w28.cell? ⟨gb222, 1, none⟩ = some (.slice A1_1 l1_1.length c1_1) := (blk_cell BK222.out 1).trans rfl; have hcz31_2 : w28.cell? ⟨gb222, 2, none⟩ = some (.slice A1_2 l1_2.length c1_2) := (blk_cell BK222.out 2).trans rfl; have hfz31_0 := blk_frozen BK222.out 0; have hfz31_1 := blk_frozen BK222.out 1; have hfz31_2 := blk_frozen BK222.out 2) | ((with_reducible refine gate_callee (f := 38) rfl ?_); refine goesL_ (some 9) rfl rfl Tryd.func38 (by kernel_rfl) rfl #[.slice A0_0 l0_0.length c0_0, .slice A1_0 l1_0.length c1_0] rfl ln_ ?_; (with_reducible refine (laws_eqRailS.calls k _ _ l0_0 _ _ l1_0 true _ ?side1 ?side2 ?side3 ?side4 A3.out).mono ?_); (case side1 => exact kc_ (Kd.C_below HR0_0.out HB.out)); (case side2 => exact HC0_0.out); (case side3 => exact kc_ (Kd.C_below HR1_0.out HB.out)); (case side4 => exact HC1_0.out); rintro e w32 ⟨rfl, hb⟩; refine ⟨_, rfl, ?_⟩; have n0_ := Aside0.mk (blk_below (g := gb221) (o := .cells #[.slice A0_0 l0_0.length c0_0, .slice A0_1 l0_1.length c0_1, .slice A0_2 l0_2.length c0_2] 32 (0, 0)) (bk_ BK221) hb); have n1_ := Aside0.mk (blk_below (g := gb222) (o := .cells #[.slice A1_0 l1_0.length c1_0, .slice A1_1 l1_1.length c1_1, .slice A1_2 l1_2.length c1_2] 32 (0, 0)) (bk_ BK222) hb); have n2_ := Aside0.mk (below_step (hg2_ GE221 GE222) hb); clear BK221; clear BK222; clear HB; have BK221 := n0_; have BK222 := n1_; have HB := n2_; clear n0_ n1_ n2_; (try clear hb); (try clear hb2); (try clear hk); (try clear hi); have hcz33_0 : w32.cell? ⟨gb221, 0, none⟩ = some (.slice A0_0 l0_0.length c0_0) := (blk_cell BK221.out 0).trans rfl; have hcz33_1 : w32.cell? ⟨gb221, 1, none⟩ = some (.slice A0_1 l0_1.length c0_1) := (blk_cell BK221.out 1).trans rfl; have hcz33_2 : w32.cell? ⟨gb221, 2, none⟩ = some (.slice A0_2 l0_2.length c0_2) := (blk_cell BK221.out 2).trans rfl; have hfz33_0 := blk_frozen BK221.out 0; have hfz33_1 := blk_frozen BK221.out 1; have hfz33_2 := blk_frozen BK221.out 2; have hcz34_0 : w32.cell? ⟨gb222, 0, none⟩ = some (.slice A1_0 l1_0.length c1_0) := (blk_cell BK222.out 0).trans rfl; have hcz34_1 : w32.cell? ⟨gb222, 1, none⟩ = some (.slice A1_1 l1_1.length c1_1) := (blk_cell BK222.out 1).trans rfl; have hcz34_2 : w32.cell? ⟨gb222, 2, none⟩ = some (.slice A1_2 l1_2.length c1_2) := (blk_cell BK222.out 2).trans rfl; have hfz34_0 := blk_frozen BK222.out 0; have hfz34_1 := blk_frozen BK222.out 1; have hfz34_2 := blk_frozen BK222.out 2) | ((with_reducible refine gate_callee (f := 39) rfl ?_); refine goesL_ (some 15) rfl rfl Tryd.func39 (by kernel_rfl) rfl #[.slice A0_1 l0_1.length c0_1, .slice A1_1 l1_1.length c1_1] rfl ln_ ?_; (with_reducible refine (laws_eqStringS.calls k _ _ l0_1 _ _ l1_1 false _ ?side1 ?side2 ?side3 ?side4 A5.out).mono ?_); (case side1 => exact kc_ (Kd.C_below HR0_1.out HB.out)); (case side2 => exact HC0_1.out); (case side3 => exact kc_ (Kd.C_below HR1_1.out HB.out)); (case side4 => exact HC1_1.out); rintro e w' ⟨rfl, ⟨nd, rfl⟩⟩; refine ⟨_, rfl, ?_⟩))
   go_ret
   exact ⟨ew_, (hg2_ GE221 GE222)⟩
 ·replace c4 := Bool.eq_false_iff.mpr c4
  subst c4
  have H1 : (some false) = some r := by rw [if_neg (show ¬ (false = true) by decide)] at H; exact H
  clear H
  have H := H1
  clear H1
  obtain rfl := Option.some.inj H
  go_enter Tryd.func10, Tryd.ntmps10
  go_wp2_with (first | ((with_reducible refine gate_dst (N := 2) rfl ?_); refine box_event ?hg (N := 2) ?hd (cs := #[.slice A0_0 l0_0.length c0_0, .slice A0_1 l0_1.length c0_1, .slice A0_2 l0_2.length c0_2]) (t := 32) ?hr ?_; (case hd => rfl); (case hg => rfl); (case hr => first | (go_simp; done) | (go_simp; rfl)); intro gb221 hg w35 hbox hb; have n0_ := Aside0.mk (below_step hb_ hb); have n1_ := Aside0.mk (hbox); have n2_ := Aside0.mk ((by rw [hg]; exact (below_size hb_) : w.heap.size ≤ gb221)); have n3_ := Aside0.mk ((by rw [hg]; exact (below_size hb_) : w.heap.size ≤ gb221)); clear HB; have HB := n0_; have BK221 := n1_; have GW221 := n2_; have GE221 := n3_; clear n0_ n1_ n2_ n3_; clear hb hbox hg) | ((with_reducible refine gate_dst (N := 3) rfl ?_); refine box_event ?hg (N := 3) ?hd (cs := #[.slice A1_0 l1_0.length c1_0, .slice A1_1 l1_1.length c1_1, .slice A1_2 l1_2.length c1_2]) (t := 32) ?hr ?_; (case hd => rfl); (case hg => rfl); (case hr => first | (go_simp; done) | (go_simp; rfl)); intro gb222 hg w36 hbox hb; have n0_ := Aside0.mk (blk_below (g := gb221) (o := .cells #[.slice A0_0 l0_0.length c0_0, .slice A0_1 l0_1.length c0_1, .slice A0_2 l0_2.length c0_2] 32 (0, 0)) (bk_ BK221) hb); have n1_ := Aside0.mk (below_step (hg_ GE221) hb); have n2_ := Aside0.mk (hbox); have n3_ := Aside0.mk ((by rw [hg]; exact (below_size (hg_ GE221)) : w.heap.size ≤ gb222)); have n4_ := Aside0.mk ((by rw [hg]; exact (below_size (hg_ GE221)) : w.heap.size ≤ gb222)); have n5_ := Aside0.mk ((by rw [hg]; exact Nat.ne_of_lt (blk_lt (g := gb221) (o := .cells #[.slice A0_0 l0_0.length c0_0, .slice A0_1 l0_1.length c0_1, .slice A0_2 l0_2.length c0_2] 32 (0, 0)) (bk_ BK221)) : gb221 ≠ gb222)); have n6_ := Aside0.mk ((by rw [hg]; exact Nat.ne_of_gt (blk_lt (g := gb221) (o := .cells #[.slice A0_0 l0_0.length c0_0, .slice A0_1 l0_1.length c0_1, .slice A0_2 l0_2.length c0_2] 32 (0, 0)) (bk_ BK221)) : gb222 ≠ gb221)); clear BK221; clear HB; have BK221 := n0_; have HB := n1_; have BK222 := n2_; have GW222 := n3_; have GE222 := n4_; have NB221_222 := n5_; have NB222_221 := n6_; clear n0_ n1_ n2_ n3_ n4_ n5_ n6_; clear hb hbox hg; have hnb37 := NB221_222.out; have hnc37 := NB222_221.out; have hcz38_0 : w36.cell? ⟨gb221, 0, none⟩ = some (.slice A0_0 l0_0.length c0_0) := (blk_cell BK221.out 0).trans rfl; have hcz38_1 : w36.cell? ⟨gb221, 1, none⟩ = some (.slice A0_1 l0_1.length c0_1) := (blk_cell BK221.out 1).trans rfl; have hcz38_2 : w36.cell? ⟨gb221, 2, none⟩ = some (.slice A0_2 l0_2.length c0_2) := (blk_cell BK221.out 2).trans rfl; have hfz38_0 := blk_frozen BK221.out 0; have hfz38_1 := blk_frozen BK221.out 1; have hfz38_2 := blk_frozen BK221.out 2; have hcz39_0 : w36.cell? ⟨gb222, 0, none⟩ = some (.slice A1_0 l1_0.length c1_0) := (blk_cell BK222.out 0).trans rfl; have hcz39_1 : w36.cell? ⟨gb222, 1, none⟩ = some (.slice A1_1 l1_1.length c1_1) := (blk_cell BK222.out 1).trans rfl; have hcz39_2 : w36.cell? ⟨gb222, 2, none⟩ = some (.slice A1_2 l1_2.length c1_2) := (blk_cell BK222.out 2).trans rfl; have hfz39_0 := blk_frozen BK222.out 0; have hfz39_1 := blk_frozen BK222.out 1; have hfz39_2 := blk_frozen BK222.out 2) | ((with_reducible refine gate_callee (f := 38) rfl ?_); refine goesL_ (some 9) rfl rfl Tryd.func38 (by kernel_rfl) rfl #[.slice A0_0 l0_0.length c0_0, .slice A1_0 l1_0.length c1_0] rfl ln_ ?_; (with_reducible refine (laws_eqRailS.calls k _ _ l0_0 _ _ l1_0 false _ ?side1 ?side2 ?side3 ?side4 A3.out).mono ?_); (case side1 => exact kc_ (Kd.C_below HR0_0.out HB.out)); (case side2 => exact HC0_0.out); (case side3 => exact kc_ (Kd.C_below HR1_0.out HB.out)); (case side4 => exact HC1_0.out); rintro e w40 ⟨rfl, hb⟩; refine ⟨_, rfl, ?_⟩; have n0_ := Aside0.mk (blk_below (g := gb221) (o := .cells #[.slice A0_0 l0_0.length c0_0, .slice A0_1 l0_1.length c0_1, .slice A0_2 l0_2.length c0_2] 32 (0, 0)) (bk_ BK221) hb); have n1_ := Aside0.mk (blk_below (g := gb222) (o := .cells #[.slice A1_0 l1_0.length c1_0, .slice A1_1 l1_1.length c1_1, .slice A1_2 l1_2.length c1_2] 32 (0, 0)) (bk_ BK222) hb); have n2_ := Aside0.mk (below_step (hg2_ GE221 GE222) hb); clear BK221; clear BK222; clear HB; have BK221 := n0_; have BK222 := n1_; have HB := n2_; clear n0_ n1_ n2_; (try clear hb); (try clear hb2); (try clear hk); (try clear hi)))
  go_ret
  exact ⟨ew_, (hg2_ GE221 GE222)⟩

/-! ### laws_FnExactRigText: function 3 -/
def laws_FnExactRigText.f (k : Nat) (l0_0 : List (S92)) (l0_1 : List ByteArray) (l0_2 : List (S94)) : Option (Bool) := (laws_szRig.f k l0_0 l0_1 l0_2 1048576).bind fun t227 => (if t227 < 0 then (some true) else ((laws_toRig.f k l0_0 l0_1 l0_2).bind fun bt228 => ((spec_RigText.f k bt228.1 bt228.2.1 bt228.2.2).bind fun t237 => ((laws_toRig.f k l0_0 l0_1 l0_2).bind fun bt238 => ((impl_RigText.f k bt238.1 bt238.2.1 bt238.2.2).bind fun t248 => (if t248.toList = t237.toList then ((laws_toRig.f k l0_0 l0_1 l0_2).bind fun bt249 => ((laws_eqRig.f k bt238.1 bt238.2.1 bt238.2.2 bt249.1 bt249.2.1 bt249.2.2).bind fun t258 => (if t258 = true then (some true) else (some false)))) else (some false)))))))
set_option maxHeartbeats 8000000 in
set_option maxRecDepth 100000 in
theorem laws_FnExactRigText.calls (k : Nat) (A0_0 : Option Addr) (c0_0 : Nat) (l0_0 : List (S92)) (A0_1 : Option Addr) (c0_1 : Nat) (l0_1 : List ByteArray) (A0_2 : Option Addr) (c0_2 : Nat) (l0_2 : List (S94)) (r : Bool) (w : World) (hr0_0 : Kd.C k92 w A0_0 l0_0.length l0_0) (hc0_0 : l0_0.length ≤ c0_0) (hr0_1 : Kd.C Kd.string w A0_1 l0_1.length l0_1) (hc0_1 : l0_1.length ≤ c0_1) (hr0_2 : Kd.C k94 w A0_2 l0_2.length l0_2) (hc0_2 : l0_2.length ≤ c0_2) (hT : TB w) (h : laws_FnExactRigText.f k l0_0 l0_1 l0_2 = some r) :
  Calls Tryd.prog 3 #[.agg #[.slice A0_0 l0_0.length c0_0, .slice A0_1 l0_1.length c0_1, .slice A0_2 l0_2.length c0_2]] w fun e w' => e = .returned (.bool r) ∧ Below w.heap.size w w' := by
 have hu26 := Tryd.underlying26
 have hu32 := Tryd.underlying32
 have HR0_0 := Aside0.mk hr0_0
 have HC0_0 := Aside0.mk hc0_0
 clear hr0_0 hc0_0
 have HR0_1 := Aside0.mk hr0_1
 have HC0_1 := Aside0.mk hc0_1
 clear hr0_1 hc0_1
 have HR0_2 := Aside0.mk hr0_2
 have HC0_2 := Aside0.mk hc0_2
 clear hr0_2 hc0_2
 have HT := Aside0.mk hT
 clear hT
 have HB := Aside0.mk (Below.refl w.heap.size w)
 have H : ((laws_szRig.f k l0_0 l0_1 l0_2 1048576).bind fun t227 => (if t227 < 0 then (some true) else ((laws_toRig.f k l0_0 l0_1 l0_2).bind fun bt228 => ((spec_RigText.f k bt228.1 bt228.2.1 bt228.2.2).bind fun t237 => ((laws_toRig.f k l0_0 l0_1 l0_2).bind fun bt238 => ((impl_RigText.f k bt238.1 bt238.2.1 bt238.2.2).bind fun t248 => (if t248.toList = t237.toList then ((laws_toRig.f k l0_0 l0_1 l0_2).bind fun bt249 => ((laws_eqRig.f k bt238.1 bt238.2.1 bt238.2.2 bt249.1 bt249.2.1 bt249.2.2).bind fun t258 => (if t258 = true then (some true) else (some false)))) else (some false)))))))) = some r := h
 clear h
 replace H := Option.bind_eq_some_iff.mp H
 obtain ⟨t227, A20, H⟩ := H
 replace H : (if t227 < 0 then (some true) else ((laws_toRig.f k l0_0 l0_1 l0_2).bind fun bt228 => ((spec_RigText.f k bt228.1 bt228.2.1 bt228.2.2).bind fun t237 => ((laws_toRig.f k l0_0 l0_1 l0_2).bind fun bt238 => ((impl_RigText.f k bt238.1 bt238.2.1 bt238.2.2).bind fun t248 => (if t248.toList = t237.toList then ((laws_toRig.f k l0_0 l0_1 l0_2).bind fun bt249 => ((laws_eqRig.f k bt238.1 bt238.2.1 bt238.2.2 bt249.1 bt249.2.1 bt249.2.2).bind fun t258 => (if t258 = true then (some true) else (some false)))) else (some false))))))) = some r := H
 have A2 := Aside0.mk A20
 clear A20
 by_cases c3 : t227 < 0
 ·rw [if_pos c3] at H
  have c3b0 : decide (t227 < 0) = true := decide_eq_true c3
  clear c3
  obtain rfl := Option.some.inj H
  go_enter Tryd.func3, Tryd.ntmps3
  go_wp2_with (first | ((with_reducible refine gate_dst (N := 1) rfl ?_); refine box_event ?hg (N := 1) ?hd (cs := #[.slice A0_0 l0_0.length c0_0, .slice A0_1 l0_1.length c0_1, .slice A0_2 l0_2.length c0_2]) (t := 26) ?hr ?_; (case hd => rfl); (case hg => rfl); (case hr => first | (go_simp; done) | (go_simp; rfl)); intro gb226 hg w4 hbox hb; have n0_ := Aside0.mk (below_step hb_ hb); have n1_ := Aside0.mk (hbox); have n2_ := Aside0.mk ((by rw [hg]; exact (below_size hb_) : w.heap.size ≤ gb226)); have n3_ := Aside0.mk ((by rw [hg]; exact (below_size hb_) : w.heap.size ≤ gb226)); clear HB; have HB := n0_; have BK226 := n1_; have GW226 := n2_; have GE226 := n3_; clear n0_ n1_ n2_ n3_; clear hb hbox hg; have hcz5_0 : w4.cell? ⟨gb226, 0, none⟩ = some (.slice A0_0 l0_0.length c0_0) := (blk_cell BK226.out 0).trans rfl; have hcz5_1 : w4.cell? ⟨gb226, 1, none⟩ = some (.slice A0_1 l0_1.length c0_1) := (blk_cell BK226.out 1).trans rfl; have hcz5_2 : w4.cell? ⟨gb226, 2, none⟩ = some (.slice A0_2 l0_2.length c0_2) := (blk_cell BK226.out 2).trans rfl; have hfz5_0 := blk_frozen BK226.out 0; have hfz5_1 := blk_frozen BK226.out 1; have hfz5_2 := blk_frozen BK226.out 2) | ((with_reducible refine gate_callee (f := 6) rfl ?_); refine goesL_ (some 9) rfl rfl Tryd.func6 (by kernel_rfl) rfl #[.agg #[.slice A0_0 l0_0.length c0_0, .slice A0_1 l0_1.length c0_1, .slice A0_2 l0_2.length c0_2], .int .i64 1048576] rfl ln_ ?_; (with_reducible refine (laws_szRig.calls k _ _ l0_0 _ _ l0_1 _ _ l0_2 1048576 t227 _ ?side1 ?side2 ?side3 ?side4 ?side5 ?side6 A2.out).mono ?_); (case side1 => exact kc_ (Kd.C_below HR0_0.out HB.out)); (case side2 => exact HC0_0.out); (case side3 => exact kc_ (Kd.C_below HR0_1.out HB.out)); (case side4 => exact HC0_1.out); (case side5 => exact kc_ (Kd.C_below HR0_2.out HB.out)); (case side6 => exact HC0_2.out); rintro e w6 ⟨rfl, hb⟩; refine ⟨_, rfl, ?_⟩; have n0_ := Aside0.mk (blk_below (g := gb226) (o := .cells #[.slice A0_0 l0_0.length c0_0, .slice A0_1 l0_1.length c0_1, .slice A0_2 l0_2.length c0_2] 26 (0, 0)) (bk_ BK226) hb); have n1_ := Aside0.mk (below_step (hg_ GE226) hb); clear BK226; clear HB; have BK226 := n0_; have HB := n1_; clear n0_ n1_; (try clear hb); (try clear hb2); (try clear hk); (try clear hi)))
  go_ret
  exact ⟨ew_, (hg_ GE226)⟩
 ·rw [if_neg c3] at H
  have c3b0 : decide (t227 < 0) = false := decide_eq_false c3
  clear c3
  replace H := Option.bind_eq_some_iff.mp H
  obtain ⟨⟨t228, t231, t234⟩, A70, H⟩ := H
  replace H : ((spec_RigText.f k t228 t231 t234).bind fun t237 => ((laws_toRig.f k l0_0 l0_1 l0_2).bind fun bt238 => ((impl_RigText.f k bt238.1 bt238.2.1 bt238.2.2).bind fun t248 => (if t248.toList = t237.toList then ((laws_toRig.f k l0_0 l0_1 l0_2).bind fun bt249 => ((laws_eqRig.f k bt238.1 bt238.2.1 bt238.2.2 bt249.1 bt249.2.1 bt249.2.2).bind fun t258 => (if t258 = true then (some true) else (some false)))) else (some false))))) = some r := H
  have A7 := Aside0.mk A70
  clear A70
  replace H := Option.bind_eq_some_iff.mp H
  obtain ⟨t237, A80, H⟩ := H
  replace H : ((laws_toRig.f k l0_0 l0_1 l0_2).bind fun bt238 => ((impl_RigText.f k bt238.1 bt238.2.1 bt238.2.2).bind fun t248 => (if t248.toList = t237.toList then ((laws_toRig.f k l0_0 l0_1 l0_2).bind fun bt249 => ((laws_eqRig.f k bt238.1 bt238.2.1 bt238.2.2 bt249.1 bt249.2.1 bt249.2.2).bind fun t258 => (if t258 = true then (some true) else (some false)))) else (some false)))) = some r := H
  have A8 := Aside0.mk A80
  clear A80
  replace H := Option.bind_eq_some_iff.mp H
  obtain ⟨⟨t238, t241, t244⟩, A90, H⟩ := H
  replace H : ((impl_RigText.f k t238 t241 t244).bind fun t248 => (if t248.toList = t237.toList then ((laws_toRig.f k l0_0 l0_1 l0_2).bind fun bt249 => ((laws_eqRig.f k t238 t241 t244 bt249.1 bt249.2.1 bt249.2.2).bind fun t258 => (if t258 = true then (some true) else (some false)))) else (some false))) = some r := H
  have A9 := Aside0.mk A90
  clear A90
  replace H := Option.bind_eq_some_iff.mp H
  obtain ⟨t248, A100, H⟩ := H
  replace H : (if t248.toList = t237.toList then ((laws_toRig.f k l0_0 l0_1 l0_2).bind fun bt249 => ((laws_eqRig.f k t238 t241 t244 bt249.1 bt249.2.1 bt249.2.2).bind fun t258 => (if t258 = true then (some true) else (some false)))) else (some false)) = some r := H
  have A10 := Aside0.mk A100
  clear A100
  by_cases c11 : t248.toList = t237.toList
  ·rw [if_pos c11] at H
   have c11b0 : (t248.toList == t237.toList) = true := beq_iff_eq.mpr c11
   have c11b1 : (t248.toList != t237.toList) = false := bne_eq_false_iff_eq.mpr c11
   clear c11
   replace H := Option.bind_eq_some_iff.mp H
   obtain ⟨⟨t249, t252, t255⟩, A120, H⟩ := H
   replace H : ((laws_eqRig.f k t238 t241 t244 t249 t252 t255).bind fun t258 => (if t258 = true then (some true) else (some false))) = some r := H
   have A12 := Aside0.mk A120
   clear A120
   replace H := Option.bind_eq_some_iff.mp H
   obtain ⟨t258, A130, H⟩ := H
   replace H : (if t258 = true then (some true) else (some false)) = some r := H
   have A13 := Aside0.mk A130
   clear A130
   by_cases c14 : t258 = true
   ·subst c14
    have H1 : (some true) = some r := by rw [if_pos rfl] at H; exact H
    clear H
    have H := H1
    clear H1
    obtain rfl := Option.some.inj H
    go_enter Tryd.func3, Tryd.ntmps3
    try go_wp2_with (first | ((with_reducible refine gate_dst (N := 1) rfl ?_); refine box_event ?hg (N := 1) ?hd (cs := #[.slice A0_0 l0_0.length c0_0, .slice A0_1 l0_1.length c0_1, .slice A0_2 l0_2.length c0_2]) (t := 26) ?hr ?_; (case hd => rfl); (case hg => rfl); (case hr => first | (go_simp; done) | (go_simp; rfl)); intro gb226 hg w15 hbox hb; have n0_ := Aside0.mk (below_step hb_ hb); have n1_ := Aside0.mk (hbox); have n2_ := Aside0.mk ((by rw [hg]; exact (below_size hb_) : w.heap.size ≤ gb226)); have n3_ := Aside0.mk ((by rw [hg]; exact (below_size hb_) : w.heap.size ≤ gb226)); clear HB; have HB := n0_; have BK226 := n1_; have GW226 := n2_; have GE226 := n3_; clear n0_ n1_ n2_ n3_; clear hb hbox hg; have hcz16_0 : w15.cell? ⟨gb226, 0, none⟩ = some (.slice A0_0 l0_0.length c0_0) := (blk_cell BK226.out 0).trans rfl; have hcz16_1 : w15.cell? ⟨gb226, 1, none⟩ = some (.slice A0_1 l0_1.length c0_1) := (blk_cell BK226.out 1).trans rfl; have hcz16_2 : w15.cell? ⟨gb226, 2, none⟩ = some (.slice A0_2 l0_2.length c0_2) := (blk_cell BK226.out 2).trans rfl; have hfz16_0 := blk_frozen BK226.out 0; have hfz16_1 := blk_frozen BK226.out 1; have hfz16_2 := blk_frozen BK226.out 2) | ((with_reducible refine gate_callee (f := 6) rfl ?_); refine goesL_ (some 9) rfl rfl Tryd.func6 (by kernel_rfl) rfl #[.agg #[.slice A0_0 l0_0.length c0_0, .slice A0_1 l0_1.length c0_1, .slice A0_2 l0_2.length c0_2], .int .i64 1048576] rfl ln_ ?_; (with_reducible refine (laws_szRig.calls k _ _ l0_0 _ _ l0_1 _ _ l0_2 1048576 t227 _ ?side1 ?side2 ?side3 ?side4 ?side5 ?side6 A2.out).mono ?_); (case side1 => exact kc_ (Kd.C_below HR0_0.out HB.out)); (case side2 => exact HC0_0.out); (case side3 => exact kc_ (Kd.C_below HR0_1.out HB.out)); (case side4 => exact HC0_1.out); (case side5 => exact kc_ (Kd.C_below HR0_2.out HB.out)); (case side6 => exact HC0_2.out); rintro e w17 ⟨rfl, hb⟩; refine ⟨_, rfl, ?_⟩; have n0_ := Aside0.mk (blk_below (g := gb226) (o := .cells #[.slice A0_0 l0_0.length c0_0, .slice A0_1 l0_1.length c0_1, .slice A0_2 l0_2.length c0_2] 26 (0, 0)) (bk_ BK226) hb); have n1_ := Aside0.mk (below_step (hg_ GE226) hb); clear BK226; clear HB; have BK226 := n0_; have HB := n1_; clear n0_ n1_; (try clear hb); (try clear hb2); (try clear hk); (try clear hi); have hcz18_0 : w17.cell? ⟨gb226, 0, none⟩ = some (.slice A0_0 l0_0.length c0_0) := (blk_cell BK226.out 0).trans rfl; have hcz18_1 : w17.cell? ⟨gb226, 1, none⟩ = some (.slice A0_1 l0_1.length c0_1) := (blk_cell BK226.out 1).trans rfl; have hcz18_2 : w17.cell? ⟨gb226, 2, none⟩ = some (.slice A0_2 l0_2.length c0_2) := (blk_cell BK226.out 2).trans rfl; have hfz18_0 := blk_frozen BK226.out 0; have hfz18_1 := blk_frozen BK226.out 1; have hfz18_2 := blk_frozen BK226.out 2) | ((with_reducible refine gate_callee (f := 8) rfl ?_); refine goesL_ (some 13) rfl rfl Tryd.func8 (by kernel_rfl) rfl #[.agg #[.slice A0_0 l0_0.length c0_0, .slice A0_1 l0_1.length c0_1, .slice A0_2 l0_2.length c0_2]] rfl ln_ ?_; (with_reducible refine (laws_toRig.calls k _ _ l0_0 _ _ l0_1 _ _ l0_2 t228 t231 t234 _ ?side1 ?side2 ?side3 ?side4 ?side5 ?side6 A7.out).mono ?_); (case side1 => exact kc_ (Kd.C_below HR0_0.out HB.out)); (case side2 => exact HC0_0.out); (case side3 => exact kc_ (Kd.C_below HR0_1.out HB.out)); (case side4 => exact HC0_1.out); (case side5 => exact kc_ (Kd.C_below HR0_2.out HB.out)); (case side6 => exact HC0_2.out); rintro e w19 ⟨v229, v232, v235, rfl, ho0, ho1, ho2, hb⟩; refine ⟨_, rfl, ?_⟩; have n0_ := Aside0.mk (Kd.R_lower ho0 (below_size (hg_ GE226))); have n1_ := Aside0.mk (Kd.R_lower ho1 (below_size (hg_ GE226))); have n2_ := Aside0.mk (Kd.R_lower ho2 (below_size (hg_ GE226))); have n3_ := Aside0.mk (blk_below (g := gb226) (o := .cells #[.slice A0_0 l0_0.length c0_0, .slice A0_1 l0_1.length c0_1, .slice A0_2 l0_2.length c0_2] 26 (0, 0)) (bk_ BK226) hb); have n4_ := Aside0.mk (below_step (hg_ GE226) hb); clear BK226; clear HB; have HO230 := n0_; have HO233 := n1_; have HO236 := n2_; have BK226 := n3_; have HB := n4_; clear n0_ n1_ n2_ n3_ n4_; (try clear hb); (try clear hb2); (try clear hk); (try clear hi); (try clear ho0); (try clear ho1); (try clear ho2); obtain ⟨Ao20, co20, eo20⟩ := Kd.R_slice HO230.out; subst eo20; obtain ⟨Ao21, co21, eo21⟩ := Kd.R_slice HO233.out; subst eo21; obtain ⟨Ao22, co22, eo22⟩ := Kd.R_slice HO236.out; subst eo22) | ((with_reducible refine gate_callee (f := 7) rfl ?_); refine goesL_ (some 14) rfl rfl Tryd.func7 (by kernel_rfl) rfl #[.agg #[.slice Ao20 t228.length co20, .slice Ao21 t231.length co21, .slice Ao22 t234.length co22]] rfl ln_ ?_; (with_reducible refine (spec_RigText.calls k _ _ t228 _ _ t231 _ _ t234 t237 _ ?side1 ?side2 ?side3 ?side4 ?side5 ?side6 A8.out).mono ?_); (case side1 => repeat (first | exact (Kd.R_reads' HO230.out).2.2 | (with_reducible refine Kd.C_alloc ?_ _) | (with_reducible refine Kd.C_drewN ?_ _) | (with_reducible refine Kd.C_drew ?_))); (case side2 => exact (Kd.R_reads' HO230.out).2.1); (case side3 => repeat (first | exact (Kd.R_reads' HO233.out).2.2 | (with_reducible refine Kd.C_alloc ?_ _) | (with_reducible refine Kd.C_drewN ?_ _) | (with_reducible refine Kd.C_drew ?_))); (case side4 => exact (Kd.R_reads' HO233.out).2.1); (case side5 => repeat (first | exact (Kd.R_reads' HO236.out).2.2 | (with_reducible refine Kd.C_alloc ?_ _) | (with_reducible refine Kd.C_drewN ?_ _) | (with_reducible refine Kd.C_drew ?_))); (case side6 => exact (Kd.R_reads' HO236.out).2.1); rintro e w23 ⟨rfl, hb⟩; refine ⟨_, rfl, ?_⟩; have n0_ := Aside0.mk (Kd.R_below (kr_ HO230) hb); have n1_ := Aside0.mk (Kd.R_below (kr_ HO233) hb); have n2_ := Aside0.mk (Kd.R_below (kr_ HO236) hb); have n3_ := Aside0.mk (blk_below (g := gb226) (o := .cells #[.slice A0_0 l0_0.length c0_0, .slice A0_1 l0_1.length c0_1, .slice A0_2 l0_2.length c0_2] 26 (0, 0)) (bk_ BK226) hb); have n4_ := Aside0.mk (below_step (hg_ GE226) hb); clear HO230; clear HO233; clear HO236; clear BK226; clear HB; have HO230 := n0_; have HO233 := n1_; have HO236 := n2_; have BK226 := n3_; have HB := n4_; clear n0_ n1_ n2_ n3_ n4_; (try clear hb); (try clear hb2); (try clear hk); (try clear hi); have hcz24_0 : w23.cell? ⟨gb226, 0, none⟩ = some (.slice A0_0 l0_0.length c0_0) := (blk_cell BK226.out 0).trans rfl; have hcz24_1 : w23.cell? ⟨gb226, 1, none⟩ = some (.slice A0_1 l0_1.length c0_1) := (blk_cell BK226.out 1).trans rfl; have hcz24_2 : w23.cell? ⟨gb226, 2, none⟩ = some (.slice A0_2 l0_2.length c0_2) := (blk_cell BK226.out 2).trans rfl; have hfz24_0 := blk_frozen BK226.out 0; have hfz24_1 := blk_frozen BK226.out 1; have hfz24_2 := blk_frozen BK226.out 2) | ((with_reducible refine gate_callee (f := 8) rfl ?_); refine goesL_ (some 16) rfl rfl Tryd.func8 (by kernel_rfl) rfl #[.agg #[.slice A0_0 l0_0.length c0_0, .slice A0_1 l0_1.length c0_1, .slice A0_2 l0_2.length c0_2]] rfl ln_ ?_; (with_reducible refine (laws_toRig.calls k _ _ l0_0 _ _ l0_1 _ _ l0_2 t238 t241 t244 _ ?side1 ?side2 ?side3 ?side4 ?side5 ?side6 A9.out).mono ?_); (case side1 => exact kc_ (Kd.C_below HR0_0.out HB.out)); (case side2 => exact HC0_0.out); (case side3 => exact kc_ (Kd.C_below HR0_1.out HB.out)); (case side4 => exact HC0_1.out); (case side5 => exact kc_ (Kd.C_below HR0_2.out HB.out)); (case side6 => exact HC0_2.out); rintro e w25 ⟨v239, v242, v245, rfl, ho0, ho1, ho2, hb⟩; refine ⟨_, rfl, ?_⟩; have n0_ := Aside0.mk (Kd.R_elder' (kr_ HO230) (Kd.R_base ho0) hb); have n1_ := Aside0.mk (Kd.R_elder' (kr_ HO233) (Kd.R_base ho1) hb); have n2_ := Aside0.mk (Kd.R_elder' (kr_ HO236) (Kd.R_base ho2) hb); have n3_ := Aside0.mk (Kd.R_lower (Kd.R_new' ho0 (Kd.R_lt (kr_ HO230))) (below_size (hg_ GE226))); have n4_ := Aside0.mk (Kd.R_lower (Kd.R_new' ho1 (Kd.R_lt (kr_ HO233))) (below_size (hg_ GE226))); have n5_ := Aside0.mk (Kd.R_lower (Kd.R_new' ho2 (Kd.R_lt (kr_ HO236))) (below_size (hg_ GE226))); have n6_ := Aside0.mk (blk_below (g := gb226) (o := .cells #[.slice A0_0 l0_0.length c0_0, .slice A0_1 l0_1.length c0_1, .slice A0_2 l0_2.length c0_2] 26 (0, 0)) (bk_ BK226) hb); have n7_ := Aside0.mk (below_step (hg_ GE226) hb); clear HO230; clear HO233; clear HO236; clear BK226; clear HB; have HO230 := n0_; have HO233 := n1_; have HO236 := n2_; have HO240 := n3_; have HO243 := n4_; have HO246 := n5_; have BK226 := n6_; have HB := n7_; clear n0_ n1_ n2_ n3_ n4_ n5_ n6_ n7_; (try clear hb); (try clear hb2); (try clear hk); (try clear hi); (try clear ho0); (try clear ho1); (try clear ho2)) | ((with_reducible refine gate_dst (N := 5) rfl ?_); refine box_event ?hg (N := 5) ?hd (cs := #[.slice none 0 0, .slice none 0 0, .slice none 0 0]) (t := 32) ?hr ?_; (case hd => rfl); (case hg => rfl); (case hr => first | (go_simp; done) | (go_simp; rfl)); intro gb247 hg w26 hbox hb; have n0_ := Aside0.mk (Kd.R_below (kr_ HO230) hb); have n1_ := Aside0.mk (Kd.R_below (kr_ HO233) hb); have n2_ := Aside0.mk (Kd.R_below (kr_ HO236) hb); have n3_ := Aside0.mk (Kd.R_below (kr_ HO240) hb); have n4_ := Aside0.mk (Kd.R_below (kr_ HO243) hb); have n5_ := Aside0.mk (Kd.R_below (kr_ HO246) hb); have n6_ := Aside0.mk (blk_below (g := gb226) (o := .cells #[.slice A0_0 l0_0.length c0_0, .slice A0_1 l0_1.length c0_1, .slice A0_2 l0_2.length c0_2] 26 (0, 0)) (bk_ BK226) hb); have n7_ := Aside0.mk (below_step (hg_ GE226) hb); have n8_ := Aside0.mk (hbox); have n9_ := Aside0.mk ((by rw [hg]; exact (below_size (hg_ GE226)) : w.heap.size ≤ gb247)); have n10_ := Aside0.mk ((by rw [hg]; exact (below_size (hg_ GE226)) : w.heap.size ≤ gb247)); have n11_ := Aside0.mk ((by rw [hg]; exact Nat.ne_of_lt (blk_lt (g := gb226) (o := .cells #[.slice A0_0 l0_0.length c0_0, .slice A0_1 l0_1.length c0_1, .slice A0_2 l0_2.length c0_2] 26 (0, 0)) (bk_ BK226)) : gb226 ≠ gb247)); have n12_ := Aside0.mk ((by rw [hg]; exact Nat.ne_of_gt (blk_lt (g := gb226) (o := .cells #[.slice A0_0 l0_0.length c0_0, .slice A0_1 l0_1.length c0_1, .slice A0_2 l0_2.length c0_2] 26 (0, 0)) (bk_ BK226)) : gb247 ≠ gb226)); clear HO230; clear HO233; clear HO236; clear HO240; clear HO243; clear HO246; clear BK226; clear HB; have HO230 := n0_; have HO233 := n1_; have HO236 := n2_; have HO240 := n3_; have HO243 := n4_; have HO246 := n5_; have BK226 := n6_; have HB := n7_; have BK247 := n8_; have GW247 := n9_; have GE247 := n10_; have NB226_247 := n11_; have NB247_226 := n12_; clear n0_ n1_ n2_ n3_ n4_ n5_ n6_ n7_ n8_ n9_ n10_ n11_ n12_; clear hb hbox hg; obtain ⟨Ao27, co27, eo27⟩ := Kd.R_slice HO240.out; subst eo27; have hnb28 := NB247_226.out; have hnc28 := NB226_247.out; have hcz29_0 : w26.cell? ⟨gb247, 0, none⟩ = some (.slice none 0 0) := (blk_cell BK247.out 0).trans rfl; have hcz29_1 : w26.cell? ⟨gb247, 1, none⟩ = some (.slice none 0 0) := (blk_cell BK247.out 1).trans rfl; have hcz29_2 : w26.cell? ⟨gb247, 2, none⟩ = some (.slice none 0 0) := (blk_cell BK247.out 2).trans rfl; have hfz29_0 := blk_frozen BK247.out 0; have hfz29_1 := blk_frozen BK247.out 1; have hfz29_2 := blk_frozen BK247.out 2; obtain ⟨Ao30, co30, eo30⟩ := Kd.R_slice HO243.out; subst eo30; obtain ⟨Ao31, co31, eo31⟩ := Kd.R_slice HO246.out; subst eo31) | ((with_reducible refine gate_callee (f := 9) rfl ?_); refine goesL_ (some 18) rfl rfl Tryd.func9 (by kernel_rfl) rfl #[.agg #[.slice Ao27 t238.length co27, .slice Ao30 t241.length co30, .slice Ao31 t244.length co31]] rfl ln_ ?_; (with_reducible refine (impl_RigText.calls k _ _ t238 _ _ t241 _ _ t244 t248 _ ?side1 ?side2 ?side3 ?side4 ?side5 ?side6 ?side7 A10.out).mono ?_); (case side1 => refine (Kd.R_reads' (e := 64) (base := w.heap.size) (ok := fun k_ => (True ∧ some k_ ≠ (.slice Ao20 t228.length co20 : Value).ownBlock)) (n := t238.length) (c := co27) ?_).2.2; exact (by (with_reducible repeat (first | apply Kd.R_alloc | apply Kd.R_drewN | apply Kd.R_drew)); exact (Kd.R_mono (Kd.R_far (p := ⟨gb247, 2, none⟩) (Kd.R_far (p := ⟨gb247, 1, none⟩) (Kd.R_far (p := ⟨gb247, 0, none⟩) (Kd.R_types HO240.out BK247.out (by decide)) (fun _ hk => hk.2) (.slice Ao27 t238.length co27)) (fun _ hk => hk.2) (.slice Ao30 t241.length co30)) (fun _ hk => hk.2) (.slice Ao31 t244.length co31)) (fun _ h_ => h_.1)))); (case side2 => exact (Kd.R_reads' HO240.out).2.1); (case side3 => refine (Kd.R_reads' (e := 9) (base := w.heap.size) (ok := fun k_ => (True ∧ some k_ ≠ (.slice Ao21 t231.length co21 : Value).ownBlock)) (n := t241.length) (c := co30) ?_).2.2; exact (by (with_reducible repeat (first | apply Kd.R_alloc | apply Kd.R_drewN | apply Kd.R_drew)); exact (Kd.R_mono (Kd.R_far (p := ⟨gb247, 2, none⟩) (Kd.R_far (p := ⟨gb247, 1, none⟩) (Kd.R_far (p := ⟨gb247, 0, none⟩) (Kd.R_types HO243.out BK247.out (by decide)) (fun _ hk => hk.2) (.slice Ao27 t238.length co27)) (fun _ hk => hk.2) (.slice Ao30 t241.length co30)) (fun _ hk => hk.2) (.slice Ao31 t244.length co31)) (fun _ h_ => h_.1)))); (case side4 => exact (Kd.R_reads' HO243.out).2.1); (case side5 => refine (Kd.R_reads' (e := 67) (base := w.heap.size) (ok := fun k_ => (True ∧ some k_ ≠ (.slice Ao22 t234.length co22 : Value).ownBlock)) (n := t244.length) (c := co31) ?_).2.2; exact (by (with_reducible repeat (first | apply Kd.R_alloc | apply Kd.R_drewN | apply Kd.R_drew)); exact (Kd.R_mono (Kd.R_far (p := ⟨gb247, 2, none⟩) (Kd.R_far (p := ⟨gb247, 1, none⟩) (Kd.R_far (p := ⟨gb247, 0, none⟩) (Kd.R_types HO246.out BK247.out (by decide)) (fun _ hk => hk.2) (.slice Ao27 t238.length co27)) (fun _ hk => hk.2) (.slice Ao30 t241.length co30)) (fun _ hk => hk.2) (.slice Ao31 t244.length co31)) (fun _ h_ => h_.1)))); (case side6 => exact (Kd.R_reads' HO246.out).2.1); (case side7 => first | exact HT.out | exact TB.below HT.out HB.out | ((repeat (first | exact HT.out | exact TB.below HT.out HB.out | apply TB.drewN | apply TB.drew)); done) | exact TB.below HT.out (by repeat (first | exact HB.out | apply below_alloc | apply pw_below_drewN | apply below_drew1 | refine below_set ?_ (Aside0.out (by assumption))))); rintro e w32 ⟨rfl, hb⟩; refine ⟨_, rfl, ?_⟩; have n0_ := Aside0.mk (Kd.R_below (by (with_reducible repeat (first | apply Kd.R_alloc | apply Kd.R_drewN | apply Kd.R_drew)); exact (Kd.R_mono (Kd.R_far (p := ⟨gb247, 2, none⟩) (Kd.R_far (p := ⟨gb247, 1, none⟩) (Kd.R_far (p := ⟨gb247, 0, none⟩) (Kd.R_types HO230.out BK247.out (by decide)) (fun _ hk => hk.2) (.slice Ao27 t238.length co27)) (fun _ hk => hk.2) (.slice Ao30 t241.length co30)) (fun _ hk => hk.2) (.slice Ao31 t244.length co31)) (fun _ h_ => h_.1))) hb); have n1_ := Aside0.mk (Kd.R_below (by (with_reducible repeat (first | apply Kd.R_alloc | apply Kd.R_drewN | apply Kd.R_drew)); exact (Kd.R_mono (Kd.R_far (p := ⟨gb247, 2, none⟩) (Kd.R_far (p := ⟨gb247, 1, none⟩) (Kd.R_far (p := ⟨gb247, 0, none⟩) (Kd.R_types HO233.out BK247.out (by decide)) (fun _ hk => hk.2) (.slice Ao27 t238.length co27)) (fun _ hk => hk.2) (.slice Ao30 t241.length co30)) (fun _ hk => hk.2) (.slice Ao31 t244.length co31)) (fun _ h_ => h_.1))) hb); have n2_ := Aside0.mk (Kd.R_below (by (with_reducible repeat (first | apply Kd.R_alloc | apply Kd.R_drewN | apply Kd.R_drew)); exact (Kd.R_mono (Kd.R_far (p := ⟨gb247, 2, none⟩) (Kd.R_far (p := ⟨gb247, 1, none⟩) (Kd.R_far (p := ⟨gb247, 0, none⟩) (Kd.R_types HO236.out BK247.out (by decide)) (fun _ hk => hk.2) (.slice Ao27 t238.length co27)) (fun _ hk => hk.2) (.slice Ao30 t241.length co30)) (fun _ hk => hk.2) (.slice Ao31 t244.length co31)) (fun _ h_ => h_.1))) hb); have n3_ := Aside0.mk (Kd.R_below (by (with_reducible repeat (first | apply Kd.R_alloc | apply Kd.R_drewN | apply Kd.R_drew)); exact (Kd.R_mono (Kd.R_far (p := ⟨gb247, 2, none⟩) (Kd.R_far (p := ⟨gb247, 1, none⟩) (Kd.R_far (p := ⟨gb247, 0, none⟩) (Kd.R_types HO240.out BK247.out (by decide)) (fun _ hk => hk.2) (.slice Ao27 t238.length co27)) (fun _ hk => hk.2) (.slice Ao30 t241.length co30)) (fun _ hk => hk.2) (.slice Ao31 t244.length co31)) (fun _ h_ => h_.1))) hb); have n4_ := Aside0.mk (Kd.R_below (by (with_reducible repeat (first | apply Kd.R_alloc | apply Kd.R_drewN | apply Kd.R_drew)); exact (Kd.R_mono (Kd.R_far (p := ⟨gb247, 2, none⟩) (Kd.R_far (p := ⟨gb247, 1, none⟩) (Kd.R_far (p := ⟨gb247, 0, none⟩) (Kd.R_types HO243.out BK247.out (by decide)) (fun _ hk => hk.2) (.slice Ao27 t238.length co27)) (fun _ hk => hk.2) (.slice Ao30 t241.length co30)) (fun _ hk => hk.2) (.slice Ao31 t244.length co31)) (fun _ h_ => h_.1))) hb); have n5_ := Aside0.mk (Kd.R_below (by (with_reducible repeat (first | apply Kd.R_alloc | apply Kd.R_drewN | apply Kd.R_drew)); exact (Kd.R_mono (Kd.R_far (p := ⟨gb247, 2, none⟩) (Kd.R_far (p := ⟨gb247, 1, none⟩) (Kd.R_far (p := ⟨gb247, 0, none⟩) (Kd.R_types HO246.out BK247.out (by decide)) (fun _ hk => hk.2) (.slice Ao27 t238.length co27)) (fun _ hk => hk.2) (.slice Ao30 t241.length co30)) (fun _ hk => hk.2) (.slice Ao31 t244.length co31)) (fun _ h_ => h_.1))) hb); have n6_ := Aside0.mk (blk_below (g := gb226) (o := .cells #[.slice A0_0 l0_0.length c0_0, .slice A0_1 l0_1.length c0_1, .slice A0_2 l0_2.length c0_2] 26 (0, 0)) (by (with_reducible repeat (first | refine blk_drewN ?_ _ | refine blk_drew ?_ | refine blk_alloc ?_ _)); refine blk_far ?_ NB226_247.out _; (with_reducible repeat (first | refine blk_drewN ?_ _ | refine blk_drew ?_ | refine blk_alloc ?_ _)); refine blk_far ?_ NB226_247.out _; (with_reducible repeat (first | refine blk_drewN ?_ _ | refine blk_drew ?_ | refine blk_alloc ?_ _)); refine blk_far ?_ NB226_247.out _; (with_reducible repeat (first | refine blk_drewN ?_ _ | refine blk_drew ?_ | refine blk_alloc ?_ _)); exact BK226.out) hb); have n7_ := Aside0.mk (blk_below (g := gb247) (o := .cells #[.slice Ao27 t238.length co27, .slice Ao30 t241.length co30, .slice Ao31 t244.length co31] 32 (0, 0)) (by (with_reducible repeat (first | refine blk_drewN ?_ _ | refine blk_drew ?_ | refine blk_alloc ?_ _)); refine blk_put (cs := #[.slice Ao27 t238.length co27, .slice Ao30 t241.length co30, .slice none 0 0]) ?_ 2 _ rfl; (with_reducible repeat (first | refine blk_drewN ?_ _ | refine blk_drew ?_ | refine blk_alloc ?_ _)); refine blk_put (cs := #[.slice Ao27 t238.length co27, .slice none 0 0, .slice none 0 0]) ?_ 1 _ rfl; (with_reducible repeat (first | refine blk_drewN ?_ _ | refine blk_drew ?_ | refine blk_alloc ?_ _)); refine blk_put (cs := #[.slice none 0 0, .slice none 0 0, .slice none 0 0]) ?_ 0 _ rfl; (with_reducible repeat (first | refine blk_drewN ?_ _ | refine blk_drew ?_ | refine blk_alloc ?_ _)); exact BK247.out) hb); have n8_ := Aside0.mk (below_step (hg2_ GE226 GE247) hb); clear HO230; clear HO233; clear HO236; clear HO240; clear HO243; clear HO246; clear BK226; clear BK247; clear HB; have HO230 := n0_; have HO233 := n1_; have HO236 := n2_; have HO240 := n3_; have HO243 := n4_; have HO246 := n5_; have BK226 := n6_; have BK247 := n7_; have HB := n8_; clear n0_ n1_ n2_ n3_ n4_ n5_ n6_ n7_ n8_; (try clear hb); (try clear hb2); (try clear hk); (try clear hi)))
    have n0_ := Aside0.mk (Kd.R_drew HO230.out)
    have n1_ := Aside0.mk (Kd.R_drew HO233.out)
    have n2_ := Aside0.mk (Kd.R_drew HO236.out)
    have n3_ := Aside0.mk (Kd.R_drew HO240.out)
    have n4_ := Aside0.mk (Kd.R_drew HO243.out)
    have n5_ := Aside0.mk (Kd.R_drew HO246.out)
    have n6_ := Aside0.mk (blk_drew BK226.out)
    have n7_ := Aside0.mk (blk_drew BK247.out)
    have n8_ := Aside0.mk (below_drew1 HB.out)
    clear HO230
    clear HO233
    clear HO236
    clear HO240
    clear HO243
    clear HO246
    clear BK226
    clear BK247
    clear HB
    have HO230 := n0_
    have HO233 := n1_
    have HO236 := n2_
    have HO240 := n3_
    have HO243 := n4_
    have HO246 := n5_
    have BK226 := n6_
    have BK247 := n7_
    have HB := n8_
    clear n0_ n1_ n2_ n3_ n4_ n5_ n6_ n7_ n8_
    refine start_ (n := 5) (S := fun w' => w'.cell? ⟨gb247, 0, none⟩ = some (.slice Ao27 t238.length co27) ∧ w'.cell? ⟨gb247, 1, none⟩ = some (.slice Ao30 t241.length co30) ∧ w'.cell? ⟨gb247, 2, none⟩ = some (.slice Ao31 t244.length co31) ∧ w'.cell? ⟨gb226, 0, none⟩ = some (.slice A0_0 l0_0.length c0_0) ∧ w'.cell? ⟨gb226, 1, none⟩ = some (.slice A0_1 l0_1.length c0_1) ∧ w'.cell? ⟨gb226, 2, none⟩ = some (.slice A0_2 l0_2.length c0_2)) (ds := []) #[F_,F_,F_,F_,F_] (by kernel_rfl) rfl rfl ⟨(blk_cell BK247.out 0).trans rfl, (blk_cell BK247.out 1).trans rfl, (blk_cell BK247.out 2).trans rfl, (blk_cell BK226.out 0).trans rfl, (blk_cell BK226.out 1).trans rfl, (blk_cell BK226.out 2).trans rfl⟩ (fun hHeld => ?_)
    generalize w32.drew = w33 at HO230 HO233 HO236 HO240 HO243 HO246 BK226 BK247 HB hHeld ⊢
    refine take_ (i := 0) (N := some 22) (v := ?_) (a' := ?_) #[T_,F_,F_,F_,F_] rfl rfl (by kernel_rfl) (fun _ _ _ h => h) (Or.inl ⟨by rfl, ?_⟩) hHeld ?_ ?_
    rotate_left
    ·rintro w' ⟨s0, s1, s2, s3, s4, s5⟩
     go_simp
     with_reducible rfl
    rotate_left
    ·simp only [Act.put, sT_, s0_, sS_, i64_w, i32_w]
     rfl
    refine take_ (i := 1) (N := some 23) (v := ?_) (a' := ?_) #[T_,T_,F_,F_,F_] rfl rfl (by kernel_rfl) (fun _ _ _ h => h) (Or.inl ⟨by rfl, ?_⟩) hHeld ?_ ?_
    rotate_left
    ·rintro w' ⟨s0, s1, s2, s3, s4, s5⟩
     go_simp
     with_reducible rfl
    rotate_left
    ·simp only [Act.put, sT_, s0_, sS_, i64_w, i32_w]
     rfl
    refine one_ (i := 2) (N := some 24) #[T_,T_,T_,F_,F_] rfl rfl (by kernel_rfl) (by decide) (fun K hK => ?_)
    refine goes_ Tryd.func8 (by kernel_rfl) rfl #[.agg #[.slice A0_0 l0_0.length c0_0, .slice A0_1 l0_1.length c0_1, .slice A0_2 l0_2.length c0_2]] (by rfl) rfl rfl ln_ ?_
    with_reducible refine (laws_toRig.calls k _ _ l0_0 _ _ l0_1 _ _ l0_2 t249 t252 t255 _ ?side1 ?side2 ?side3 ?side4 ?side5 ?side6 A12.out).mono ?_
    (case side1 => exact kc_ (Kd.C_below HR0_0.out HB.out))
    (case side2 => exact HC0_0.out)
    (case side3 => exact kc_ (Kd.C_below HR0_1.out HB.out))
    (case side4 => exact HC0_1.out)
    (case side5 => exact kc_ (Kd.C_below HR0_2.out HB.out))
    (case side6 => exact HC0_2.out)
    rintro e w34 ⟨v250, v253, v256, rfl, ho0, ho1, ho2, hb⟩
    refine ⟨_, rfl, ?_⟩
    have n0_ := Aside0.mk (Kd.R_elder' (kr_ HO230) (Kd.R_base ho0) hb)
    have n1_ := Aside0.mk (Kd.R_elder' (kr_ HO233) (Kd.R_base ho1) hb)
    have n2_ := Aside0.mk (Kd.R_elder' (kr_ HO236) (Kd.R_base ho2) hb)
    have n3_ := Aside0.mk (Kd.R_elder' (kr_ HO240) (Kd.R_base ho0) hb)
    have n4_ := Aside0.mk (Kd.R_elder' (kr_ HO243) (Kd.R_base ho1) hb)
    have n5_ := Aside0.mk (Kd.R_elder' (kr_ HO246) (Kd.R_base ho2) hb)
    have n6_ := Aside0.mk (Kd.R_lower (Kd.R_new' (Kd.R_new' ho0 (Kd.R_lt (kr_ HO230))) (Kd.R_lt (kr_ HO240))) (below_size (hg2_ GE226 GE247)))
    have n7_ := Aside0.mk (Kd.R_lower (Kd.R_new' (Kd.R_new' ho1 (Kd.R_lt (kr_ HO233))) (Kd.R_lt (kr_ HO243))) (below_size (hg2_ GE226 GE247)))
    have n8_ := Aside0.mk (Kd.R_lower (Kd.R_new' (Kd.R_new' ho2 (Kd.R_lt (kr_ HO236))) (Kd.R_lt (kr_ HO246))) (below_size (hg2_ GE226 GE247)))
    have n9_ := Aside0.mk (blk_below (g := gb226) (o := .cells #[.slice A0_0 l0_0.length c0_0, .slice A0_1 l0_1.length c0_1, .slice A0_2 l0_2.length c0_2] 26 (0, 0)) (bk_ BK226) hb)
    have n10_ := Aside0.mk (blk_below (g := gb247) (o := .cells #[.slice Ao27 t238.length co27, .slice Ao30 t241.length co30, .slice Ao31 t244.length co31] 32 (0, 0)) (bk_ BK247) hb)
    have n11_ := Aside0.mk (below_step (hg2_ GE226 GE247) hb)
    clear HO230
    clear HO233
    clear HO236
    clear HO240
    clear HO243
    clear HO246
    clear BK226
    clear BK247
    clear HB
    have HO230 := n0_
    have HO233 := n1_
    have HO236 := n2_
    have HO240 := n3_
    have HO243 := n4_
    have HO246 := n5_
    have HO251 := n6_
    have HO254 := n7_
    have HO257 := n8_
    have BK226 := n9_
    have BK247 := n10_
    have HB := n11_
    clear n0_ n1_ n2_ n3_ n4_ n5_ n6_ n7_ n8_ n9_ n10_ n11_
    (try clear hb)
    (try clear hb2)
    (try clear hk)
    (try clear hi)
    (try clear ho0)
    (try clear ho1)
    (try clear ho2)
    obtain ⟨Ao35, co35, eo35⟩ := Kd.R_slice HO251.out
    (first | subst eo35 | (injection eo35 with f1_ f2_ f3_; have f4_ := f1_.symm; have f5_ := f3_.symm; clear f1_ f2_ f3_; subst f4_; subst f5_))
    obtain ⟨Ao36, co36, eo36⟩ := Kd.R_slice HO254.out
    (first | subst eo36 | (injection eo36 with f1_ f2_ f3_; have f4_ := f1_.symm; have f5_ := f3_.symm; clear f1_ f2_ f3_; subst f4_; subst f5_))
    obtain ⟨Ao37, co37, eo37⟩ := Kd.R_slice HO257.out
    (first | subst eo37 | (injection eo37 with f1_ f2_ f3_; have f4_ := f1_.symm; have f5_ := f3_.symm; clear f1_ f2_ f3_; subst f4_; subst f5_))
    refine hK.out _ _ ⟨(blk_cell BK247.out 0).trans rfl, (blk_cell BK247.out 1).trans rfl, (blk_cell BK247.out 2).trans rfl, (blk_cell BK226.out 0).trans rfl, (blk_cell BK226.out 1).trans rfl, (blk_cell BK226.out 2).trans rfl⟩ (fun hHeld => ?_)
    clear hK K
    refine norm_ (a' := ?_) ?_ ?_
    rotate_left
    ·show Act.put _ (some 24) _ = _
     simp only [Act.put, sT_, s0_, sS_, i64_w, i32_w]
     rfl
    refine one_ (i := 3) (N := some 25) #[T_,T_,T_,T_,F_] rfl rfl (by kernel_rfl) (by decide) (fun K hK => ?_)
    refine goes_ Tryd.func10 (by kernel_rfl) rfl #[.agg #[.slice Ao27 t238.length co27, .slice Ao30 t241.length co30, .slice Ao31 t244.length co31], .agg #[.slice Ao35 t249.length co35, .slice Ao36 t252.length co36, .slice Ao37 t255.length co37]] (by rfl) rfl rfl ln_ ?_
    with_reducible refine (laws_eqRig.calls k _ _ t238 _ _ t241 _ _ t244 _ _ t249 _ _ t252 _ _ t255 true _ ?side1 ?side2 ?side3 ?side4 ?side5 ?side6 ?side7 ?side8 ?side9 ?side10 ?side11 ?side12 A13.out).mono ?_
    (case side1 => repeat (first | exact (Kd.R_reads' HO240.out).2.2 | (with_reducible refine Kd.C_alloc ?_ _) | (with_reducible refine Kd.C_drewN ?_ _) | (with_reducible refine Kd.C_drew ?_)))
    (case side2 => exact (Kd.R_reads' HO240.out).2.1)
    (case side3 => repeat (first | exact (Kd.R_reads' HO243.out).2.2 | (with_reducible refine Kd.C_alloc ?_ _) | (with_reducible refine Kd.C_drewN ?_ _) | (with_reducible refine Kd.C_drew ?_)))
    (case side4 => exact (Kd.R_reads' HO243.out).2.1)
    (case side5 => repeat (first | exact (Kd.R_reads' HO246.out).2.2 | (with_reducible refine Kd.C_alloc ?_ _) | (with_reducible refine Kd.C_drewN ?_ _) | (with_reducible refine Kd.C_drew ?_)))
    (case side6 => exact (Kd.R_reads' HO246.out).2.1)
    (case side7 => repeat (first | exact (Kd.R_reads' HO251.out).2.2 | (with_reducible refine Kd.C_alloc ?_ _) | (with_reducible refine Kd.C_drewN ?_ _) | (with_reducible refine Kd.C_drew ?_)))
    (case side8 => exact (Kd.R_reads' HO251.out).2.1)
    (case side9 => repeat (first | exact (Kd.R_reads' HO254.out).2.2 | (with_reducible refine Kd.C_alloc ?_ _) | (with_reducible refine Kd.C_drewN ?_ _) | (with_reducible refine Kd.C_drew ?_)))
    (case side10 => exact (Kd.R_reads' HO254.out).2.1)
    (case side11 => repeat (first | exact (Kd.R_reads' HO257.out).2.2 | (with_reducible refine Kd.C_alloc ?_ _) | (with_reducible refine Kd.C_drewN ?_ _) | (with_reducible refine Kd.C_drew ?_)))
    (case side12 => exact (Kd.R_reads' HO257.out).2.1)
    rintro e w38 ⟨rfl, hb⟩
    refine ⟨_, rfl, ?_⟩
    have n0_ := Aside0.mk (Kd.R_below (kr_ HO230) hb)
    have n1_ := Aside0.mk (Kd.R_below (kr_ HO233) hb)
    have n2_ := Aside0.mk (Kd.R_below (kr_ HO236) hb)
    have n3_ := Aside0.mk (Kd.R_below (kr_ HO240) hb)
    have n4_ := Aside0.mk (Kd.R_below (kr_ HO243) hb)
    have n5_ := Aside0.mk (Kd.R_below (kr_ HO246) hb)
    have n6_ := Aside0.mk (Kd.R_below (kr_ HO251) hb)
    have n7_ := Aside0.mk (Kd.R_below (kr_ HO254) hb)
    have n8_ := Aside0.mk (Kd.R_below (kr_ HO257) hb)
    have n9_ := Aside0.mk (blk_below (g := gb226) (o := .cells #[.slice A0_0 l0_0.length c0_0, .slice A0_1 l0_1.length c0_1, .slice A0_2 l0_2.length c0_2] 26 (0, 0)) (bk_ BK226) hb)
    have n10_ := Aside0.mk (blk_below (g := gb247) (o := .cells #[.slice Ao27 t238.length co27, .slice Ao30 t241.length co30, .slice Ao31 t244.length co31] 32 (0, 0)) (bk_ BK247) hb)
    have n11_ := Aside0.mk (below_step (hg2_ GE226 GE247) hb)
    clear HO230
    clear HO233
    clear HO236
    clear HO240
    clear HO243
    clear HO246
    clear HO251
    clear HO254
    clear HO257
    clear BK226
    clear BK247
    clear HB
    have HO230 := n0_
    have HO233 := n1_
    have HO236 := n2_
    have HO240 := n3_
    have HO243 := n4_
    have HO246 := n5_
    have HO251 := n6_
    have HO254 := n7_
    have HO257 := n8_
    have BK226 := n9_
    have BK247 := n10_
    have HB := n11_
    clear n0_ n1_ n2_ n3_ n4_ n5_ n6_ n7_ n8_ n9_ n10_ n11_
    (try clear hb)
    (try clear hb2)
    (try clear hk)
    (try clear hi)
    refine hK.out _ _ ⟨(blk_cell BK247.out 0).trans rfl, (blk_cell BK247.out 1).trans rfl, (blk_cell BK247.out 2).trans rfl, (blk_cell BK226.out 0).trans rfl, (blk_cell BK226.out 1).trans rfl, (blk_cell BK226.out 2).trans rfl⟩ (fun hHeld => ?_)
    clear hK K
    refine norm_ (a' := ?_) ?_ ?_
    rotate_left
    ·show Act.put _ (some 25) _ = _
     simp only [Act.put, sT_, s0_, sS_, i64_w, i32_w]
     rfl
    refine pure_ (i := 4) (N := some 26) (v := ?_) (a' := ?_) #[T_,T_,T_,T_,T_] rfl rfl (by kernel_rfl) (fun _ _ _ h => h) (Or.inl ⟨by rfl, ?_⟩) ?_ ?_
    rotate_left
    ·intro w'
     go_simp
     with_reducible rfl
    rotate_left
    ·simp only [Act.put, sT_, s0_, sS_, i64_w, i32_w]
     rfl
    refine done_ (by kernel_rfl) ?_
    try go_wp2
    go_ret
    exact ⟨ew_, (hg2_ GE226 GE247)⟩
   ·replace c14 := Bool.eq_false_iff.mpr c14
    subst c14
    have H1 : (some false) = some r := by rw [if_neg (show ¬ (false = true) by decide)] at H; exact H
    clear H
    have H := H1
    clear H1
    obtain rfl := Option.some.inj H
    go_enter Tryd.func3, Tryd.ntmps3
    try go_wp2_with (first | ((with_reducible refine gate_dst (N := 1) rfl ?_); refine box_event ?hg (N := 1) ?hd (cs := #[.slice A0_0 l0_0.length c0_0, .slice A0_1 l0_1.length c0_1, .slice A0_2 l0_2.length c0_2]) (t := 26) ?hr ?_; (case hd => rfl); (case hg => rfl); (case hr => first | (go_simp; done) | (go_simp; rfl)); intro gb226 hg w39 hbox hb; have n0_ := Aside0.mk (below_step hb_ hb); have n1_ := Aside0.mk (hbox); have n2_ := Aside0.mk ((by rw [hg]; exact (below_size hb_) : w.heap.size ≤ gb226)); have n3_ := Aside0.mk ((by rw [hg]; exact (below_size hb_) : w.heap.size ≤ gb226)); clear HB; have HB := n0_; have BK226 := n1_; have GW226 := n2_; have GE226 := n3_; clear n0_ n1_ n2_ n3_; clear hb hbox hg; have hcz40_0 : w39.cell? ⟨gb226, 0, none⟩ = some (.slice A0_0 l0_0.length c0_0) := (blk_cell BK226.out 0).trans rfl; have hcz40_1 : w39.cell? ⟨gb226, 1, none⟩ = some (.slice A0_1 l0_1.length c0_1) := (blk_cell BK226.out 1).trans rfl; have hcz40_2 : w39.cell? ⟨gb226, 2, none⟩ = some (.slice A0_2 l0_2.length c0_2) := (blk_cell BK226.out 2).trans rfl; have hfz40_0 := blk_frozen BK226.out 0; have hfz40_1 := blk_frozen BK226.out 1; have hfz40_2 := blk_frozen BK226.out 2) | ((with_reducible refine gate_callee (f := 6) rfl ?_); refine goesL_ (some 9) rfl rfl Tryd.func6 (by kernel_rfl) rfl #[.agg #[.slice A0_0 l0_0.length c0_0, .slice A0_1 l0_1.length c0_1, .slice A0_2 l0_2.length c0_2], .int .i64 1048576] rfl ln_ ?_; (with_reducible refine (laws_szRig.calls k _ _ l0_0 _ _ l0_1 _ _ l0_2 1048576 t227 _ ?side1 ?side2 ?side3 ?side4 ?side5 ?side6 A2.out).mono ?_); (case side1 => exact kc_ (Kd.C_below HR0_0.out HB.out)); (case side2 => exact HC0_0.out); (case side3 => exact kc_ (Kd.C_below HR0_1.out HB.out)); (case side4 => exact HC0_1.out); (case side5 => exact kc_ (Kd.C_below HR0_2.out HB.out)); (case side6 => exact HC0_2.out); rintro e w41 ⟨rfl, hb⟩; refine ⟨_, rfl, ?_⟩; have n0_ := Aside0.mk (blk_below (g := gb226) (o := .cells #[.slice A0_0 l0_0.length c0_0, .slice A0_1 l0_1.length c0_1, .slice A0_2 l0_2.length c0_2] 26 (0, 0)) (bk_ BK226) hb); have n1_ := Aside0.mk (below_step (hg_ GE226) hb); clear BK226; clear HB; have BK226 := n0_; have HB := n1_; clear n0_ n1_; (try clear hb); (try clear hb2); (try clear hk); (try clear hi); have hcz42_0 : w41.cell? ⟨gb226, 0, none⟩ = some (.slice A0_0 l0_0.length c0_0) := (blk_cell BK226.out 0).trans rfl; have hcz42_1 : w41.cell? ⟨gb226, 1, none⟩ = some (.slice A0_1 l0_1.length c0_1) := (blk_cell BK226.out 1).trans rfl; have hcz42_2 : w41.cell? ⟨gb226, 2, none⟩ = some (.slice A0_2 l0_2.length c0_2) := (blk_cell BK226.out 2).trans rfl; have hfz42_0 := blk_frozen BK226.out 0; have hfz42_1 := blk_frozen BK226.out 1; have hfz42_2 := blk_frozen BK226.out 2) | ((with_reducible refine gate_callee (f := 8) rfl ?_); refine goesL_ (some 13) rfl rfl Tryd.func8 (by kernel_rfl) rfl #[.agg #[.slice A0_0 l0_0.length c0_0, .slice A0_1 l0_1.length c0_1, .slice A0_2 l0_2.length c0_2]] rfl ln_ ?_; (with_reducible refine (laws_toRig.calls k _ _ l0_0 _ _ l0_1 _ _ l0_2 t228 t231 t234 _ ?side1 ?side2 ?side3 ?side4 ?side5 ?side6 A7.out).mono ?_); (case side1 => exact kc_ (Kd.C_below HR0_0.out HB.out)); (case side2 => exact HC0_0.out); (case side3 => exact kc_ (Kd.C_below HR0_1.out HB.out)); (case side4 => exact HC0_1.out); (case side5 => exact kc_ (Kd.C_below HR0_2.out HB.out)); (case side6 => exact HC0_2.out); rintro e w43 ⟨v229, v232, v235, rfl, ho0, ho1, ho2, hb⟩; refine ⟨_, rfl, ?_⟩; have n0_ := Aside0.mk (Kd.R_lower ho0 (below_size (hg_ GE226))); have n1_ := Aside0.mk (Kd.R_lower ho1 (below_size (hg_ GE226))); have n2_ := Aside0.mk (Kd.R_lower ho2 (below_size (hg_ GE226))); have n3_ := Aside0.mk (blk_below (g := gb226) (o := .cells #[.slice A0_0 l0_0.length c0_0, .slice A0_1 l0_1.length c0_1, .slice A0_2 l0_2.length c0_2] 26 (0, 0)) (bk_ BK226) hb); have n4_ := Aside0.mk (below_step (hg_ GE226) hb); clear BK226; clear HB; have HO230 := n0_; have HO233 := n1_; have HO236 := n2_; have BK226 := n3_; have HB := n4_; clear n0_ n1_ n2_ n3_ n4_; (try clear hb); (try clear hb2); (try clear hk); (try clear hi); (try clear ho0); (try clear ho1); (try clear ho2); obtain ⟨Ao44, co44, eo44⟩ := Kd.R_slice HO230.out; subst eo44; obtain ⟨Ao45, co45, eo45⟩ := Kd.R_slice HO233.out; subst eo45; obtain ⟨Ao46, co46, eo46⟩ := Kd.R_slice HO236.out; subst eo46) | ((with_reducible refine gate_callee (f := 7) rfl ?_); refine goesL_ (some 14) rfl rfl Tryd.func7 (by kernel_rfl) rfl #[.agg #[.slice Ao44 t228.length co44, .slice Ao45 t231.length co45, .slice Ao46 t234.length co46]] rfl ln_ ?_; (with_reducible refine (spec_RigText.calls k _ _ t228 _ _ t231 _ _ t234 t237 _ ?side1 ?side2 ?side3 ?side4 ?side5 ?side6 A8.out).mono ?_); (case side1 => repeat (first | exact (Kd.R_reads' HO230.out).2.2 | (with_reducible refine Kd.C_alloc ?_ _) | (with_reducible refine Kd.C_drewN ?_ _) | (with_reducible refine Kd.C_drew ?_))); (case side2 => exact (Kd.R_reads' HO230.out).2.1); (case side3 => repeat (first | exact (Kd.R_reads' HO233.out).2.2 | (with_reducible refine Kd.C_alloc ?_ _) | (with_reducible refine Kd.C_drewN ?_ _) | (with_reducible refine Kd.C_drew ?_))); (case side4 => exact (Kd.R_reads' HO233.out).2.1); (case side5 => repeat (first | exact (Kd.R_reads' HO236.out).2.2 | (with_reducible refine Kd.C_alloc ?_ _) | (with_reducible refine Kd.C_drewN ?_ _) | (with_reducible refine Kd.C_drew ?_))); (case side6 => exact (Kd.R_reads' HO236.out).2.1); rintro e w47 ⟨rfl, hb⟩; refine ⟨_, rfl, ?_⟩; have n0_ := Aside0.mk (Kd.R_below (kr_ HO230) hb); have n1_ := Aside0.mk (Kd.R_below (kr_ HO233) hb); have n2_ := Aside0.mk (Kd.R_below (kr_ HO236) hb); have n3_ := Aside0.mk (blk_below (g := gb226) (o := .cells #[.slice A0_0 l0_0.length c0_0, .slice A0_1 l0_1.length c0_1, .slice A0_2 l0_2.length c0_2] 26 (0, 0)) (bk_ BK226) hb); have n4_ := Aside0.mk (below_step (hg_ GE226) hb); clear HO230; clear HO233; clear HO236; clear BK226; clear HB; have HO230 := n0_; have HO233 := n1_; have HO236 := n2_; have BK226 := n3_; have HB := n4_; clear n0_ n1_ n2_ n3_ n4_; (try clear hb); (try clear hb2); (try clear hk); (try clear hi); have hcz48_0 : w47.cell? ⟨gb226, 0, none⟩ = some (.slice A0_0 l0_0.length c0_0) := (blk_cell BK226.out 0).trans rfl; have hcz48_1 : w47.cell? ⟨gb226, 1, none⟩ = some (.slice A0_1 l0_1.length c0_1) := (blk_cell BK226.out 1).trans rfl; have hcz48_2 : w47.cell? ⟨gb226, 2, none⟩ = some (.slice A0_2 l0_2.length c0_2) := (blk_cell BK226.out 2).trans rfl; have hfz48_0 := blk_frozen BK226.out 0; have hfz48_1 := blk_frozen BK226.out 1; have hfz48_2 := blk_frozen BK226.out 2) | ((with_reducible refine gate_callee (f := 8) rfl ?_); refine goesL_ (some 16) rfl rfl Tryd.func8 (by kernel_rfl) rfl #[.agg #[.slice A0_0 l0_0.length c0_0, .slice A0_1 l0_1.length c0_1, .slice A0_2 l0_2.length c0_2]] rfl ln_ ?_; (with_reducible refine (laws_toRig.calls k _ _ l0_0 _ _ l0_1 _ _ l0_2 t238 t241 t244 _ ?side1 ?side2 ?side3 ?side4 ?side5 ?side6 A9.out).mono ?_); (case side1 => exact kc_ (Kd.C_below HR0_0.out HB.out)); (case side2 => exact HC0_0.out); (case side3 => exact kc_ (Kd.C_below HR0_1.out HB.out)); (case side4 => exact HC0_1.out); (case side5 => exact kc_ (Kd.C_below HR0_2.out HB.out)); (case side6 => exact HC0_2.out); rintro e w49 ⟨v239, v242, v245, rfl, ho0, ho1, ho2, hb⟩; refine ⟨_, rfl, ?_⟩; have n0_ := Aside0.mk (Kd.R_elder' (kr_ HO230) (Kd.R_base ho0) hb); have n1_ := Aside0.mk (Kd.R_elder' (kr_ HO233) (Kd.R_base ho1) hb); have n2_ := Aside0.mk (Kd.R_elder' (kr_ HO236) (Kd.R_base ho2) hb); have n3_ := Aside0.mk (Kd.R_lower (Kd.R_new' ho0 (Kd.R_lt (kr_ HO230))) (below_size (hg_ GE226))); have n4_ := Aside0.mk (Kd.R_lower (Kd.R_new' ho1 (Kd.R_lt (kr_ HO233))) (below_size (hg_ GE226))); have n5_ := Aside0.mk (Kd.R_lower (Kd.R_new' ho2 (Kd.R_lt (kr_ HO236))) (below_size (hg_ GE226))); have n6_ := Aside0.mk (blk_below (g := gb226) (o := .cells #[.slice A0_0 l0_0.length c0_0, .slice A0_1 l0_1.length c0_1, .slice A0_2 l0_2.length c0_2] 26 (0, 0)) (bk_ BK226) hb); have n7_ := Aside0.mk (below_step (hg_ GE226) hb); clear HO230; clear HO233; clear HO236; clear BK226; clear HB; have HO230 := n0_; have HO233 := n1_; have HO236 := n2_; have HO240 := n3_; have HO243 := n4_; have HO246 := n5_; have BK226 := n6_; have HB := n7_; clear n0_ n1_ n2_ n3_ n4_ n5_ n6_ n7_; (try clear hb); (try clear hb2); (try clear hk); (try clear hi); (try clear ho0); (try clear ho1); (try clear ho2)) | ((with_reducible refine gate_dst (N := 5) rfl ?_); refine box_event ?hg (N := 5) ?hd (cs := #[.slice none 0 0, .slice none 0 0, .slice none 0 0]) (t := 32) ?hr ?_; (case hd => rfl); (case hg => rfl); (case hr => first | (go_simp; done) | (go_simp; rfl)); intro gb247 hg w50 hbox hb; have n0_ := Aside0.mk (Kd.R_below (kr_ HO230) hb); have n1_ := Aside0.mk (Kd.R_below (kr_ HO233) hb); have n2_ := Aside0.mk (Kd.R_below (kr_ HO236) hb); have n3_ := Aside0.mk (Kd.R_below (kr_ HO240) hb); have n4_ := Aside0.mk (Kd.R_below (kr_ HO243) hb); have n5_ := Aside0.mk (Kd.R_below (kr_ HO246) hb); have n6_ := Aside0.mk (blk_below (g := gb226) (o := .cells #[.slice A0_0 l0_0.length c0_0, .slice A0_1 l0_1.length c0_1, .slice A0_2 l0_2.length c0_2] 26 (0, 0)) (bk_ BK226) hb); have n7_ := Aside0.mk (below_step (hg_ GE226) hb); have n8_ := Aside0.mk (hbox); have n9_ := Aside0.mk ((by rw [hg]; exact (below_size (hg_ GE226)) : w.heap.size ≤ gb247)); have n10_ := Aside0.mk ((by rw [hg]; exact (below_size (hg_ GE226)) : w.heap.size ≤ gb247)); have n11_ := Aside0.mk ((by rw [hg]; exact Nat.ne_of_lt (blk_lt (g := gb226) (o := .cells #[.slice A0_0 l0_0.length c0_0, .slice A0_1 l0_1.length c0_1, .slice A0_2 l0_2.length c0_2] 26 (0, 0)) (bk_ BK226)) : gb226 ≠ gb247)); have n12_ := Aside0.mk ((by rw [hg]; exact Nat.ne_of_gt (blk_lt (g := gb226) (o := .cells #[.slice A0_0 l0_0.length c0_0, .slice A0_1 l0_1.length c0_1, .slice A0_2 l0_2.length c0_2] 26 (0, 0)) (bk_ BK226)) : gb247 ≠ gb226)); clear HO230; clear HO233; clear HO236; clear HO240; clear HO243; clear HO246; clear BK226; clear HB; have HO230 := n0_; have HO233 := n1_; have HO236 := n2_; have HO240 := n3_; have HO243 := n4_; have HO246 := n5_; have BK226 := n6_; have HB := n7_; have BK247 := n8_; have GW247 := n9_; have GE247 := n10_; have NB226_247 := n11_; have NB247_226 := n12_; clear n0_ n1_ n2_ n3_ n4_ n5_ n6_ n7_ n8_ n9_ n10_ n11_ n12_; clear hb hbox hg; obtain ⟨Ao51, co51, eo51⟩ := Kd.R_slice HO240.out; subst eo51; have hnb52 := NB247_226.out; have hnc52 := NB226_247.out; have hcz53_0 : w50.cell? ⟨gb247, 0, none⟩ = some (.slice none 0 0) := (blk_cell BK247.out 0).trans rfl; have hcz53_1 : w50.cell? ⟨gb247, 1, none⟩ = some (.slice none 0 0) := (blk_cell BK247.out 1).trans rfl; have hcz53_2 : w50.cell? ⟨gb247, 2, none⟩ = some (.slice none 0 0) := (blk_cell BK247.out 2).trans rfl; have hfz53_0 := blk_frozen BK247.out 0; have hfz53_1 := blk_frozen BK247.out 1; have hfz53_2 := blk_frozen BK247.out 2; obtain ⟨Ao54, co54, eo54⟩ := Kd.R_slice HO243.out; subst eo54; obtain ⟨Ao55, co55, eo55⟩ := Kd.R_slice HO246.out; subst eo55) | ((with_reducible refine gate_callee (f := 9) rfl ?_); refine goesL_ (some 18) rfl rfl Tryd.func9 (by kernel_rfl) rfl #[.agg #[.slice Ao51 t238.length co51, .slice Ao54 t241.length co54, .slice Ao55 t244.length co55]] rfl ln_ ?_; (with_reducible refine (impl_RigText.calls k _ _ t238 _ _ t241 _ _ t244 t248 _ ?side1 ?side2 ?side3 ?side4 ?side5 ?side6 ?side7 A10.out).mono ?_); (case side1 => refine (Kd.R_reads' (e := 64) (base := w.heap.size) (ok := fun k_ => (True ∧ some k_ ≠ (.slice Ao44 t228.length co44 : Value).ownBlock)) (n := t238.length) (c := co51) ?_).2.2; exact (by (with_reducible repeat (first | apply Kd.R_alloc | apply Kd.R_drewN | apply Kd.R_drew)); exact (Kd.R_mono (Kd.R_far (p := ⟨gb247, 2, none⟩) (Kd.R_far (p := ⟨gb247, 1, none⟩) (Kd.R_far (p := ⟨gb247, 0, none⟩) (Kd.R_types HO240.out BK247.out (by decide)) (fun _ hk => hk.2) (.slice Ao51 t238.length co51)) (fun _ hk => hk.2) (.slice Ao54 t241.length co54)) (fun _ hk => hk.2) (.slice Ao55 t244.length co55)) (fun _ h_ => h_.1)))); (case side2 => exact (Kd.R_reads' HO240.out).2.1); (case side3 => refine (Kd.R_reads' (e := 9) (base := w.heap.size) (ok := fun k_ => (True ∧ some k_ ≠ (.slice Ao45 t231.length co45 : Value).ownBlock)) (n := t241.length) (c := co54) ?_).2.2; exact (by (with_reducible repeat (first | apply Kd.R_alloc | apply Kd.R_drewN | apply Kd.R_drew)); exact (Kd.R_mono (Kd.R_far (p := ⟨gb247, 2, none⟩) (Kd.R_far (p := ⟨gb247, 1, none⟩) (Kd.R_far (p := ⟨gb247, 0, none⟩) (Kd.R_types HO243.out BK247.out (by decide)) (fun _ hk => hk.2) (.slice Ao51 t238.length co51)) (fun _ hk => hk.2) (.slice Ao54 t241.length co54)) (fun _ hk => hk.2) (.slice Ao55 t244.length co55)) (fun _ h_ => h_.1)))); (case side4 => exact (Kd.R_reads' HO243.out).2.1); (case side5 => refine (Kd.R_reads' (e := 67) (base := w.heap.size) (ok := fun k_ => (True ∧ some k_ ≠ (.slice Ao46 t234.length co46 : Value).ownBlock)) (n := t244.length) (c := co55) ?_).2.2; exact (by (with_reducible repeat (first | apply Kd.R_alloc | apply Kd.R_drewN | apply Kd.R_drew)); exact (Kd.R_mono (Kd.R_far (p := ⟨gb247, 2, none⟩) (Kd.R_far (p := ⟨gb247, 1, none⟩) (Kd.R_far (p := ⟨gb247, 0, none⟩) (Kd.R_types HO246.out BK247.out (by decide)) (fun _ hk => hk.2) (.slice Ao51 t238.length co51)) (fun _ hk => hk.2) (.slice Ao54 t241.length co54)) (fun _ hk => hk.2) (.slice Ao55 t244.length co55)) (fun _ h_ => h_.1)))); (case side6 => exact (Kd.R_reads' HO246.out).2.1); (case side7 => first | exact HT.out | exact TB.below HT.out HB.out | ((repeat (first | exact HT.out | exact TB.below HT.out HB.out | apply TB.drewN | apply TB.drew)); done) | exact TB.below HT.out (by repeat (first | exact HB.out | apply below_alloc | apply pw_below_drewN | apply below_drew1 | refine below_set ?_ (Aside0.out (by assumption))))); rintro e w56 ⟨rfl, hb⟩; refine ⟨_, rfl, ?_⟩; have n0_ := Aside0.mk (Kd.R_below (by (with_reducible repeat (first | apply Kd.R_alloc | apply Kd.R_drewN | apply Kd.R_drew)); exact (Kd.R_mono (Kd.R_far (p := ⟨gb247, 2, none⟩) (Kd.R_far (p := ⟨gb247, 1, none⟩) (Kd.R_far (p := ⟨gb247, 0, none⟩) (Kd.R_types HO230.out BK247.out (by decide)) (fun _ hk => hk.2) (.slice Ao51 t238.length co51)) (fun _ hk => hk.2) (.slice Ao54 t241.length co54)) (fun _ hk => hk.2) (.slice Ao55 t244.length co55)) (fun _ h_ => h_.1))) hb); have n1_ := Aside0.mk (Kd.R_below (by (with_reducible repeat (first | apply Kd.R_alloc | apply Kd.R_drewN | apply Kd.R_drew)); exact (Kd.R_mono (Kd.R_far (p := ⟨gb247, 2, none⟩) (Kd.R_far (p := ⟨gb247, 1, none⟩) (Kd.R_far (p := ⟨gb247, 0, none⟩) (Kd.R_types HO233.out BK247.out (by decide)) (fun _ hk => hk.2) (.slice Ao51 t238.length co51)) (fun _ hk => hk.2) (.slice Ao54 t241.length co54)) (fun _ hk => hk.2) (.slice Ao55 t244.length co55)) (fun _ h_ => h_.1))) hb); have n2_ := Aside0.mk (Kd.R_below (by (with_reducible repeat (first | apply Kd.R_alloc | apply Kd.R_drewN | apply Kd.R_drew)); exact (Kd.R_mono (Kd.R_far (p := ⟨gb247, 2, none⟩) (Kd.R_far (p := ⟨gb247, 1, none⟩) (Kd.R_far (p := ⟨gb247, 0, none⟩) (Kd.R_types HO236.out BK247.out (by decide)) (fun _ hk => hk.2) (.slice Ao51 t238.length co51)) (fun _ hk => hk.2) (.slice Ao54 t241.length co54)) (fun _ hk => hk.2) (.slice Ao55 t244.length co55)) (fun _ h_ => h_.1))) hb); have n3_ := Aside0.mk (Kd.R_below (by (with_reducible repeat (first | apply Kd.R_alloc | apply Kd.R_drewN | apply Kd.R_drew)); exact (Kd.R_mono (Kd.R_far (p := ⟨gb247, 2, none⟩) (Kd.R_far (p := ⟨gb247, 1, none⟩) (Kd.R_far (p := ⟨gb247, 0, none⟩) (Kd.R_types HO240.out BK247.out (by decide)) (fun _ hk => hk.2) (.slice Ao51 t238.length co51)) (fun _ hk => hk.2) (.slice Ao54 t241.length co54)) (fun _ hk => hk.2) (.slice Ao55 t244.length co55)) (fun _ h_ => h_.1))) hb); have n4_ := Aside0.mk (Kd.R_below (by (with_reducible repeat (first | apply Kd.R_alloc | apply Kd.R_drewN | apply Kd.R_drew)); exact (Kd.R_mono (Kd.R_far (p := ⟨gb247, 2, none⟩) (Kd.R_far (p := ⟨gb247, 1, none⟩) (Kd.R_far (p := ⟨gb247, 0, none⟩) (Kd.R_types HO243.out BK247.out (by decide)) (fun _ hk => hk.2) (.slice Ao51 t238.length co51)) (fun _ hk => hk.2) (.slice Ao54 t241.length co54)) (fun _ hk => hk.2) (.slice Ao55 t244.length co55)) (fun _ h_ => h_.1))) hb); have n5_ := Aside0.mk (Kd.R_below (by (with_reducible repeat (first | apply Kd.R_alloc | apply Kd.R_drewN | apply Kd.R_drew)); exact (Kd.R_mono (Kd.R_far (p := ⟨gb247, 2, none⟩) (Kd.R_far (p := ⟨gb247, 1, none⟩) (Kd.R_far (p := ⟨gb247, 0, none⟩) (Kd.R_types HO246.out BK247.out (by decide)) (fun _ hk => hk.2) (.slice Ao51 t238.length co51)) (fun _ hk => hk.2) (.slice Ao54 t241.length co54)) (fun _ hk => hk.2) (.slice Ao55 t244.length co55)) (fun _ h_ => h_.1))) hb); have n6_ := Aside0.mk (blk_below (g := gb226) (o := .cells #[.slice A0_0 l0_0.length c0_0, .slice A0_1 l0_1.length c0_1, .slice A0_2 l0_2.length c0_2] 26 (0, 0)) (by (with_reducible repeat (first | refine blk_drewN ?_ _ | refine blk_drew ?_ | refine blk_alloc ?_ _)); refine blk_far ?_ NB226_247.out _; (with_reducible repeat (first | refine blk_drewN ?_ _ | refine blk_drew ?_ | refine blk_alloc ?_ _)); refine blk_far ?_ NB226_247.out _; (with_reducible repeat (first | refine blk_drewN ?_ _ | refine blk_drew ?_ | refine blk_alloc ?_ _)); refine blk_far ?_ NB226_247.out _; (with_reducible repeat (first | refine blk_drewN ?_ _ | refine blk_drew ?_ | refine blk_alloc ?_ _)); exact BK226.out) hb); have n7_ := Aside0.mk (blk_below (g := gb247) (o := .cells #[.slice Ao51 t238.length co51, .slice Ao54 t241.length co54, .slice Ao55 t244.length co55] 32 (0, 0)) (by (with_reducible repeat (first | refine blk_drewN ?_ _ | refine blk_drew ?_ | refine blk_alloc ?_ _)); refine blk_put (cs := #[.slice Ao51 t238.length co51, .slice Ao54 t241.length co54, .slice none 0 0]) ?_ 2 _ rfl; (with_reducible repeat (first | refine blk_drewN ?_ _ | refine blk_drew ?_ | refine blk_alloc ?_ _)); refine blk_put (cs := #[.slice Ao51 t238.length co51, .slice none 0 0, .slice none 0 0]) ?_ 1 _ rfl; (with_reducible repeat (first | refine blk_drewN ?_ _ | refine blk_drew ?_ | refine blk_alloc ?_ _)); refine blk_put (cs := #[.slice none 0 0, .slice none 0 0, .slice none 0 0]) ?_ 0 _ rfl; (with_reducible repeat (first | refine blk_drewN ?_ _ | refine blk_drew ?_ | refine blk_alloc ?_ _)); exact BK247.out) hb); have n8_ := Aside0.mk (below_step (hg2_ GE226 GE247) hb); clear HO230; clear HO233; clear HO236; clear HO240; clear HO243; clear HO246; clear BK226; clear BK247; clear HB; have HO230 := n0_; have HO233 := n1_; have HO236 := n2_; have HO240 := n3_; have HO243 := n4_; have HO246 := n5_; have BK226 := n6_; have BK247 := n7_; have HB := n8_; clear n0_ n1_ n2_ n3_ n4_ n5_ n6_ n7_ n8_; (try clear hb); (try clear hb2); (try clear hk); (try clear hi)))
    have n0_ := Aside0.mk (Kd.R_drew HO230.out)
    have n1_ := Aside0.mk (Kd.R_drew HO233.out)
    have n2_ := Aside0.mk (Kd.R_drew HO236.out)
    have n3_ := Aside0.mk (Kd.R_drew HO240.out)
    have n4_ := Aside0.mk (Kd.R_drew HO243.out)
    have n5_ := Aside0.mk (Kd.R_drew HO246.out)
    have n6_ := Aside0.mk (blk_drew BK226.out)
    have n7_ := Aside0.mk (blk_drew BK247.out)
    have n8_ := Aside0.mk (below_drew1 HB.out)
    clear HO230
    clear HO233
    clear HO236
    clear HO240
    clear HO243
    clear HO246
    clear BK226
    clear BK247
    clear HB
    have HO230 := n0_
    have HO233 := n1_
    have HO236 := n2_
    have HO240 := n3_
    have HO243 := n4_
    have HO246 := n5_
    have BK226 := n6_
    have BK247 := n7_
    have HB := n8_
    clear n0_ n1_ n2_ n3_ n4_ n5_ n6_ n7_ n8_
    refine start_ (n := 5) (S := fun w' => w'.cell? ⟨gb247, 0, none⟩ = some (.slice Ao51 t238.length co51) ∧ w'.cell? ⟨gb247, 1, none⟩ = some (.slice Ao54 t241.length co54) ∧ w'.cell? ⟨gb247, 2, none⟩ = some (.slice Ao55 t244.length co55) ∧ w'.cell? ⟨gb226, 0, none⟩ = some (.slice A0_0 l0_0.length c0_0) ∧ w'.cell? ⟨gb226, 1, none⟩ = some (.slice A0_1 l0_1.length c0_1) ∧ w'.cell? ⟨gb226, 2, none⟩ = some (.slice A0_2 l0_2.length c0_2)) (ds := []) #[F_,F_,F_,F_,F_] (by kernel_rfl) rfl rfl ⟨(blk_cell BK247.out 0).trans rfl, (blk_cell BK247.out 1).trans rfl, (blk_cell BK247.out 2).trans rfl, (blk_cell BK226.out 0).trans rfl, (blk_cell BK226.out 1).trans rfl, (blk_cell BK226.out 2).trans rfl⟩ (fun hHeld => ?_)
    generalize w56.drew = w57 at HO230 HO233 HO236 HO240 HO243 HO246 BK226 BK247 HB hHeld ⊢
    refine take_ (i := 0) (N := some 22) (v := ?_) (a' := ?_) #[T_,F_,F_,F_,F_] rfl rfl (by kernel_rfl) (fun _ _ _ h => h) (Or.inl ⟨by rfl, ?_⟩) hHeld ?_ ?_
    rotate_left
    ·rintro w' ⟨s0, s1, s2, s3, s4, s5⟩
     go_simp
     with_reducible rfl
    rotate_left
    ·simp only [Act.put, sT_, s0_, sS_, i64_w, i32_w]
     rfl
    refine take_ (i := 1) (N := some 23) (v := ?_) (a' := ?_) #[T_,T_,F_,F_,F_] rfl rfl (by kernel_rfl) (fun _ _ _ h => h) (Or.inl ⟨by rfl, ?_⟩) hHeld ?_ ?_
    rotate_left
    ·rintro w' ⟨s0, s1, s2, s3, s4, s5⟩
     go_simp
     with_reducible rfl
    rotate_left
    ·simp only [Act.put, sT_, s0_, sS_, i64_w, i32_w]
     rfl
    refine one_ (i := 2) (N := some 24) #[T_,T_,T_,F_,F_] rfl rfl (by kernel_rfl) (by decide) (fun K hK => ?_)
    refine goes_ Tryd.func8 (by kernel_rfl) rfl #[.agg #[.slice A0_0 l0_0.length c0_0, .slice A0_1 l0_1.length c0_1, .slice A0_2 l0_2.length c0_2]] (by rfl) rfl rfl ln_ ?_
    with_reducible refine (laws_toRig.calls k _ _ l0_0 _ _ l0_1 _ _ l0_2 t249 t252 t255 _ ?side1 ?side2 ?side3 ?side4 ?side5 ?side6 A12.out).mono ?_
    (case side1 => exact kc_ (Kd.C_below HR0_0.out HB.out))
    (case side2 => exact HC0_0.out)
    (case side3 => exact kc_ (Kd.C_below HR0_1.out HB.out))
    (case side4 => exact HC0_1.out)
    (case side5 => exact kc_ (Kd.C_below HR0_2.out HB.out))
    (case side6 => exact HC0_2.out)
    rintro e w58 ⟨v250, v253, v256, rfl, ho0, ho1, ho2, hb⟩
    refine ⟨_, rfl, ?_⟩
    have n0_ := Aside0.mk (Kd.R_elder' (kr_ HO230) (Kd.R_base ho0) hb)
    have n1_ := Aside0.mk (Kd.R_elder' (kr_ HO233) (Kd.R_base ho1) hb)
    have n2_ := Aside0.mk (Kd.R_elder' (kr_ HO236) (Kd.R_base ho2) hb)
    have n3_ := Aside0.mk (Kd.R_elder' (kr_ HO240) (Kd.R_base ho0) hb)
    have n4_ := Aside0.mk (Kd.R_elder' (kr_ HO243) (Kd.R_base ho1) hb)
    have n5_ := Aside0.mk (Kd.R_elder' (kr_ HO246) (Kd.R_base ho2) hb)
    have n6_ := Aside0.mk (Kd.R_lower (Kd.R_new' (Kd.R_new' ho0 (Kd.R_lt (kr_ HO230))) (Kd.R_lt (kr_ HO240))) (below_size (hg2_ GE226 GE247)))
    have n7_ := Aside0.mk (Kd.R_lower (Kd.R_new' (Kd.R_new' ho1 (Kd.R_lt (kr_ HO233))) (Kd.R_lt (kr_ HO243))) (below_size (hg2_ GE226 GE247)))
    have n8_ := Aside0.mk (Kd.R_lower (Kd.R_new' (Kd.R_new' ho2 (Kd.R_lt (kr_ HO236))) (Kd.R_lt (kr_ HO246))) (below_size (hg2_ GE226 GE247)))
    have n9_ := Aside0.mk (blk_below (g := gb226) (o := .cells #[.slice A0_0 l0_0.length c0_0, .slice A0_1 l0_1.length c0_1, .slice A0_2 l0_2.length c0_2] 26 (0, 0)) (bk_ BK226) hb)
    have n10_ := Aside0.mk (blk_below (g := gb247) (o := .cells #[.slice Ao51 t238.length co51, .slice Ao54 t241.length co54, .slice Ao55 t244.length co55] 32 (0, 0)) (bk_ BK247) hb)
    have n11_ := Aside0.mk (below_step (hg2_ GE226 GE247) hb)
    clear HO230
    clear HO233
    clear HO236
    clear HO240
    clear HO243
    clear HO246
    clear BK226
    clear BK247
    clear HB
    have HO230 := n0_
    have HO233 := n1_
    have HO236 := n2_
    have HO240 := n3_
    have HO243 := n4_
    have HO246 := n5_
    have HO251 := n6_
    have HO254 := n7_
    have HO257 := n8_
    have BK226 := n9_
    have BK247 := n10_
    have HB := n11_
    clear n0_ n1_ n2_ n3_ n4_ n5_ n6_ n7_ n8_ n9_ n10_ n11_
    (try clear hb)
    (try clear hb2)
    (try clear hk)
    (try clear hi)
    (try clear ho0)
    (try clear ho1)
    (try clear ho2)
    obtain ⟨Ao59, co59, eo59⟩ := Kd.R_slice HO251.out
    (first | subst eo59 | (injection eo59 with f1_ f2_ f3_; have f4_ := f1_.symm; have f5_ := f3_.symm; clear f1_ f2_ f3_; subst f4_; subst f5_))
    obtain ⟨Ao60, co60, eo60⟩ := Kd.R_slice HO254.out
    (first | subst eo60 | (injection eo60 with f1_ f2_ f3_; have f4_ := f1_.symm; have f5_ := f3_.symm; clear f1_ f2_ f3_; subst f4_; subst f5_))
    obtain ⟨Ao61, co61, eo61⟩ := Kd.R_slice HO257.out
    (first | subst eo61 | (injection eo61 with f1_ f2_ f3_; have f4_ := f1_.symm; have f5_ := f3_.symm; clear f1_ f2_ f3_; subst f4_; subst f5_))
    refine hK.out _ _ ⟨(blk_cell BK247.out 0).trans rfl, (blk_cell BK247.out 1).trans rfl, (blk_cell BK247.out 2).trans rfl, (blk_cell BK226.out 0).trans rfl, (blk_cell BK226.out 1).trans rfl, (blk_cell BK226.out 2).trans rfl⟩ (fun hHeld => ?_)
    clear hK K
    refine norm_ (a' := ?_) ?_ ?_
    rotate_left
    ·show Act.put _ (some 24) _ = _
     simp only [Act.put, sT_, s0_, sS_, i64_w, i32_w]
     rfl
    refine one_ (i := 3) (N := some 25) #[T_,T_,T_,T_,F_] rfl rfl (by kernel_rfl) (by decide) (fun K hK => ?_)
    refine goes_ Tryd.func10 (by kernel_rfl) rfl #[.agg #[.slice Ao51 t238.length co51, .slice Ao54 t241.length co54, .slice Ao55 t244.length co55], .agg #[.slice Ao59 t249.length co59, .slice Ao60 t252.length co60, .slice Ao61 t255.length co61]] (by rfl) rfl rfl ln_ ?_
    with_reducible refine (laws_eqRig.calls k _ _ t238 _ _ t241 _ _ t244 _ _ t249 _ _ t252 _ _ t255 false _ ?side1 ?side2 ?side3 ?side4 ?side5 ?side6 ?side7 ?side8 ?side9 ?side10 ?side11 ?side12 A13.out).mono ?_
    (case side1 => repeat (first | exact (Kd.R_reads' HO240.out).2.2 | (with_reducible refine Kd.C_alloc ?_ _) | (with_reducible refine Kd.C_drewN ?_ _) | (with_reducible refine Kd.C_drew ?_)))
    (case side2 => exact (Kd.R_reads' HO240.out).2.1)
    (case side3 => repeat (first | exact (Kd.R_reads' HO243.out).2.2 | (with_reducible refine Kd.C_alloc ?_ _) | (with_reducible refine Kd.C_drewN ?_ _) | (with_reducible refine Kd.C_drew ?_)))
    (case side4 => exact (Kd.R_reads' HO243.out).2.1)
    (case side5 => repeat (first | exact (Kd.R_reads' HO246.out).2.2 | (with_reducible refine Kd.C_alloc ?_ _) | (with_reducible refine Kd.C_drewN ?_ _) | (with_reducible refine Kd.C_drew ?_)))
    (case side6 => exact (Kd.R_reads' HO246.out).2.1)
    (case side7 => repeat (first | exact (Kd.R_reads' HO251.out).2.2 | (with_reducible refine Kd.C_alloc ?_ _) | (with_reducible refine Kd.C_drewN ?_ _) | (with_reducible refine Kd.C_drew ?_)))
    (case side8 => exact (Kd.R_reads' HO251.out).2.1)
    (case side9 => repeat (first | exact (Kd.R_reads' HO254.out).2.2 | (with_reducible refine Kd.C_alloc ?_ _) | (with_reducible refine Kd.C_drewN ?_ _) | (with_reducible refine Kd.C_drew ?_)))
    (case side10 => exact (Kd.R_reads' HO254.out).2.1)
    (case side11 => repeat (first | exact (Kd.R_reads' HO257.out).2.2 | (with_reducible refine Kd.C_alloc ?_ _) | (with_reducible refine Kd.C_drewN ?_ _) | (with_reducible refine Kd.C_drew ?_)))
    (case side12 => exact (Kd.R_reads' HO257.out).2.1)
    rintro e w62 ⟨rfl, hb⟩
    refine ⟨_, rfl, ?_⟩
    have n0_ := Aside0.mk (Kd.R_below (kr_ HO230) hb)
    have n1_ := Aside0.mk (Kd.R_below (kr_ HO233) hb)
    have n2_ := Aside0.mk (Kd.R_below (kr_ HO236) hb)
    have n3_ := Aside0.mk (Kd.R_below (kr_ HO240) hb)
    have n4_ := Aside0.mk (Kd.R_below (kr_ HO243) hb)
    have n5_ := Aside0.mk (Kd.R_below (kr_ HO246) hb)
    have n6_ := Aside0.mk (Kd.R_below (kr_ HO251) hb)
    have n7_ := Aside0.mk (Kd.R_below (kr_ HO254) hb)
    have n8_ := Aside0.mk (Kd.R_below (kr_ HO257) hb)
    have n9_ := Aside0.mk (blk_below (g := gb226) (o := .cells #[.slice A0_0 l0_0.length c0_0, .slice A0_1 l0_1.length c0_1, .slice A0_2 l0_2.length c0_2] 26 (0, 0)) (bk_ BK226) hb)
    have n10_ := Aside0.mk (blk_below (g := gb247) (o := .cells #[.slice Ao51 t238.length co51, .slice Ao54 t241.length co54, .slice Ao55 t244.length co55] 32 (0, 0)) (bk_ BK247) hb)
    have n11_ := Aside0.mk (below_step (hg2_ GE226 GE247) hb)
    clear HO230
    clear HO233
    clear HO236
    clear HO240
    clear HO243
    clear HO246
    clear HO251
    clear HO254
    clear HO257
    clear BK226
    clear BK247
    clear HB
    have HO230 := n0_
    have HO233 := n1_
    have HO236 := n2_
    have HO240 := n3_
    have HO243 := n4_
    have HO246 := n5_
    have HO251 := n6_
    have HO254 := n7_
    have HO257 := n8_
    have BK226 := n9_
    have BK247 := n10_
    have HB := n11_
    clear n0_ n1_ n2_ n3_ n4_ n5_ n6_ n7_ n8_ n9_ n10_ n11_
    (try clear hb)
    (try clear hb2)
    (try clear hk)
    (try clear hi)
    refine hK.out _ _ ⟨(blk_cell BK247.out 0).trans rfl, (blk_cell BK247.out 1).trans rfl, (blk_cell BK247.out 2).trans rfl, (blk_cell BK226.out 0).trans rfl, (blk_cell BK226.out 1).trans rfl, (blk_cell BK226.out 2).trans rfl⟩ (fun hHeld => ?_)
    clear hK K
    refine norm_ (a' := ?_) ?_ ?_
    rotate_left
    ·show Act.put _ (some 25) _ = _
     simp only [Act.put, sT_, s0_, sS_, i64_w, i32_w]
     rfl
    refine pure_ (i := 4) (N := some 26) (v := ?_) (a' := ?_) #[T_,T_,T_,T_,T_] rfl rfl (by kernel_rfl) (fun _ _ _ h => h) (Or.inl ⟨by rfl, ?_⟩) ?_ ?_
    rotate_left
    ·intro w'
     go_simp
     with_reducible rfl
    rotate_left
    ·simp only [Act.put, sT_, s0_, sS_, i64_w, i32_w]
     rfl
    refine done_ (by kernel_rfl) ?_
    try go_wp2
    go_ret
    exact ⟨ew_, (hg2_ GE226 GE247)⟩
  ·rw [if_neg c11] at H
   have c11b0 : (t248.toList == t237.toList) = false := beq_eq_false_iff_ne.mpr c11
   have c11b1 : (t248.toList != t237.toList) = true := bne_iff_ne.mpr c11
   obtain rfl := Option.some.inj H
   go_enter Tryd.func3, Tryd.ntmps3
   go_wp2_with (first | ((with_reducible refine gate_dst (N := 1) rfl ?_); refine box_event ?hg (N := 1) ?hd (cs := #[.slice A0_0 l0_0.length c0_0, .slice A0_1 l0_1.length c0_1, .slice A0_2 l0_2.length c0_2]) (t := 26) ?hr ?_; (case hd => rfl); (case hg => rfl); (case hr => first | (go_simp; done) | (go_simp; rfl)); intro gb226 hg w63 hbox hb; have n0_ := Aside0.mk (below_step hb_ hb); have n1_ := Aside0.mk (hbox); have n2_ := Aside0.mk ((by rw [hg]; exact (below_size hb_) : w.heap.size ≤ gb226)); have n3_ := Aside0.mk ((by rw [hg]; exact (below_size hb_) : w.heap.size ≤ gb226)); clear HB; have HB := n0_; have BK226 := n1_; have GW226 := n2_; have GE226 := n3_; clear n0_ n1_ n2_ n3_; clear hb hbox hg; have hcz64_0 : w63.cell? ⟨gb226, 0, none⟩ = some (.slice A0_0 l0_0.length c0_0) := (blk_cell BK226.out 0).trans rfl; have hcz64_1 : w63.cell? ⟨gb226, 1, none⟩ = some (.slice A0_1 l0_1.length c0_1) := (blk_cell BK226.out 1).trans rfl; have hcz64_2 : w63.cell? ⟨gb226, 2, none⟩ = some (.slice A0_2 l0_2.length c0_2) := (blk_cell BK226.out 2).trans rfl; have hfz64_0 := blk_frozen BK226.out 0; have hfz64_1 := blk_frozen BK226.out 1; have hfz64_2 := blk_frozen BK226.out 2) | ((with_reducible refine gate_callee (f := 6) rfl ?_); refine goesL_ (some 9) rfl rfl Tryd.func6 (by kernel_rfl) rfl #[.agg #[.slice A0_0 l0_0.length c0_0, .slice A0_1 l0_1.length c0_1, .slice A0_2 l0_2.length c0_2], .int .i64 1048576] rfl ln_ ?_; (with_reducible refine (laws_szRig.calls k _ _ l0_0 _ _ l0_1 _ _ l0_2 1048576 t227 _ ?side1 ?side2 ?side3 ?side4 ?side5 ?side6 A2.out).mono ?_); (case side1 => exact kc_ (Kd.C_below HR0_0.out HB.out)); (case side2 => exact HC0_0.out); (case side3 => exact kc_ (Kd.C_below HR0_1.out HB.out)); (case side4 => exact HC0_1.out); (case side5 => exact kc_ (Kd.C_below HR0_2.out HB.out)); (case side6 => exact HC0_2.out); rintro e w65 ⟨rfl, hb⟩; refine ⟨_, rfl, ?_⟩; have n0_ := Aside0.mk (blk_below (g := gb226) (o := .cells #[.slice A0_0 l0_0.length c0_0, .slice A0_1 l0_1.length c0_1, .slice A0_2 l0_2.length c0_2] 26 (0, 0)) (bk_ BK226) hb); have n1_ := Aside0.mk (below_step (hg_ GE226) hb); clear BK226; clear HB; have BK226 := n0_; have HB := n1_; clear n0_ n1_; (try clear hb); (try clear hb2); (try clear hk); (try clear hi); have hcz66_0 : w65.cell? ⟨gb226, 0, none⟩ = some (.slice A0_0 l0_0.length c0_0) := (blk_cell BK226.out 0).trans rfl; have hcz66_1 : w65.cell? ⟨gb226, 1, none⟩ = some (.slice A0_1 l0_1.length c0_1) := (blk_cell BK226.out 1).trans rfl; have hcz66_2 : w65.cell? ⟨gb226, 2, none⟩ = some (.slice A0_2 l0_2.length c0_2) := (blk_cell BK226.out 2).trans rfl; have hfz66_0 := blk_frozen BK226.out 0; have hfz66_1 := blk_frozen BK226.out 1; have hfz66_2 := blk_frozen BK226.out 2) | ((with_reducible refine gate_callee (f := 8) rfl ?_); refine goesL_ (some 13) rfl rfl Tryd.func8 (by kernel_rfl) rfl #[.agg #[.slice A0_0 l0_0.length c0_0, .slice A0_1 l0_1.length c0_1, .slice A0_2 l0_2.length c0_2]] rfl ln_ ?_; (with_reducible refine (laws_toRig.calls k _ _ l0_0 _ _ l0_1 _ _ l0_2 t228 t231 t234 _ ?side1 ?side2 ?side3 ?side4 ?side5 ?side6 A7.out).mono ?_); (case side1 => exact kc_ (Kd.C_below HR0_0.out HB.out)); (case side2 => exact HC0_0.out); (case side3 => exact kc_ (Kd.C_below HR0_1.out HB.out)); (case side4 => exact HC0_1.out); (case side5 => exact kc_ (Kd.C_below HR0_2.out HB.out)); (case side6 => exact HC0_2.out); rintro e w67 ⟨v229, v232, v235, rfl, ho0, ho1, ho2, hb⟩; refine ⟨_, rfl, ?_⟩; have n0_ := Aside0.mk (Kd.R_lower ho0 (below_size (hg_ GE226))); have n1_ := Aside0.mk (Kd.R_lower ho1 (below_size (hg_ GE226))); have n2_ := Aside0.mk (Kd.R_lower ho2 (below_size (hg_ GE226))); have n3_ := Aside0.mk (blk_below (g := gb226) (o := .cells #[.slice A0_0 l0_0.length c0_0, .slice A0_1 l0_1.length c0_1, .slice A0_2 l0_2.length c0_2] 26 (0, 0)) (bk_ BK226) hb); have n4_ := Aside0.mk (below_step (hg_ GE226) hb); clear BK226; clear HB; have HO230 := n0_; have HO233 := n1_; have HO236 := n2_; have BK226 := n3_; have HB := n4_; clear n0_ n1_ n2_ n3_ n4_; (try clear hb); (try clear hb2); (try clear hk); (try clear hi); (try clear ho0); (try clear ho1); (try clear ho2); obtain ⟨Ao68, co68, eo68⟩ := Kd.R_slice HO230.out; subst eo68; obtain ⟨Ao69, co69, eo69⟩ := Kd.R_slice HO233.out; subst eo69; obtain ⟨Ao70, co70, eo70⟩ := Kd.R_slice HO236.out; subst eo70) | ((with_reducible refine gate_callee (f := 7) rfl ?_); refine goesL_ (some 14) rfl rfl Tryd.func7 (by kernel_rfl) rfl #[.agg #[.slice Ao68 t228.length co68, .slice Ao69 t231.length co69, .slice Ao70 t234.length co70]] rfl ln_ ?_; (with_reducible refine (spec_RigText.calls k _ _ t228 _ _ t231 _ _ t234 t237 _ ?side1 ?side2 ?side3 ?side4 ?side5 ?side6 A8.out).mono ?_); (case side1 => repeat (first | exact (Kd.R_reads' HO230.out).2.2 | (with_reducible refine Kd.C_alloc ?_ _) | (with_reducible refine Kd.C_drewN ?_ _) | (with_reducible refine Kd.C_drew ?_))); (case side2 => exact (Kd.R_reads' HO230.out).2.1); (case side3 => repeat (first | exact (Kd.R_reads' HO233.out).2.2 | (with_reducible refine Kd.C_alloc ?_ _) | (with_reducible refine Kd.C_drewN ?_ _) | (with_reducible refine Kd.C_drew ?_))); (case side4 => exact (Kd.R_reads' HO233.out).2.1); (case side5 => repeat (first | exact (Kd.R_reads' HO236.out).2.2 | (with_reducible refine Kd.C_alloc ?_ _) | (with_reducible refine Kd.C_drewN ?_ _) | (with_reducible refine Kd.C_drew ?_))); (case side6 => exact (Kd.R_reads' HO236.out).2.1); rintro e w71 ⟨rfl, hb⟩; refine ⟨_, rfl, ?_⟩; have n0_ := Aside0.mk (Kd.R_below (kr_ HO230) hb); have n1_ := Aside0.mk (Kd.R_below (kr_ HO233) hb); have n2_ := Aside0.mk (Kd.R_below (kr_ HO236) hb); have n3_ := Aside0.mk (blk_below (g := gb226) (o := .cells #[.slice A0_0 l0_0.length c0_0, .slice A0_1 l0_1.length c0_1, .slice A0_2 l0_2.length c0_2] 26 (0, 0)) (bk_ BK226) hb); have n4_ := Aside0.mk (below_step (hg_ GE226) hb); clear HO230; clear HO233; clear HO236; clear BK226; clear HB; have HO230 := n0_; have HO233 := n1_; have HO236 := n2_; have BK226 := n3_; have HB := n4_; clear n0_ n1_ n2_ n3_ n4_; (try clear hb); (try clear hb2); (try clear hk); (try clear hi); have hcz72_0 : w71.cell? ⟨gb226, 0, none⟩ = some (.slice A0_0 l0_0.length c0_0) := (blk_cell BK226.out 0).trans rfl; have hcz72_1 : w71.cell? ⟨gb226, 1, none⟩ = some (.slice A0_1 l0_1.length c0_1) := (blk_cell BK226.out 1).trans rfl; have hcz72_2 : w71.cell? ⟨gb226, 2, none⟩ = some (.slice A0_2 l0_2.length c0_2) := (blk_cell BK226.out 2).trans rfl; have hfz72_0 := blk_frozen BK226.out 0; have hfz72_1 := blk_frozen BK226.out 1; have hfz72_2 := blk_frozen BK226.out 2) | ((with_reducible refine gate_callee (f := 8) rfl ?_); refine goesL_ (some 16) rfl rfl Tryd.func8 (by kernel_rfl) rfl #[.agg #[.slice A0_0 l0_0.length c0_0, .slice A0_1 l0_1.length c0_1, .slice A0_2 l0_2.length c0_2]] rfl ln_ ?_; (with_reducible refine (laws_toRig.calls k _ _ l0_0 _ _ l0_1 _ _ l0_2 t238 t241 t244 _ ?side1 ?side2 ?side3 ?side4 ?side5 ?side6 A9.out).mono ?_); (case side1 => exact kc_ (Kd.C_below HR0_0.out HB.out)); (case side2 => exact HC0_0.out); (case side3 => exact kc_ (Kd.C_below HR0_1.out HB.out)); (case side4 => exact HC0_1.out); (case side5 => exact kc_ (Kd.C_below HR0_2.out HB.out)); (case side6 => exact HC0_2.out); rintro e w73 ⟨v239, v242, v245, rfl, ho0, ho1, ho2, hb⟩; refine ⟨_, rfl, ?_⟩; have n0_ := Aside0.mk (Kd.R_elder' (kr_ HO230) (Kd.R_base ho0) hb); have n1_ := Aside0.mk (Kd.R_elder' (kr_ HO233) (Kd.R_base ho1) hb); have n2_ := Aside0.mk (Kd.R_elder' (kr_ HO236) (Kd.R_base ho2) hb); have n3_ := Aside0.mk (Kd.R_lower (Kd.R_new' ho0 (Kd.R_lt (kr_ HO230))) (below_size (hg_ GE226))); have n4_ := Aside0.mk (Kd.R_lower (Kd.R_new' ho1 (Kd.R_lt (kr_ HO233))) (below_size (hg_ GE226))); have n5_ := Aside0.mk (Kd.R_lower (Kd.R_new' ho2 (Kd.R_lt (kr_ HO236))) (below_size (hg_ GE226))); have n6_ := Aside0.mk (blk_below (g := gb226) (o := .cells #[.slice A0_0 l0_0.length c0_0, .slice A0_1 l0_1.length c0_1, .slice A0_2 l0_2.length c0_2] 26 (0, 0)) (bk_ BK226) hb); have n7_ := Aside0.mk (below_step (hg_ GE226) hb); clear HO230; clear HO233; clear HO236; clear BK226; clear HB; have HO230 := n0_; have HO233 := n1_; have HO236 := n2_; have HO240 := n3_; have HO243 := n4_; have HO246 := n5_; have BK226 := n6_; have HB := n7_; clear n0_ n1_ n2_ n3_ n4_ n5_ n6_ n7_; (try clear hb); (try clear hb2); (try clear hk); (try clear hi); (try clear ho0); (try clear ho1); (try clear ho2)) | ((with_reducible refine gate_dst (N := 5) rfl ?_); refine box_event ?hg (N := 5) ?hd (cs := #[.slice none 0 0, .slice none 0 0, .slice none 0 0]) (t := 32) ?hr ?_; (case hd => rfl); (case hg => rfl); (case hr => first | (go_simp; done) | (go_simp; rfl)); intro gb247 hg w74 hbox hb; have n0_ := Aside0.mk (Kd.R_below (kr_ HO230) hb); have n1_ := Aside0.mk (Kd.R_below (kr_ HO233) hb); have n2_ := Aside0.mk (Kd.R_below (kr_ HO236) hb); have n3_ := Aside0.mk (Kd.R_below (kr_ HO240) hb); have n4_ := Aside0.mk (Kd.R_below (kr_ HO243) hb); have n5_ := Aside0.mk (Kd.R_below (kr_ HO246) hb); have n6_ := Aside0.mk (blk_below (g := gb226) (o := .cells #[.slice A0_0 l0_0.length c0_0, .slice A0_1 l0_1.length c0_1, .slice A0_2 l0_2.length c0_2] 26 (0, 0)) (bk_ BK226) hb); have n7_ := Aside0.mk (below_step (hg_ GE226) hb); have n8_ := Aside0.mk (hbox); have n9_ := Aside0.mk ((by rw [hg]; exact (below_size (hg_ GE226)) : w.heap.size ≤ gb247)); have n10_ := Aside0.mk ((by rw [hg]; exact (below_size (hg_ GE226)) : w.heap.size ≤ gb247)); have n11_ := Aside0.mk ((by rw [hg]; exact Nat.ne_of_lt (blk_lt (g := gb226) (o := .cells #[.slice A0_0 l0_0.length c0_0, .slice A0_1 l0_1.length c0_1, .slice A0_2 l0_2.length c0_2] 26 (0, 0)) (bk_ BK226)) : gb226 ≠ gb247)); have n12_ := Aside0.mk ((by rw [hg]; exact Nat.ne_of_gt (blk_lt (g := gb226) (o := .cells #[.slice A0_0 l0_0.length c0_0, .slice A0_1 l0_1.length c0_1, .slice A0_2 l0_2.length c0_2] 26 (0, 0)) (bk_ BK226)) : gb247 ≠ gb226)); clear HO230; clear HO233; clear HO236; clear HO240; clear HO243; clear HO246; clear BK226; clear HB; have HO230 := n0_; have HO233 := n1_; have HO236 := n2_; have HO240 := n3_; have HO243 := n4_; have HO246 := n5_; have BK226 := n6_; have HB := n7_; have BK247 := n8_; have GW247 := n9_; have GE247 := n10_; have NB226_247 := n11_; have NB247_226 := n12_; clear n0_ n1_ n2_ n3_ n4_ n5_ n6_ n7_ n8_ n9_ n10_ n11_ n12_; clear hb hbox hg; obtain ⟨Ao75, co75, eo75⟩ := Kd.R_slice HO240.out; subst eo75; have hnb76 := NB247_226.out; have hnc76 := NB226_247.out; have hcz77_0 : w74.cell? ⟨gb247, 0, none⟩ = some (.slice none 0 0) := (blk_cell BK247.out 0).trans rfl; have hcz77_1 : w74.cell? ⟨gb247, 1, none⟩ = some (.slice none 0 0) := (blk_cell BK247.out 1).trans rfl; have hcz77_2 : w74.cell? ⟨gb247, 2, none⟩ = some (.slice none 0 0) := (blk_cell BK247.out 2).trans rfl; have hfz77_0 := blk_frozen BK247.out 0; have hfz77_1 := blk_frozen BK247.out 1; have hfz77_2 := blk_frozen BK247.out 2; obtain ⟨Ao78, co78, eo78⟩ := Kd.R_slice HO243.out; subst eo78; obtain ⟨Ao79, co79, eo79⟩ := Kd.R_slice HO246.out; subst eo79) | ((with_reducible refine gate_callee (f := 9) rfl ?_); refine goesL_ (some 18) rfl rfl Tryd.func9 (by kernel_rfl) rfl #[.agg #[.slice Ao75 t238.length co75, .slice Ao78 t241.length co78, .slice Ao79 t244.length co79]] rfl ln_ ?_; (with_reducible refine (impl_RigText.calls k _ _ t238 _ _ t241 _ _ t244 t248 _ ?side1 ?side2 ?side3 ?side4 ?side5 ?side6 ?side7 A10.out).mono ?_); (case side1 => refine (Kd.R_reads' (e := 64) (base := w.heap.size) (ok := fun k_ => (True ∧ some k_ ≠ (.slice Ao68 t228.length co68 : Value).ownBlock)) (n := t238.length) (c := co75) ?_).2.2; exact (by (with_reducible repeat (first | apply Kd.R_alloc | apply Kd.R_drewN | apply Kd.R_drew)); exact (Kd.R_mono (Kd.R_far (p := ⟨gb247, 2, none⟩) (Kd.R_far (p := ⟨gb247, 1, none⟩) (Kd.R_far (p := ⟨gb247, 0, none⟩) (Kd.R_types HO240.out BK247.out (by decide)) (fun _ hk => hk.2) (.slice Ao75 t238.length co75)) (fun _ hk => hk.2) (.slice Ao78 t241.length co78)) (fun _ hk => hk.2) (.slice Ao79 t244.length co79)) (fun _ h_ => h_.1)))); (case side2 => exact (Kd.R_reads' HO240.out).2.1); (case side3 => refine (Kd.R_reads' (e := 9) (base := w.heap.size) (ok := fun k_ => (True ∧ some k_ ≠ (.slice Ao69 t231.length co69 : Value).ownBlock)) (n := t241.length) (c := co78) ?_).2.2; exact (by (with_reducible repeat (first | apply Kd.R_alloc | apply Kd.R_drewN | apply Kd.R_drew)); exact (Kd.R_mono (Kd.R_far (p := ⟨gb247, 2, none⟩) (Kd.R_far (p := ⟨gb247, 1, none⟩) (Kd.R_far (p := ⟨gb247, 0, none⟩) (Kd.R_types HO243.out BK247.out (by decide)) (fun _ hk => hk.2) (.slice Ao75 t238.length co75)) (fun _ hk => hk.2) (.slice Ao78 t241.length co78)) (fun _ hk => hk.2) (.slice Ao79 t244.length co79)) (fun _ h_ => h_.1)))); (case side4 => exact (Kd.R_reads' HO243.out).2.1); (case side5 => refine (Kd.R_reads' (e := 67) (base := w.heap.size) (ok := fun k_ => (True ∧ some k_ ≠ (.slice Ao70 t234.length co70 : Value).ownBlock)) (n := t244.length) (c := co79) ?_).2.2; exact (by (with_reducible repeat (first | apply Kd.R_alloc | apply Kd.R_drewN | apply Kd.R_drew)); exact (Kd.R_mono (Kd.R_far (p := ⟨gb247, 2, none⟩) (Kd.R_far (p := ⟨gb247, 1, none⟩) (Kd.R_far (p := ⟨gb247, 0, none⟩) (Kd.R_types HO246.out BK247.out (by decide)) (fun _ hk => hk.2) (.slice Ao75 t238.length co75)) (fun _ hk => hk.2) (.slice Ao78 t241.length co78)) (fun _ hk => hk.2) (.slice Ao79 t244.length co79)) (fun _ h_ => h_.1)))); (case side6 => exact (Kd.R_reads' HO246.out).2.1); (case side7 => first | exact HT.out | exact TB.below HT.out HB.out | ((repeat (first | exact HT.out | exact TB.below HT.out HB.out | apply TB.drewN | apply TB.drew)); done) | exact TB.below HT.out (by repeat (first | exact HB.out | apply below_alloc | apply pw_below_drewN | apply below_drew1 | refine below_set ?_ (Aside0.out (by assumption))))); rintro e w80 ⟨rfl, hb⟩; refine ⟨_, rfl, ?_⟩; have n0_ := Aside0.mk (Kd.R_below (by (with_reducible repeat (first | apply Kd.R_alloc | apply Kd.R_drewN | apply Kd.R_drew)); exact (Kd.R_mono (Kd.R_far (p := ⟨gb247, 2, none⟩) (Kd.R_far (p := ⟨gb247, 1, none⟩) (Kd.R_far (p := ⟨gb247, 0, none⟩) (Kd.R_types HO230.out BK247.out (by decide)) (fun _ hk => hk.2) (.slice Ao75 t238.length co75)) (fun _ hk => hk.2) (.slice Ao78 t241.length co78)) (fun _ hk => hk.2) (.slice Ao79 t244.length co79)) (fun _ h_ => h_.1))) hb); have n1_ := Aside0.mk (Kd.R_below (by (with_reducible repeat (first | apply Kd.R_alloc | apply Kd.R_drewN | apply Kd.R_drew)); exact (Kd.R_mono (Kd.R_far (p := ⟨gb247, 2, none⟩) (Kd.R_far (p := ⟨gb247, 1, none⟩) (Kd.R_far (p := ⟨gb247, 0, none⟩) (Kd.R_types HO233.out BK247.out (by decide)) (fun _ hk => hk.2) (.slice Ao75 t238.length co75)) (fun _ hk => hk.2) (.slice Ao78 t241.length co78)) (fun _ hk => hk.2) (.slice Ao79 t244.length co79)) (fun _ h_ => h_.1))) hb); have n2_ := Aside0.mk (Kd.R_below (by (with_reducible repeat (first | apply Kd.R_alloc | apply Kd.R_drewN | apply Kd.R_drew)); exact (Kd.R_mono (Kd.R_far (p := ⟨gb247, 2, none⟩) (Kd.R_far (p := ⟨gb247, 1, none⟩) (Kd.R_far (p := ⟨gb247, 0, none⟩) (Kd.R_types HO236.out BK247.out (by decide)) (fun _ hk => hk.2) (.slice Ao75 t238.length co75)) (fun _ hk => hk.2) (.slice Ao78 t241.length co78)) (fun _ hk => hk.2) (.slice Ao79 t244.length co79)) (fun _ h_ => h_.1))) hb); have n3_ := Aside0.mk (Kd.R_below (by (with_reducible repeat (first | apply Kd.R_alloc | apply Kd.R_drewN | apply Kd.R_drew)); exact (Kd.R_mono (Kd.R_far (p := ⟨gb247, 2, none⟩) (Kd.R_far (p := ⟨gb247, 1, none⟩) (Kd.R_far (p := ⟨gb247, 0, none⟩) (Kd.R_types HO240.out BK247.out (by decide)) (fun _ hk => hk.2) (.slice Ao75 t238.length co75)) (fun _ hk => hk.2) (.slice Ao78 t241.length co78)) (fun _ hk => hk.2) (.slice Ao79 t244.length co79)) (fun _ h_ => h_.1))) hb); have n4_ := Aside0.mk (Kd.R_below (by (with_reducible repeat (first | apply Kd.R_alloc | apply Kd.R_drewN | apply Kd.R_drew)); exact (Kd.R_mono (Kd.R_far (p := ⟨gb247, 2, none⟩) (Kd.R_far (p := ⟨gb247, 1, none⟩) (Kd.R_far (p := ⟨gb247, 0, none⟩) (Kd.R_types HO243.out BK247.out (by decide)) (fun _ hk => hk.2) (.slice Ao75 t238.length co75)) (fun _ hk => hk.2) (.slice Ao78 t241.length co78)) (fun _ hk => hk.2) (.slice Ao79 t244.length co79)) (fun _ h_ => h_.1))) hb); have n5_ := Aside0.mk (Kd.R_below (by (with_reducible repeat (first | apply Kd.R_alloc | apply Kd.R_drewN | apply Kd.R_drew)); exact (Kd.R_mono (Kd.R_far (p := ⟨gb247, 2, none⟩) (Kd.R_far (p := ⟨gb247, 1, none⟩) (Kd.R_far (p := ⟨gb247, 0, none⟩) (Kd.R_types HO246.out BK247.out (by decide)) (fun _ hk => hk.2) (.slice Ao75 t238.length co75)) (fun _ hk => hk.2) (.slice Ao78 t241.length co78)) (fun _ hk => hk.2) (.slice Ao79 t244.length co79)) (fun _ h_ => h_.1))) hb); have n6_ := Aside0.mk (blk_below (g := gb226) (o := .cells #[.slice A0_0 l0_0.length c0_0, .slice A0_1 l0_1.length c0_1, .slice A0_2 l0_2.length c0_2] 26 (0, 0)) (by (with_reducible repeat (first | refine blk_drewN ?_ _ | refine blk_drew ?_ | refine blk_alloc ?_ _)); refine blk_far ?_ NB226_247.out _; (with_reducible repeat (first | refine blk_drewN ?_ _ | refine blk_drew ?_ | refine blk_alloc ?_ _)); refine blk_far ?_ NB226_247.out _; (with_reducible repeat (first | refine blk_drewN ?_ _ | refine blk_drew ?_ | refine blk_alloc ?_ _)); refine blk_far ?_ NB226_247.out _; (with_reducible repeat (first | refine blk_drewN ?_ _ | refine blk_drew ?_ | refine blk_alloc ?_ _)); exact BK226.out) hb); have n7_ := Aside0.mk (blk_below (g := gb247) (o := .cells #[.slice Ao75 t238.length co75, .slice Ao78 t241.length co78, .slice Ao79 t244.length co79] 32 (0, 0)) (by (with_reducible repeat (first | refine blk_drewN ?_ _ | refine blk_drew ?_ | refine blk_alloc ?_ _)); refine blk_put (cs := #[.slice Ao75 t238.length co75, .slice Ao78 t241.length co78, .slice none 0 0]) ?_ 2 _ rfl; (with_reducible repeat (first | refine blk_drewN ?_ _ | refine blk_drew ?_ | refine blk_alloc ?_ _)); refine blk_put (cs := #[.slice Ao75 t238.length co75, .slice none 0 0, .slice none 0 0]) ?_ 1 _ rfl; (with_reducible repeat (first | refine blk_drewN ?_ _ | refine blk_drew ?_ | refine blk_alloc ?_ _)); refine blk_put (cs := #[.slice none 0 0, .slice none 0 0, .slice none 0 0]) ?_ 0 _ rfl; (with_reducible repeat (first | refine blk_drewN ?_ _ | refine blk_drew ?_ | refine blk_alloc ?_ _)); exact BK247.out) hb); have n8_ := Aside0.mk (below_step (hg2_ GE226 GE247) hb); clear HO230; clear HO233; clear HO236; clear HO240; clear HO243; clear HO246; clear BK226; clear BK247; clear HB; have HO230 := n0_; have HO233 := n1_; have HO236 := n2_; have HO240 := n3_; have HO243 := n4_; have HO246 := n5_; have BK226 := n6_; have BK247 := n7_; have HB := n8_; clear n0_ n1_ n2_ n3_ n4_ n5_ n6_ n7_ n8_; (try clear hb); (try clear hb2); (try clear hk); (try clear hi)))
   go_ret
   exact ⟨ew_, (hg2_ GE226 GE247)⟩

end Go.Proofs.YtcenjcgfdghfnaaDoor.P
end

section
/- How an argument of a law reads: out of the form's reading (trod) of a value comes the list or structure that the printed contracts speak of. -/
namespace Go.Proofs.YtcenjcgfdghfnaaDoorOp
open Go.RowKit Go.ChangeShapes Go.WideShapes Go.Deep Go.Proofs.YtcenjcgfdghfnaaDoorW.PrintWords

/-- Every reading of cells at type t gives a value of this kind with the property Q. -/
structure Opens (P : Program) (t : TypeId) {α : Type} (d : Kd α) (Q : α → Prop) : Prop where
  mk ::
  out : ∀ {H : Type} (enc : TypeId × Value → H) (w : World) (base : Nat) (spare : Nat → Bool) (held : Bool) (fuel : Nat) (cs : List Value) (x : DataW H × List MemPlace), DataW.trod enc P w base spare held fuel t cs = some x → ∃ a, d.K w a cs ∧ Q a

theorem opens_int {P : Program} {t : TypeId} {k : IntKind} (ht : P.underlying t = some (.int k)) : Opens P t (Kd.int k) (fun n => (Lit.int k n).wf = true) :=
  ⟨fun enc w base spare held fuel cs x h => by
    obtain ⟨n, rfl, _, hw⟩ := DataW.trod_int ht h
    exact ⟨n, rfl, hw⟩⟩
theorem opens_string {P : Program} {t : TypeId} (ht : P.underlying t = some .string) : Opens P t Kd.string (fun s => s.size ≤ maxLen) :=
  ⟨fun enc w base spare held fuel cs x h => by
    obtain ⟨s, rfl, _, hw⟩ := DataW.trod_string ht h
    exact ⟨s, rfl, hw⟩⟩

theorem list_of_index {α : Type} (p : Nat → α → Prop) : ∀ n : Nat, (∀ i, i < n → ∃ x, p i x) → ∃ xs : List α, xs.length = n ∧ ∀ i x, xs[i]? = some x → p i x := by
  intro n
  induction n with
  | zero => intro _; exact ⟨[], rfl, fun i x h => by simp at h⟩
  | succ n ih =>
    intro h
    obtain ⟨xs, hl, hx⟩ := ih (fun i hi => h i (Nat.lt_succ_of_lt hi))
    obtain ⟨y, hy⟩ := h n (Nat.lt_succ_self n)
    refine ⟨xs ++ [y], by simp [hl], fun i x hi => ?_⟩
    rcases Nat.lt_or_ge i xs.length with h1 | h1
    · rw [List.getElem?_append_left h1] at hi
      exact hx i x hi
    · have h2 : i < (xs ++ [y]).length := (List.getElem?_eq_some_iff.1 hi).1
      have h3 : i = n := by simp at h2; omega
      subst h3
      rw [← hl, List.getElem?_append_right (Nat.le_refl _)] at hi
      simp at hi
      subst hi
      exact hy

theorem opens_slice {P : Program} {t e : TypeId} {α : Type} {d : Kd α} {Q : α → Prop} (ht : P.underlying t = some (.slice e)) (hd : Opens P e d Q) (hc : P.cellsOf e = d.sz) (e' : Nat) :
    Opens P t (Kd.slice e' d) (fun xs => xs.length ≤ maxLen ∧ ∀ x ∈ xs, Q x) :=
  ⟨fun enc w base spare held fuel cs x h => by
    rcases open_slice ht h with ⟨rfl, _⟩ | ⟨a, len, cap, m, n, D, Pl, rfl, hb, hl, hm, hmm, _, hx⟩
    · exact ⟨[], ⟨none, 0, rfl, Nat.le_refl _, rfl, by simp, fun h0 => absurd h0 (by simp)⟩, by simp [maxLen], fun y hy => by simp at hy⟩
    · have hlm : len ≤ m := by rw [hmm]; split <;> omega
      obtain ⟨xs, hxl, hxs⟩ := list_of_index (fun i (y : α) => Q y ∧ ∃ c, d.K w y c ∧ c.length = d.sz ∧ ∀ j u, c[j]? = some u → w.cell? (a.add (i * d.sz + j)) = some u) len (fun i hi => by
        obtain ⟨cs', h1, h2⟩ := hx i (by omega)
        obtain ⟨y, hK, hQ⟩ := hd.out enc w base spare held n cs' _ h2
        refine ⟨y, hQ, cs', hK, d.K_len hK, fun j u hj => ?_⟩
        rw [hc] at h1
        obtain ⟨_, hcl, hat⟩ := World.cells?_some h1
        have hjl : j < d.sz := by
          have := (List.getElem?_eq_some_iff.1 hj).1
          rw [hcl] at this
          exact this
        rw [← Go.Deep.add_add, hat j hjl]
        exact hj)
      subst hxl
      have hmax : xs.length ≤ maxLen := Nat.le_trans hl hm
      refine ⟨xs, ⟨some a, cap, rfl, hl, rfl, by unfold maxLen at hmax; omega, fun _ => ⟨a, rfl, fun j p hj => ?_⟩⟩, hmax, fun y hy => ?_⟩
      · obtain ⟨_, c, h1, h2, h3⟩ := hxs j p hj
        exact ⟨c, h2, h1, h3⟩
      · obtain ⟨i, hi⟩ := List.mem_iff_getElem?.1 hy
        exact (hxs i y hi).1⟩

theorem opens_iso {P : Program} {t : TypeId} {α β : Type} {d : Kd α} {Q : α → Prop} (h : Opens P t d Q) (f : β → α) (g : α → β) (hfg : ∀ x, f (g x) = x) : Opens P t (Kd.iso d f) (fun y => Q (f y)) :=
  ⟨fun enc w base spare held fuel cs x hx => by
    obtain ⟨a, hK, hQ⟩ := h.out enc w base spare held fuel cs x hx
    exact ⟨g a, by show d.K w (f (g a)) cs; rw [hfg]; exact hK, by rw [hfg]; exact hQ⟩⟩

/-- The cells from 'off' on are read field by field. -/
structure OpensFs (P : Program) (fs : List Field) (off : Nat) {α : Type} (d : Kd α) (Q : α → Prop) : Prop where
  mk ::
  out : ∀ {H : Type} (enc : TypeId × Value → H) (w : World) (base : Nat) (spare : Nat → Bool) (held : Bool) (n : Nat) (cs : List Value), cs.length = off + d.sz →
    (∀ f ∈ fs, ∃ y, DataW.trod enc P w base spare held n f.type ((cs.drop f.offset).take (P.cellsOf f.type)) = some y) → ∃ a, d.K w a (cs.drop off) ∧ Q a
theorem opens_last {P : Program} {f : Field} {off : Nat} {α : Type} {d : Kd α} {Q : α → Prop} (h : Opens P f.type d Q) (ho : f.offset = off) (hs : P.cellsOf f.type = d.sz) : OpensFs P [f] off d Q :=
  ⟨fun enc w base spare held n cs hl hf => by
    obtain ⟨y, hy⟩ := hf f (List.mem_singleton.2 rfl)
    rw [ho, hs, List.take_of_length_le (by rw [List.length_drop]; omega)] at hy
    exact h.out enc w base spare held n _ y hy⟩
theorem opens_cons {P : Program} {f : Field} {fs : List Field} {off : Nat} {α β : Type} {d : Kd α} {d2 : Kd β} {Q : α → Prop} {Q2 : β → Prop} (h : Opens P f.type d Q) (ho : f.offset = off) (hs : P.cellsOf f.type = d.sz) (h2 : OpensFs P fs (off + d.sz) d2 Q2) :
    OpensFs P (f :: fs) off (Kd.pair d d2) (fun x => Q x.1 ∧ Q2 x.2) :=
  ⟨fun enc w base spare held n cs hl hf => by
    have hl' : cs.length = off + (d.sz + d2.sz) := hl
    obtain ⟨y, hy⟩ := hf f List.mem_cons_self
    rw [ho, hs] at hy
    obtain ⟨a, hK, hQ⟩ := h.out enc w base spare held n _ y hy
    obtain ⟨b, hK2, hQ2⟩ := h2.out enc w base spare held n cs (by omega) (fun g hg => hf g (List.mem_cons_of_mem _ hg))
    refine ⟨(a, b), ⟨(cs.drop off).take d.sz, cs.drop (off + d.sz), ?_, hK, hK2⟩, hQ, hQ2⟩
    rw [← List.drop_drop, List.take_append_drop]⟩
theorem opens_struct {P : Program} {t : TypeId} {fs : List Field} {α : Type} {d : Kd α} {Q : α → Prop} (ht : P.underlying t = some (.struct fs.toArray)) (hs : P.cellsOf t = d.sz) (h : OpensFs P fs 0 d Q) : Opens P t d Q :=
  ⟨fun enc w base spare held fuel cs x hx => by
    obtain ⟨xs, n, _, _, hl, hlen, hf⟩ := DataW.trod_struct ht hx
    have := h.out enc w base spare held n cs (by rw [hl, hs]; omega) (fun f hmem => by
      obtain ⟨i, hi⟩ := List.mem_iff_getElem?.1 hmem
      have h1 : fs.toArray[i]? = some f := by simpa using hi
      have h2 := hf i f h1
      have h3 : i < fs.length := (List.getElem?_eq_some_iff.1 hi).1
      have h4 : i < xs.length := by rw [hlen]; simpa using h3
      exact ⟨_, h2.trans (List.getElem?_eq_getElem h4)⟩)
    simpa using this⟩

/-- A struct by value, as an argument. -/
theorem arg_struct {H : Type} {enc : TypeId × Value → H} {P : Program} {w : World} {base : Nat} {spare : Nat → Bool} {held : Bool} {t : TypeId} {α : Type} {d : Kd α} {Q : α → Prop} {cs : Array Value} {y : DataW H} {p : List MemPlace}
    (ho : Opens P t d Q) (h : DataW.Trod enc P w base spare held t (.agg cs) y p) : ∃ x : α, d.K w x cs.toList ∧ Q x := by
  obtain ⟨fuel, hf⟩ := h
  exact ho.out enc w base spare held fuel _ _ (by simpa [Value.cells] using hf)
end Go.Proofs.YtcenjcgfdghfnaaDoorOp
end

section
/- Plain words for the laws' statements over lists: an answer with enough rounds (Ev), step by step; one loop's round over a list that is told as what lies behind and what lies ahead. -/
namespace Go.Proofs.YtcenjcgfdghfnaaDoorB
open Go.RowKit Go.Proofs.YtcenjcgfdghfnaaDoorW.PrintWords Go.Proofs.YtcenjcgfdghfnaaDoorW.PrintLast

theorem ev_pos {α : Type} {c : Prop} [Decidable c] {A B : Nat → Option α} {r : α} (h : c) (e : Ev A r) : Ev (fun k => if c then A k else B k) r := by
  simpa only [if_pos h] using e
theorem ev_neg {α : Type} {c : Prop} [Decidable c] {A B : Nat → Option α} {r : α} (h : ¬ c) (e : Ev B r) : Ev (fun k => if c then A k else B k) r := by
  simpa only [if_neg h] using e
theorem ev_ite {α : Type} {c : Prop} [Decidable c] {A B : Nat → Option α} {r : α} (h : c → Ev A r) (h2 : ¬ c → Ev B r) : Ev (fun k => if c then A k else B k) r := by
  by_cases hc : c
  · exact ev_pos hc (h hc)
  · exact ev_neg hc (h2 hc)
theorem ev_bind0 {α β : Type} {g : Option α} {f : Nat → α → Option β} {a : α} {r : β} (h : g = some a) (k : Ev (fun n => f n a) r) : Ev (fun n => g.bind (f n)) r := by
  subst h
  exact k
theorem ev_of {α : Type} {g : Nat → Option α} {a r : α} (h : Ev g a) (e : a = r) : Ev g r := e ▸ h

theorem wrap_small {i : Int} (h0 : -9223372036854775808 ≤ i) (h1 : i ≤ 9223372036854775807) : wrap64 i = i := by
  unfold wrap64
  omega
theorem wrap_next {α : Type} (p : List α) (x : α) (h : p.length ≤ 4611686018427387904) : wrap64 ((p.length : Int) + 1) = ((p ++ [x]).length : Int) := by
  rw [wrap_small (by omega) (by omega), List.length_append]
  simp
theorem getD_at {α : Type} (p : List α) (x : α) (xs : List α) (z : α) : (p ++ x :: xs).getD ((p.length : Int)).toNat z = x := by
  simp
theorem rd_mid (p : List Int) (x : Int) (xs : List Int) : rd (p ++ x :: xs) (p.length : Int) = x := by
  unfold rd
  exact getD_at p x xs 0
theorem rdOf_mid {α : Type} (d : α) (p : List α) (x : α) (xs : List α) : rdOf d (p ++ x :: xs) (p.length : Int) = x := by
  unfold rdOf
  exact getD_at p x xs d
theorem set_mid {α : Type} (p : List α) (x y : α) (xs : List α) : (p ++ x :: xs).set ((p.length : Int)).toNat y = p ++ y :: xs := by
  simp
theorem push_mid {α : Type} (p : List α) (x : α) (xs : List α) : p ++ x :: xs = (p ++ [x]) ++ xs := by simp
theorem lt_mid {α : Type} (p : List α) (x : α) (xs : List α) : (p.length : Int) < ((p ++ x :: xs).length : Int) := by
  simp
  omega
theorem not_lt_end {α : Type} (p : List α) : ¬ (p.length : Int) < ((p ++ []).length : Int) := by simp

theorem bt_rd (s : ByteArray) (i : Int) : bt s i = rd (bytesOf s) i := by
  unfold bt rd bytesOf
  by_cases h : i.toNat < s.size
  · rw [dif_pos h]
    have h2 : i.toNat < s.data.toList.length := by rw [data_length]; exact h
    rw [List.getD_eq_getElem?_getD, List.getElem?_map, List.getElem?_eq_getElem h2]
    rfl
  · rw [dif_neg h]
    have h2 : ¬ i.toNat < s.data.toList.length := by rw [data_length]; exact h
    rw [List.getD_eq_getElem?_getD, List.getElem?_map, List.getElem?_eq_none (by omega)]
    rfl
theorem bytes_length (s : ByteArray) : (bytesOf s).length = s.size := by
  unfold bytesOf
  rw [List.length_map, data_length]
theorem bytes_nil (s : ByteArray) : s.toList = [] ↔ bytesOf s = [] := by
  unfold bytesOf
  rw [Lib.toList_data]
  simp
theorem bytes_inj {a b : ByteArray} (h : bytesOf a = bytesOf b) : a = b := by
  unfold bytesOf at h
  have h2 : a.data.toList = b.data.toList := by
    refine (List.map_inj_right ?_).1 h
    intro x y hxy
    exact UInt8.toNat_inj.1 (by omega)
  cases a
  cases b
  congr
  exact Array.toList_inj.1 h2
theorem toList_inj {a b : ByteArray} (h : a.toList = b.toList) : a = b := by
  rw [Lib.toList_data, Lib.toList_data] at h
  cases a
  cases b
  congr
  exact Array.toList_inj.1 h
theorem set_mid' {α β : Type} (q : List β) (p : List α) (h : q.length = p.length) (x y : β) (xs : List β) : (q ++ x :: xs).set ((p.length : Int)).toNat y = q ++ y :: xs := by
  rw [← h]
  exact set_mid q x y xs
/-- A number of 64 bits. -/
def I64 (n : Int) : Prop := -9223372036854775808 ≤ n ∧ n ≤ 9223372036854775807
theorem i64_of_wf {n : Int} (h : (Lit.int .i64 n).wf = true) : I64 n := by
  simp [Lit.wf, IntKind.min, IntKind.max, IntKind.signed, IntKind.bits] at h
  unfold I64
  omega

/-- Two readings come to one answer, of which P holds. -/
def Both {α : Type} (P : α → Prop) (A B : Nat → Option α) : Prop := ∃ r, Ev A r ∧ Ev B r ∧ P r
section
variable {α β : Type} {P : α → Prop} {Q : β → Prop} {A B A2 B2 C : Nat → Option α}
theorem both_now (r : α) (h : P r) : Both P (fun _ => some r) (fun _ => some r) := ⟨r, Ev.now r, Ev.now r, h⟩
theorem both_step (hA : ∀ k, A (k + 1) = A2 k) (hB : ∀ k, B (k + 1) = B2 k) (h : Both P A2 B2) : Both P A B := by
  obtain ⟨r, h1, h2, hp⟩ := h
  exact ⟨r, Ev.step hA h1, Ev.step hB h2, hp⟩
theorem both_ite {c : Prop} [Decidable c] (h : c → Both P A A2) (h2 : ¬ c → Both P B B2) : Both P (fun k => if c then A k else B k) (fun k => if c then A2 k else B2 k) := by
  by_cases hc : c
  · obtain ⟨r, h3, h4, hp⟩ := h hc
    exact ⟨r, ev_pos hc h3, ev_pos hc h4, hp⟩
  · obtain ⟨r, h3, h4, hp⟩ := h2 hc
    exact ⟨r, ev_neg hc h3, ev_neg hc h4, hp⟩
theorem both_posL {c : Prop} [Decidable c] (hc : c) (h : Both P A C) : Both P (fun k => if c then A k else B k) C := by
  obtain ⟨r, h3, h4, hp⟩ := h
  exact ⟨r, ev_pos hc h3, h4, hp⟩
theorem both_negL {c : Prop} [Decidable c] (hc : ¬ c) (h : Both P B C) : Both P (fun k => if c then A k else B k) C := by
  obtain ⟨r, h3, h4, hp⟩ := h
  exact ⟨r, ev_neg hc h3, h4, hp⟩
theorem both_posR {c : Prop} [Decidable c] (hc : c) (h : Both P C A) : Both P C (fun k => if c then A k else B k) := by
  obtain ⟨r, h3, h4, hp⟩ := h
  exact ⟨r, h3, ev_pos hc h4, hp⟩
theorem both_negR {c : Prop} [Decidable c] (hc : ¬ c) (h : Both P C B) : Both P C (fun k => if c then A k else B k) := by
  obtain ⟨r, h3, h4, hp⟩ := h
  exact ⟨r, h3, ev_neg hc h4, hp⟩
theorem both_bindL {D : Nat → Option β} {F : Nat → α → Option β} {a : α} (h : Ev A a) (h2 : Both Q (fun k => F k a) D) : Both Q (fun k => (A k).bind (F k)) D := by
  obtain ⟨r, h3, h4, hq⟩ := h2
  exact ⟨r, Ev.bind h h3, h4, hq⟩
theorem both_bindR {D : Nat → Option β} {F : Nat → α → Option β} {a : α} (h : Ev A a) (h2 : Both Q D (fun k => F k a)) : Both Q D (fun k => (A k).bind (F k)) := by
  obtain ⟨r, h3, h4, hq⟩ := h2
  exact ⟨r, h3, Ev.bind h h4, hq⟩
theorem both_bind0R {D : Nat → Option β} {F : Nat → α → Option β} {g : Option α} {a : α} (h : g = some a) (h2 : Both Q D (fun k => F k a)) : Both Q D (fun k => g.bind (F k)) := by
  subst h
  exact h2
end

theorem max_of {s : ByteArray} (h : s.size ≤ 1048576) : s.size ≤ maxLen := by
  unfold maxLen
  omega


/-- A name, as the document has it, over its bytes. -/
def smallB (c : Int) : Bool := decide (97 ≤ c) && decide (c ≤ 122)
def partB (c : Int) : Bool := smallB c || (decide (48 ≤ c) && decide (c ≤ 57)) || decide (c = 45)
def nameL (l : List Int) : Bool := match l with
  | [] => false
  | c :: cs => decide ((c :: cs).length ≤ 12) && smallB c && (c :: cs).all partB
def nameB (s : ByteArray) : Bool := nameL (bytesOf s)
end Go.Proofs.YtcenjcgfdghfnaaDoorB
end

section
/- IsName, within and their kin: the reference's and the program's functions, as one plain function of the bytes. -/
namespace Go.Proofs.YtcenjcgfdghfnaaDoorB
open Go.RowKit Go.Proofs.YtcenjcgfdghfnaaDoorW.PrintWords Go.Proofs.YtcenjcgfdghfnaaDoorW.PrintLast Go.Proofs.YtcenjcgfdghfnaaDoor.P

theorem in_some (a b c : Int) : spec_l00In.f a b c = some (decide (b ≤ a) && decide (a ≤ c)) := by
  unfold spec_l00In.f
  by_cases h : a ≥ b
  · rw [if_pos h, decide_eq_true (show b ≤ a from h)]
    simp
  · rw [if_neg h, decide_eq_false (show ¬ b ≤ a from h)]
    simp
theorem within_some (a b c : Int) : impl_within.f a b c = some (decide (b ≤ a) && decide (a ≤ c)) := by
  unfold impl_within.f
  by_cases h : a ≥ b
  · rw [if_pos h, decide_eq_true (show b ≤ a from h)]
    simp
  · rw [if_neg h, decide_eq_false (show ¬ b ≤ a from h)]
    simp
theorem small_some (a : Int) : spec_l01Small.f a = some (smallB a) := by
  unfold spec_l01Small.f smallB
  by_cases h : a ≥ 97
  · rw [if_pos h, decide_eq_true (show 97 ≤ a from h)]
    simp
  · rw [if_neg h, decide_eq_false (show ¬ 97 ≤ a from h)]
    simp
theorem digit_some (a : Int) : spec_l01Digit.f a = some (decide (48 ≤ a) && decide (a ≤ 57)) := by
  unfold spec_l01Digit.f
  by_cases h : a ≥ 48
  · rw [if_pos h, decide_eq_true (show 48 ≤ a from h)]
    simp
  · rw [if_neg h, decide_eq_false (show ¬ 48 ≤ a from h)]
    simp

theorem spec_name_loop (s : ByteArray) (hs : s.size ≤ 1048576) : ∀ (xs p : List Int), bytesOf s = p ++ xs → Ev (fun k => spec_IsName.l0 k s (p.length : Int)) (xs.all partB) := by
  intro xs
  induction xs with
  | nil =>
    intro p hp
    have hz : (s.size : Int) = p.length := by rw [← bytes_length, hp]; simp
    refine Ev.step (fun k => by rw [spec_IsName.l0]) ?_
    exact ev_neg (by omega) (Ev.now _)
  | cons x xs ih =>
    intro p hp
    have hz : (s.size : Int) = p.length + (xs.length + 1) := by rw [← bytes_length, hp]; simp
    have hb : bt s (p.length : Int) = x := by rw [bt_rd, hp]; exact rd_mid p x xs
    have hw : wrap64 ((p.length : Int) + 1) = ((p ++ [x]).length : Int) := wrap_next p x (by omega)
    have hi := ih (p ++ [x]) (by rw [hp]; simp)
    refine Ev.step (fun k => by rw [spec_IsName.l0]) ?_
    refine ev_pos (by omega) (ev_pos (by omega) ?_)
    rw [hb, hw]
    refine ev_bind0 (small_some x) ?_
    refine ev_ite (fun h => ?_) (fun h => ?_)
    · refine ev_of hi ?_
      simp [partB, h]
    · refine ev_bind0 (digit_some x) (ev_ite (fun h2 => ?_) (fun h2 => ?_))
      · refine ev_of hi ?_
        simp [partB, h2]
      · refine ev_ite (fun h3 => ?_) (fun h3 => ?_)
        · refine ev_of hi ?_
          simp [partB, h3]
        · refine ev_of (Ev.now _) ?_
          simp only [Bool.not_eq_true] at h h2
          simp [partB, h, h2, h3]

theorem impl_name_loop (s : ByteArray) (hs : s.size ≤ 1048576) : ∀ (xs p : List Int), bytesOf s = p ++ xs → Ev (fun k => impl_IsName.l0 k s (p.length : Int)) (xs.all partB) := by
  intro xs
  induction xs with
  | nil =>
    intro p hp
    have hz : (s.size : Int) = p.length := by rw [← bytes_length, hp]; simp
    refine Ev.step (fun k => by rw [impl_IsName.l0]) ?_
    exact ev_neg (by omega) (Ev.now _)
  | cons x xs ih =>
    intro p hp
    have hz : (s.size : Int) = p.length + (xs.length + 1) := by rw [← bytes_length, hp]; simp
    have hb : bt s (p.length : Int) = x := by rw [bt_rd, hp]; exact rd_mid p x xs
    have hw : wrap64 ((p.length : Int) + 1) = ((p ++ [x]).length : Int) := wrap_next p x (by omega)
    have hi := ih (p ++ [x]) (by rw [hp]; simp)
    have hy : partB x = true → Ev (fun k => impl_IsName.l0 k s ((p ++ [x]).length : Int)) ((x :: xs).all partB) := fun h => ev_of hi (by simp [h])
    have hn : partB x = false → Ev (fun _ => some false) ((x :: xs).all partB) := fun h => ev_of (Ev.now _) (by simp [h])
    refine Ev.step (fun k => by rw [impl_IsName.l0]) ?_
    refine ev_pos (by omega) (ev_pos (by omega) ?_)
    rw [hb, hw]
    have tail : (¬ smallB x = true) → Ev (fun k => if x < 48 then if x = 45 then impl_IsName.l0 k s ((p ++ [x]).length : Int) else some false else if x > 57 then if x = 45 then impl_IsName.l0 k s ((p ++ [x]).length : Int) else some false else impl_IsName.l0 k s ((p ++ [x]).length : Int)) ((x :: xs).all partB) := by
      intro hsm
      refine ev_ite (fun h => ?_) (fun h => ?_)
      · refine ev_ite (fun h2 => hy ?_) (fun h2 => hn ?_)
        · simp [partB, h2]
        · simp only [Bool.not_eq_true] at hsm
          simp [partB, hsm, h2]; omega
      · refine ev_ite (fun h2 => ?_) (fun h2 => hy ?_)
        · refine ev_ite (fun h3 => hy ?_) (fun h3 => hn ?_)
          · simp [partB, h3]
          · simp only [Bool.not_eq_true] at hsm
            simp [partB, hsm, h3]; omega
        · simp [partB]; omega
    refine ev_ite (fun h => tail (by simp [smallB]; omega)) (fun h => ?_)
    refine ev_ite (fun h2 => tail (by simp [smallB]; omega)) (fun h2 => hy ?_)
    simp [partB, smallB]; omega

theorem spec_name (s : ByteArray) (_hs : s.size ≤ maxLen) : Ev (fun k => spec_IsName.f k s) (nameB s) := by
  have hl := bytes_length s
  unfold spec_IsName.f nameB nameL
  refine ev_ite (fun h => ?_) (fun h => ?_)
  · rw [bytes_nil] at h
    rw [h]
    refine Ev.step (fun k => by rw [spec_IsName.j0]) ?_
    exact ev_pos rfl (Ev.now _)
  · rw [bytes_nil] at h
    cases hb : bytesOf s with
    | nil => exact absurd hb h
    | cons c cs =>
      rw [hb] at hl
      have hl2 : (s.size : Int) = cs.length + 1 := by rw [← hl]; simp
      have hc : bt s 0 = c := by rw [bt_rd, hb]; rfl
      refine ev_ite (fun h1 => ?_) (fun h1 => ?_)
      · refine Ev.step (fun k => by rw [spec_IsName.j0]) ?_
        refine ev_pos rfl (ev_of (Ev.now _) ?_)
        simp; omega
      · refine ev_pos (by omega) ?_
        rw [hc]
        refine ev_bind0 (small_some c) ?_
        refine Ev.step (fun k => by rw [spec_IsName.j0]) ?_
        refine ev_ite (fun h2 => ?_) (fun h2 => ?_)
        · refine ev_of (Ev.now _) ?_
          simp at h2
          simp [h2]
        · simp at h2
          refine ev_of (spec_name_loop s (by omega) (c :: cs) [] hb) ?_
          simp [h2]; omega
theorem impl_name (s : ByteArray) (_hs : s.size ≤ maxLen) : Ev (fun k => impl_IsName.f k s) (nameB s) := by
  have hl := bytes_length s
  unfold impl_IsName.f nameB nameL
  have no : ∀ v : Bool, v = false → Ev (fun k => impl_IsName.j0 k s true) v := fun v h => Ev.step (fun k => by rw [impl_IsName.j0]) (ev_pos rfl (ev_of (Ev.now _) h.symm))
  cases hb : bytesOf s with
  | nil =>
    rw [hb] at hl
    exact ev_pos (by simp at hl; omega) (no _ rfl)
  | cons c cs =>
    rw [hb] at hl
    have hl2 : (s.size : Int) = cs.length + 1 := by rw [← hl]; simp
    have hc : bt s 0 = c := by rw [bt_rd, hb]; rfl
    refine ev_neg (by omega) (ev_ite (fun h1 => no _ ?_) (fun h1 => ?_))
    · simp; omega
    · refine ev_pos (by omega) ?_
      rw [hc]
      refine ev_ite (fun h2 => no _ ?_) (fun h2 => ?_)
      · simp [smallB]; omega
      · refine Ev.step (fun k => by rw [impl_IsName.j0]) ?_
        refine ev_ite (fun h3 => ?_) (fun h3 => ?_)
        · refine ev_of (Ev.now _) ?_
          simp at h3
          simp [smallB]; omega
        · simp at h3
          refine ev_of (impl_name_loop s (by omega) (c :: cs) [] hb) ?_
          simp [smallB]; omega
end Go.Proofs.YtcenjcgfdghfnaaDoorB
end

section
/- Rail: what a list of them weighs, its copy, its comparison, its marks. -/
namespace Go.Proofs.YtcenjcgfdghfnaaDoorB
open Go.RowKit Go.Proofs.YtcenjcgfdghfnaaDoorW.PrintWords Go.Proofs.YtcenjcgfdghfnaaDoorW.PrintLast Go.Proofs.YtcenjcgfdghfnaaDoor.P

def toRail (x : S92) : S64 := ⟨x.f0, x.f1, x.f2⟩
theorem rd92_mid (p : List S92) (x : S92) (xs : List S92) : rd_T92 (p ++ x :: xs) (p.length : Int) = x := by
  unfold rd_T92
  exact getD_at p x xs _
theorem rd64_mid (p : List S64) (x : S64) (xs : List S64) : rd_T64 (p ++ x :: xs) (p.length : Int) = x := by
  unfold rd_T64
  exact getD_at p x xs _
theorem szRail_some (f0 : ByteArray) (f1 : ByteArray) (f2 : Int) (left : Int) (h0 : 0 ≤ left) (h1 : left ≤ 1048576) (h2 : f0.size ≤ maxLen) (h3 : f1.size ≤ maxLen) : ∃ r, laws_szRail.f f0 f1 f2 left = some r ∧ r ≤ left ∧ (0 ≤ r → (f0.size : Int) ≤ left) ∧ (0 ≤ r → (f1.size : Int) ≤ left) := by
  unfold maxLen at h2
  unfold maxLen at h3
  unfold laws_szRail.f
  rw [wrap_small (i := left - (f0.size : Int)) (by omega) (by omega)]
  by_cases c0 : left - (f0.size : Int) < 0
  · rw [if_pos c0]
    exact ⟨_, rfl, by omega, fun h => absurd h (by omega), fun h => absurd h (by omega)⟩
  · rw [if_neg c0]
    rw [wrap_small (i := left - (f0.size : Int) - (f1.size : Int)) (by omega) (by omega)]
    by_cases c1 : left - (f0.size : Int) - (f1.size : Int) < 0
    · rw [if_pos c1]
      exact ⟨_, rfl, by omega, fun h => absurd h (by omega), fun h => absurd h (by omega)⟩
    · rw [if_neg c1]
      exact ⟨_, rfl, by omega, fun _ => by omega, fun _ => by omega⟩
theorem szRailS_loop : ∀ (xs p : List S92) (left : Int), p.length + xs.length ≤ 4611686018427387904 → 0 ≤ left → left ≤ 1048576 → (∀ x ∈ xs, (x.f0.size ≤ maxLen ∧ x.f1.size ≤ maxLen)) → ∃ r, Ev (fun k => laws_szRailS.l0 k (p ++ xs) left (p.length : Int)) r ∧ r ≤ left ∧ (0 ≤ r → ∀ x ∈ xs, ((x.f0.size : Int) ≤ left ∧ (x.f1.size : Int) ≤ left)) := by
  intro xs
  induction xs with
  | nil =>
    intro p left _ h0 h1 _
    exact ⟨left, Ev.step (fun k => by rw [laws_szRailS.l0]) (ev_neg (not_lt_end p) (Ev.now _)), Int.le_refl _, fun _ x hx => by simp at hx⟩
  | cons x xs ih =>
    intro p left hl h0 h1 hs
    have hx := hs x List.mem_cons_self
    rw [List.length_cons] at hl
    have hw : wrap64 ((p.length : Int) + 1) = ((p ++ [x]).length : Int) := wrap_next p x (by omega)
    obtain ⟨r, e, hr, b0, b1⟩ := szRail_some x.f0 x.f1 x.f2 left h0 h1 hx.1 hx.2
    by_cases hn : r < 0
    · refine ⟨-1, Ev.step (fun k => by rw [laws_szRailS.l0]) (ev_pos (lt_mid p x xs) (ev_pos (Int.natCast_nonneg _) ?_)), by omega, fun h => absurd h (by decide)⟩
      rw [rd92_mid]
      exact ev_bind0 e (ev_pos hn (Ev.now _))
    · obtain ⟨q, h2, h3, h4⟩ := ih (p ++ [x]) r (by rw [List.length_append]; simp; omega) (by omega) (by omega) (fun y hy => hs y (List.mem_cons_of_mem _ hy))
      refine ⟨q, Ev.step (fun k => by rw [laws_szRailS.l0]) (ev_pos (lt_mid p x xs) (ev_pos (Int.natCast_nonneg _) ?_)), by omega, fun h y hy => ?_⟩
      · rw [rd92_mid, hw, push_mid p x xs]
        exact ev_bind0 e (ev_neg hn h2)
      · rcases List.mem_cons.1 hy with rfl | hy
        · exact ⟨b0 (by omega), b1 (by omega)⟩
        · have := h4 h y hy
          omega
theorem szRailS_ev (l : List S92) (left : Int) (h0 : 0 ≤ left) (h1 : left ≤ 1048576) (hl : l.length ≤ maxLen ∧ ∀ x ∈ l, (x.f0.size ≤ maxLen ∧ x.f1.size ≤ maxLen ∧ (Lit.int .i64 x.f2).wf = true)) : ∃ r, Ev (fun k => laws_szRailS.f k l left) r ∧ r ≤ left ∧ (0 ≤ r → (l.length : Int) ≤ left ∧ ∀ x ∈ l, ((x.f0.size : Int) ≤ left ∧ (x.f1.size : Int) ≤ left)) := by
  obtain ⟨hm, hq⟩ := hl
  have hm2 := hm
  unfold maxLen at hm2
  unfold laws_szRailS.f
  rw [wrap_small (i := left - (l.length : Int)) (by omega) (by omega)]
  by_cases c : left - (l.length : Int) < 0
  · exact ⟨-1, ev_pos c (Ev.now _), by omega, fun h => absurd h (by decide)⟩
  · obtain ⟨r, h2, h3, h4⟩ := szRailS_loop l [] (left - (l.length : Int)) (by simp; omega) (by omega) (by omega) (fun x hx => by have := hq x hx; exact ⟨this.1, this.2.1⟩)
    refine ⟨r, ev_neg c h2, by omega, fun h => ⟨by omega, fun x hx => ?_⟩⟩
    have := h4 h x hx
    omega
theorem toRail_some (f0 : ByteArray) (f1 : ByteArray) (f2 : Int) : laws_toRail.f f0 f1 f2 = some (f0, f1, f2) := rfl
theorem toRailS_loop : ∀ (xs p : List S92), p.length + xs.length ≤ 1048576 → Ev (fun k => laws_toRailS.l0 k (p ++ xs) (p.map toRail ++ List.replicate xs.length z64) (p.length : Int)) ((p ++ xs).map toRail) := by
  intro xs
  induction xs with
  | nil =>
    intro p _
    refine Ev.step (fun k => by rw [laws_toRailS.l0]) ?_
    refine ev_neg (not_lt_end p) (ev_of (Ev.now _) ?_)
    simp
  | cons x xs ih =>
    intro p hl
    rw [List.length_cons] at hl
    have hw : wrap64 ((p.length : Int) + 1) = ((p ++ [x]).length : Int) := wrap_next p x (by omega)
    have hi := ih (p ++ [x]) (by rw [List.length_append]; simp; omega)
    refine Ev.step (fun k => by rw [laws_toRailS.l0]) ?_
    refine ev_pos (lt_mid p x xs) (ev_pos (Int.natCast_nonneg _) ?_)
    rw [rd92_mid, hw]
    refine ev_bind0 (toRail_some x.f0 x.f1 x.f2) (ev_pos (by simp; omega) ?_)
    rw [List.length_cons, List.replicate_succ, set_mid' (p.map toRail) p (List.length_map _), push_mid p x xs]
    have e : (p ++ [x]).map toRail ++ List.replicate xs.length z64 = p.map toRail ++ toRail x :: List.replicate xs.length z64 := by simp
    rw [e] at hi
    exact hi
theorem toRailS_ev (l : List S92) (hl : l.length ≤ 1048576) : Ev (fun k => laws_toRailS.f k l) (l.map toRail) := by
  have h := toRailS_loop l [] (by simp; omega)
  unfold laws_toRailS.f
  refine ev_pos (Int.natCast_nonneg _) (ev_pos (by simp; omega) ?_)
  simpa using h
def GoodRail (x : S64) : Prop := x.f0.size ≤ 1048576 ∧ x.f1.size ≤ 1048576 ∧ I64 x.f2
theorem goodRail_of (x : S92) (hq : (x.f0.size ≤ maxLen ∧ x.f1.size ≤ maxLen ∧ (Lit.int .i64 x.f2).wf = true)) (hs : ((x.f0.size : Int) ≤ 1048576 ∧ (x.f1.size : Int) ≤ 1048576)) : GoodRail (toRail x) := ⟨by have := hs.1; show x.f0.size ≤ 1048576; omega, by have := hs.2; show x.f1.size ≤ 1048576; omega, i64_of_wf hq.2.2⟩
theorem goodRailS_of (l : List S92) (left : Int) (hle : left ≤ 1048576) (hq : l.length ≤ maxLen ∧ ∀ x ∈ l, (x.f0.size ≤ maxLen ∧ x.f1.size ≤ maxLen ∧ (Lit.int .i64 x.f2).wf = true)) (hs : (l.length : Int) ≤ left ∧ ∀ x ∈ l, ((x.f0.size : Int) ≤ left ∧ (x.f1.size : Int) ≤ left)) : (l.map toRail).length ≤ 1048576 ∧ ∀ y ∈ l.map toRail, GoodRail y := by
  refine ⟨by rw [List.length_map]; omega, fun y hy => ?_⟩
  obtain ⟨x, hx, rfl⟩ := List.mem_map.1 hy
  have := hs.2 x hx
  exact goodRail_of x (hq.2 x hx) ⟨by omega, by omega⟩
theorem eqRail_refl (f0 : ByteArray) (f1 : ByteArray) (f2 : Int) : laws_eqRail.f f0 f1 f2 f0 f1 f2 = some true := by
  unfold laws_eqRail.f
  simp
theorem eqRailS_loop : ∀ (xs p : List S64), p.length + xs.length ≤ 4611686018427387904 → Ev (fun k => laws_eqRailS.l0 k (p ++ xs) (p ++ xs) (p.length : Int)) true := by
  intro xs
  induction xs with
  | nil =>
    intro p _
    refine Ev.step (fun k => by rw [laws_eqRailS.l0]) ?_
    exact ev_neg (not_lt_end p) (Ev.now _)
  | cons x xs ih =>
    intro p hl
    rw [List.length_cons] at hl
    have hw : wrap64 ((p.length : Int) + 1) = ((p ++ [x]).length : Int) := wrap_next p x (by omega)
    have hi := ih (p ++ [x]) (by rw [List.length_append]; simp; omega)
    refine Ev.step (fun k => by rw [laws_eqRailS.l0]) ?_
    refine ev_pos (lt_mid p x xs) (ev_pos (Int.natCast_nonneg _) (ev_pos (lt_mid p x xs) ?_))
    rw [rd64_mid, hw, push_mid p x xs]
    exact ev_bind0 (eqRail_refl x.f0 x.f1 x.f2) (ev_pos rfl hi)
theorem eqRailS_refl (l : List S64) (hl : l.length ≤ 4611686018427387904) : Ev (fun k => laws_eqRailS.f k l l) true := by
  unfold laws_eqRailS.f
  exact ev_pos rfl (eqRailS_loop l [] (by simp; omega))
end Go.Proofs.YtcenjcgfdghfnaaDoorB
end

section
/- Belay: what a list of them weighs, its copy, its comparison, its marks. -/
namespace Go.Proofs.YtcenjcgfdghfnaaDoorB
open Go.RowKit Go.Proofs.YtcenjcgfdghfnaaDoorW.PrintWords Go.Proofs.YtcenjcgfdghfnaaDoorW.PrintLast Go.Proofs.YtcenjcgfdghfnaaDoor.P

def toBelay (x : S94) : S67 := ⟨x.f0, x.f1, x.f2⟩
theorem rd94_mid (p : List S94) (x : S94) (xs : List S94) : rd_T94 (p ++ x :: xs) (p.length : Int) = x := by
  unfold rd_T94
  exact getD_at p x xs _
theorem rd67_mid (p : List S67) (x : S67) (xs : List S67) : rd_T67 (p ++ x :: xs) (p.length : Int) = x := by
  unfold rd_T67
  exact getD_at p x xs _
theorem szBelay_some (f0 : ByteArray) (f1 : ByteArray) (f2 : Int) (left : Int) (h0 : 0 ≤ left) (h1 : left ≤ 1048576) (h2 : f0.size ≤ maxLen) (h3 : f1.size ≤ maxLen) : ∃ r, laws_szBelay.f f0 f1 f2 left = some r ∧ r ≤ left ∧ (0 ≤ r → (f0.size : Int) ≤ left) ∧ (0 ≤ r → (f1.size : Int) ≤ left) := by
  unfold maxLen at h2
  unfold maxLen at h3
  unfold laws_szBelay.f
  rw [wrap_small (i := left - (f0.size : Int)) (by omega) (by omega)]
  by_cases c0 : left - (f0.size : Int) < 0
  · rw [if_pos c0]
    exact ⟨_, rfl, by omega, fun h => absurd h (by omega), fun h => absurd h (by omega)⟩
  · rw [if_neg c0]
    rw [wrap_small (i := left - (f0.size : Int) - (f1.size : Int)) (by omega) (by omega)]
    by_cases c1 : left - (f0.size : Int) - (f1.size : Int) < 0
    · rw [if_pos c1]
      exact ⟨_, rfl, by omega, fun h => absurd h (by omega), fun h => absurd h (by omega)⟩
    · rw [if_neg c1]
      exact ⟨_, rfl, by omega, fun _ => by omega, fun _ => by omega⟩
theorem szBelayS_loop : ∀ (xs p : List S94) (left : Int), p.length + xs.length ≤ 4611686018427387904 → 0 ≤ left → left ≤ 1048576 → (∀ x ∈ xs, (x.f0.size ≤ maxLen ∧ x.f1.size ≤ maxLen)) → ∃ r, Ev (fun k => laws_szBelayS.l0 k (p ++ xs) left (p.length : Int)) r ∧ r ≤ left ∧ (0 ≤ r → ∀ x ∈ xs, ((x.f0.size : Int) ≤ left ∧ (x.f1.size : Int) ≤ left)) := by
  intro xs
  induction xs with
  | nil =>
    intro p left _ h0 h1 _
    exact ⟨left, Ev.step (fun k => by rw [laws_szBelayS.l0]) (ev_neg (not_lt_end p) (Ev.now _)), Int.le_refl _, fun _ x hx => by simp at hx⟩
  | cons x xs ih =>
    intro p left hl h0 h1 hs
    have hx := hs x List.mem_cons_self
    rw [List.length_cons] at hl
    have hw : wrap64 ((p.length : Int) + 1) = ((p ++ [x]).length : Int) := wrap_next p x (by omega)
    obtain ⟨r, e, hr, b0, b1⟩ := szBelay_some x.f0 x.f1 x.f2 left h0 h1 hx.1 hx.2
    by_cases hn : r < 0
    · refine ⟨-1, Ev.step (fun k => by rw [laws_szBelayS.l0]) (ev_pos (lt_mid p x xs) (ev_pos (Int.natCast_nonneg _) ?_)), by omega, fun h => absurd h (by decide)⟩
      rw [rd94_mid]
      exact ev_bind0 e (ev_pos hn (Ev.now _))
    · obtain ⟨q, h2, h3, h4⟩ := ih (p ++ [x]) r (by rw [List.length_append]; simp; omega) (by omega) (by omega) (fun y hy => hs y (List.mem_cons_of_mem _ hy))
      refine ⟨q, Ev.step (fun k => by rw [laws_szBelayS.l0]) (ev_pos (lt_mid p x xs) (ev_pos (Int.natCast_nonneg _) ?_)), by omega, fun h y hy => ?_⟩
      · rw [rd94_mid, hw, push_mid p x xs]
        exact ev_bind0 e (ev_neg hn h2)
      · rcases List.mem_cons.1 hy with rfl | hy
        · exact ⟨b0 (by omega), b1 (by omega)⟩
        · have := h4 h y hy
          omega
theorem szBelayS_ev (l : List S94) (left : Int) (h0 : 0 ≤ left) (h1 : left ≤ 1048576) (hl : l.length ≤ maxLen ∧ ∀ x ∈ l, (x.f0.size ≤ maxLen ∧ x.f1.size ≤ maxLen ∧ (Lit.int .i64 x.f2).wf = true)) : ∃ r, Ev (fun k => laws_szBelayS.f k l left) r ∧ r ≤ left ∧ (0 ≤ r → (l.length : Int) ≤ left ∧ ∀ x ∈ l, ((x.f0.size : Int) ≤ left ∧ (x.f1.size : Int) ≤ left)) := by
  obtain ⟨hm, hq⟩ := hl
  have hm2 := hm
  unfold maxLen at hm2
  unfold laws_szBelayS.f
  rw [wrap_small (i := left - (l.length : Int)) (by omega) (by omega)]
  by_cases c : left - (l.length : Int) < 0
  · exact ⟨-1, ev_pos c (Ev.now _), by omega, fun h => absurd h (by decide)⟩
  · obtain ⟨r, h2, h3, h4⟩ := szBelayS_loop l [] (left - (l.length : Int)) (by simp; omega) (by omega) (by omega) (fun x hx => by have := hq x hx; exact ⟨this.1, this.2.1⟩)
    refine ⟨r, ev_neg c h2, by omega, fun h => ⟨by omega, fun x hx => ?_⟩⟩
    have := h4 h x hx
    omega
theorem toBelay_some (f0 : ByteArray) (f1 : ByteArray) (f2 : Int) : laws_toBelay.f f0 f1 f2 = some (f0, f1, f2) := rfl
theorem toBelayS_loop : ∀ (xs p : List S94), p.length + xs.length ≤ 1048576 → Ev (fun k => laws_toBelayS.l0 k (p ++ xs) (p.map toBelay ++ List.replicate xs.length z67) (p.length : Int)) ((p ++ xs).map toBelay) := by
  intro xs
  induction xs with
  | nil =>
    intro p _
    refine Ev.step (fun k => by rw [laws_toBelayS.l0]) ?_
    refine ev_neg (not_lt_end p) (ev_of (Ev.now _) ?_)
    simp
  | cons x xs ih =>
    intro p hl
    rw [List.length_cons] at hl
    have hw : wrap64 ((p.length : Int) + 1) = ((p ++ [x]).length : Int) := wrap_next p x (by omega)
    have hi := ih (p ++ [x]) (by rw [List.length_append]; simp; omega)
    refine Ev.step (fun k => by rw [laws_toBelayS.l0]) ?_
    refine ev_pos (lt_mid p x xs) (ev_pos (Int.natCast_nonneg _) ?_)
    rw [rd94_mid, hw]
    refine ev_bind0 (toBelay_some x.f0 x.f1 x.f2) (ev_pos (by simp; omega) ?_)
    rw [List.length_cons, List.replicate_succ, set_mid' (p.map toBelay) p (List.length_map _), push_mid p x xs]
    have e : (p ++ [x]).map toBelay ++ List.replicate xs.length z67 = p.map toBelay ++ toBelay x :: List.replicate xs.length z67 := by simp
    rw [e] at hi
    exact hi
theorem toBelayS_ev (l : List S94) (hl : l.length ≤ 1048576) : Ev (fun k => laws_toBelayS.f k l) (l.map toBelay) := by
  have h := toBelayS_loop l [] (by simp; omega)
  unfold laws_toBelayS.f
  refine ev_pos (Int.natCast_nonneg _) (ev_pos (by simp; omega) ?_)
  simpa using h
def GoodBelay (x : S67) : Prop := x.f0.size ≤ 1048576 ∧ x.f1.size ≤ 1048576 ∧ I64 x.f2
theorem goodBelay_of (x : S94) (hq : (x.f0.size ≤ maxLen ∧ x.f1.size ≤ maxLen ∧ (Lit.int .i64 x.f2).wf = true)) (hs : ((x.f0.size : Int) ≤ 1048576 ∧ (x.f1.size : Int) ≤ 1048576)) : GoodBelay (toBelay x) := ⟨by have := hs.1; show x.f0.size ≤ 1048576; omega, by have := hs.2; show x.f1.size ≤ 1048576; omega, i64_of_wf hq.2.2⟩
theorem goodBelayS_of (l : List S94) (left : Int) (hle : left ≤ 1048576) (hq : l.length ≤ maxLen ∧ ∀ x ∈ l, (x.f0.size ≤ maxLen ∧ x.f1.size ≤ maxLen ∧ (Lit.int .i64 x.f2).wf = true)) (hs : (l.length : Int) ≤ left ∧ ∀ x ∈ l, ((x.f0.size : Int) ≤ left ∧ (x.f1.size : Int) ≤ left)) : (l.map toBelay).length ≤ 1048576 ∧ ∀ y ∈ l.map toBelay, GoodBelay y := by
  refine ⟨by rw [List.length_map]; omega, fun y hy => ?_⟩
  obtain ⟨x, hx, rfl⟩ := List.mem_map.1 hy
  have := hs.2 x hx
  exact goodBelay_of x (hq.2 x hx) ⟨by omega, by omega⟩
theorem eqBelay_refl (f0 : ByteArray) (f1 : ByteArray) (f2 : Int) : laws_eqBelay.f f0 f1 f2 f0 f1 f2 = some true := by
  unfold laws_eqBelay.f
  simp
theorem eqBelayS_loop : ∀ (xs p : List S67), p.length + xs.length ≤ 4611686018427387904 → Ev (fun k => laws_eqBelayS.l0 k (p ++ xs) (p ++ xs) (p.length : Int)) true := by
  intro xs
  induction xs with
  | nil =>
    intro p _
    refine Ev.step (fun k => by rw [laws_eqBelayS.l0]) ?_
    exact ev_neg (not_lt_end p) (Ev.now _)
  | cons x xs ih =>
    intro p hl
    rw [List.length_cons] at hl
    have hw : wrap64 ((p.length : Int) + 1) = ((p ++ [x]).length : Int) := wrap_next p x (by omega)
    have hi := ih (p ++ [x]) (by rw [List.length_append]; simp; omega)
    refine Ev.step (fun k => by rw [laws_eqBelayS.l0]) ?_
    refine ev_pos (lt_mid p x xs) (ev_pos (Int.natCast_nonneg _) (ev_pos (lt_mid p x xs) ?_))
    rw [rd67_mid, hw, push_mid p x xs]
    exact ev_bind0 (eqBelay_refl x.f0 x.f1 x.f2) (ev_pos rfl hi)
theorem eqBelayS_refl (l : List S67) (hl : l.length ≤ 4611686018427387904) : Ev (fun k => laws_eqBelayS.f k l l) true := by
  unfold laws_eqBelayS.f
  exact ev_pos rfl (eqBelayS_loop l [] (by simp; omega))
end Go.Proofs.YtcenjcgfdghfnaaDoorB
end

section
/- Rigs: what adding a rail, a line, a belay comes to, of both; whether a rig is valid. -/
namespace Go.Proofs.YtcenjcgfdghfnaaDoorB
open Go.RowKit Go.Proofs.YtcenjcgfdghfnaaDoorW.PrintWords Go.Proofs.YtcenjcgfdghfnaaDoorW.PrintLast Go.Proofs.YtcenjcgfdghfnaaDoor.P

abbrev R := S64
abbrev L := S67
def hasT (l : List ByteArray) (a : ByteArray) : Bool := l.any fun b => b.toList == a.toList
section
variable (f1 : List ByteArray)
theorem goR_range : ∀ (l : List R) (a : ByteArray) (i : Int), 0 ≤ i → impl_railNamed.go l a i = -1 ∨ (i ≤ impl_railNamed.go l a i ∧ impl_railNamed.go l a i < i + l.length)
  | [], a, i, _ => .inl rfl
  | x :: l, a, i, h0 => by
    rw [impl_railNamed.go, List.length_cons]
    have := goR_range l a (i + 1) (by omega)
    by_cases h : x.f0.toList = a.toList
    · rw [if_pos h]; omega
    · rw [if_neg h]; omega
theorem rail_loop (a : ByteArray) (f2 : List L) : ∀ (xs p : List R), p.length + xs.length ≤ 1048576 → Ev (fun k => spec_l19Rail.l0 k a (p.length : Int) (p ++ xs) f1 f2) (impl_railNamed.go xs a (p.length : Int)) := by
  intro xs
  induction xs with
  | nil =>
    intro p _
    refine Ev.step (fun k => by rw [spec_l19Rail.l0]) ?_
    exact ev_neg (not_lt_end p) (Ev.now _)
  | cons x xs ih =>
    intro p hl
    rw [List.length_cons] at hl
    have hw : wrap64 ((p.length : Int) + 1) = ((p ++ [x]).length : Int) := wrap_next p x (by omega)
    have hi := ih (p ++ [x]) (by rw [List.length_append]; simp; omega)
    have hz : ((p ++ [x]).length : Int) = (p.length : Int) + 1 := by simp
    refine Ev.step (fun k => by rw [spec_l19Rail.l0]) ?_
    refine ev_pos (lt_mid p x xs) (ev_pos (Int.natCast_nonneg _) ?_)
    rw [rd64_mid, impl_railNamed.go, hw]
    rw [← push_mid p x xs, hz] at hi
    rw [hz]
    refine ev_ite (fun h => ev_of (Ev.now _) (by rw [if_pos h])) (fun h => ?_)
    rw [if_neg h]
    exact hi
theorem of_loop (a : ByteArray) (f0 : List R) : ∀ (xs p : List L), p.length + xs.length ≤ 1048576 → Ev (fun k => spec_l19Of.l0 k a (p.length : Int) f0 f1 (p ++ xs)) (impl_belayOf.go xs a (p.length : Int)) := by
  intro xs
  induction xs with
  | nil =>
    intro p _
    refine Ev.step (fun k => by rw [spec_l19Of.l0]) ?_
    exact ev_neg (not_lt_end p) (Ev.now _)
  | cons x xs ih =>
    intro p hl
    rw [List.length_cons] at hl
    have hw : wrap64 ((p.length : Int) + 1) = ((p ++ [x]).length : Int) := wrap_next p x (by omega)
    have hi := ih (p ++ [x]) (by rw [List.length_append]; simp; omega)
    have hz : ((p ++ [x]).length : Int) = (p.length : Int) + 1 := by simp
    refine Ev.step (fun k => by rw [spec_l19Of.l0]) ?_
    refine ev_pos (lt_mid p x xs) (ev_pos (Int.natCast_nonneg _) ?_)
    rw [rd67_mid, impl_belayOf.go, hw]
    rw [← push_mid p x xs, hz] at hi
    rw [hz]
    refine ev_ite (fun h => ev_of (Ev.now _) (by rw [if_pos h])) (fun h => ?_)
    rw [if_neg h]
    exact hi
theorem at_loop (a : ByteArray) (q : Int) (f0 : List R) : ∀ (xs p : List L), p.length + xs.length ≤ 1048576 → Ev (fun k => spec_l19At.l0 k a q (p.length : Int) f0 f1 (p ++ xs)) (impl_belayAt.go xs a q (p.length : Int)) := by
  intro xs
  induction xs with
  | nil =>
    intro p _
    refine Ev.step (fun k => by rw [spec_l19At.l0]) ?_
    exact ev_neg (not_lt_end p) (Ev.now _)
  | cons x xs ih =>
    intro p hl
    rw [List.length_cons] at hl
    have hw : wrap64 ((p.length : Int) + 1) = ((p ++ [x]).length : Int) := wrap_next p x (by omega)
    have hi := ih (p ++ [x]) (by rw [List.length_append]; simp; omega)
    have hz : ((p ++ [x]).length : Int) = (p.length : Int) + 1 := by simp
    refine Ev.step (fun k => by rw [spec_l19At.l0]) ?_
    refine ev_pos (lt_mid p x xs) (ev_pos (Int.natCast_nonneg _) ?_)
    rw [rd67_mid, impl_belayAt.go, hw]
    rw [← push_mid p x xs, hz] at hi
    rw [hz]
    by_cases h : x.f1.toList = a.toList
    · by_cases h2 : x.f2 = q
      · exact ev_pos h (ev_pos h2 (ev_of (Ev.now _) (by simp [h, h2])))
      · refine ev_pos h (ev_neg h2 (ev_of hi ?_))
        simp [h2]
    · refine ev_neg h (ev_of hi ?_)
      simp [h]
theorem line_loop (a : ByteArray) (f0 : List R) (f2 : List L) : ∀ (xs p : List ByteArray), p.length + xs.length ≤ 1048576 → Ev (fun k => spec_l19Line.l0 k a (p.length : Int) f0 (p ++ xs) f2) (hasT xs a) := by
  intro xs
  induction xs with
  | nil =>
    intro p _
    refine Ev.step (fun k => by rw [spec_l19Line.l0]) ?_
    exact ev_neg (not_lt_end p) (Ev.now _)
  | cons x xs ih =>
    intro p hl
    rw [List.length_cons] at hl
    have hw : wrap64 ((p.length : Int) + 1) = ((p ++ [x]).length : Int) := wrap_next p x (by omega)
    have hi := ih (p ++ [x]) (by rw [List.length_append]; simp; omega)
    refine Ev.step (fun k => by rw [spec_l19Line.l0]) ?_
    refine ev_pos (lt_mid p x xs) (ev_pos (Int.natCast_nonneg _) ?_)
    rw [rdOf_mid, hw, push_mid p x xs]
    refine ev_ite (fun h => ev_of (Ev.now _) (by simp [hasT, h])) (fun h => ev_of hi ?_)
    simp [hasT, h]
theorem has_loop (a : ByteArray) : ∀ (xs p : List ByteArray), p.length + xs.length ≤ 1048576 → ∃ r, Ev (fun k => slices_Index_string_string.l0 k (p ++ xs) a ((p ++ xs).length : Int) (p.length : Int)) r ∧ decide (r ≥ 0) = hasT xs a := by
  intro xs
  induction xs with
  | nil =>
    intro p _
    exact ⟨-1, Ev.step (fun k => by rw [slices_Index_string_string.l0]) (ev_neg (not_lt_end p) (Ev.now _)), rfl⟩
  | cons x xs ih =>
    intro p hl
    rw [List.length_cons] at hl
    have hw : wrap64 ((p.length : Int) + 1) = ((p ++ [x]).length : Int) := wrap_next p x (by omega)
    obtain ⟨r, hi, hd⟩ := ih (p ++ [x]) (by rw [List.length_append]; simp; omega)
    by_cases h : a.toList = x.toList
    · refine ⟨(p.length : Int), Ev.step (fun k => by rw [slices_Index_string_string.l0]) (ev_pos (lt_mid p x xs) (ev_pos (Int.natCast_nonneg _) (ev_pos (lt_mid p x xs) ?_))), ?_⟩
      · rw [rdOf_mid]
        exact ev_pos h (Ev.now _)
      · rw [decide_eq_true (Int.natCast_nonneg _)]
        simp [hasT, h]
    · refine ⟨r, Ev.step (fun k => by rw [slices_Index_string_string.l0]) (ev_pos (lt_mid p x xs) (ev_pos (Int.natCast_nonneg _) (ev_pos (lt_mid p x xs) ?_))), ?_⟩
      · rw [rdOf_mid, hw, push_mid p x xs]
        exact ev_neg h hi
      · rw [hd]
        have : (x.toList == a.toList) = false := by simpa using fun e => h e.symm
        simp [hasT, this]
end
section
variable (f0 : List R) (f1 : List ByteArray) (f2 : List L) (h0 : f0.length ≤ 1048576) (h1 : f1.length ≤ 1048576) (h2 : f2.length ≤ 1048576)
include h0 in
theorem spec_rail (a : ByteArray) : Ev (fun k => spec_l19Rail.f k f0 f1 f2 a) (impl_railNamed.go f0 a 0) := by
  unfold spec_l19Rail.f
  exact rail_loop f1 a f2 f0 [] (by simpa using h0)
include h1 in
theorem spec_line (a : ByteArray) : Ev (fun k => spec_l19Line.f k f0 f1 f2 a) (hasT f1 a) := by
  unfold spec_l19Line.f
  exact line_loop a f0 f2 f1 [] (by simpa using h1)
include h2 in
theorem spec_of (a : ByteArray) : Ev (fun k => spec_l19Of.f k f0 f1 f2 a) (impl_belayOf.go f2 a 0) := by
  unfold spec_l19Of.f
  exact of_loop f1 a f0 f2 [] (by simpa using h2)
include h2 in
theorem spec_at (a : ByteArray) (q : Int) : Ev (fun k => spec_l19At.f k f0 f1 f2 a q) (impl_belayAt.go f2 a q 0) := by
  unfold spec_l19At.f
  exact at_loop f1 a q f0 f2 [] (by simpa using h2)
end
theorem impl_has (f1 : List ByteArray) (h1 : f1.length ≤ 1048576) (a : ByteArray) : Ev (fun k => slices_Contains_string_string.f k f1 a) (hasT f1 a) := by
  unfold slices_Contains_string_string.f slices_Index_string_string.f
  obtain ⟨r, h, e⟩ := has_loop a f1 [] (by simpa using h1)
  exact Ev.bind h (ev_of (Ev.now _) e)
/-! ### what is added -/
def numB (lo hi n : Int) : Bool := decide (lo ≤ n) && decide (n ≤ hi)
def railV (f0 : List R) (a0 a1 : ByteArray) (a2 : Int) : List R × Int :=
  if nameB a0 = true then (if sideB a1 = true then (if numB 1 30 a2 = true then (if impl_railNamed.go f0 a0 0 ≥ 0 then (f0, 5) else if (f0.length : Int) ≥ 10 then (f0, 8) else (f0 ++ [⟨a0, a1, a2⟩], 0)) else (f0, 4)) else (f0, 1)) else (f0, 3)
def lineV (f1 : List ByteArray) (a : ByteArray) : List ByteArray × Int :=
  if nameB a = true then (if hasT f1 a = true then (f1, 5) else if (f1.length : Int) ≥ 60 then (f1, 8) else (f1 ++ [a], 0)) else (f1, 3)
def belayV (f0 : List R) (f1 : List ByteArray) (f2 : List L) (a0 a1 : ByteArray) (a2 : Int) : List L × Int :=
  if impl_railNamed.go f0 a1 0 < 0 then (f2, 6) else if hasT f1 a0 = true then (if numB 1 (rd_T64 f0 (impl_railNamed.go f0 a1 0)).f2 a2 = true then (if impl_belayOf.go f2 a0 0 ≥ 0 then (f2, 5) else if impl_belayAt.go f2 a1 a2 0 ≥ 0 then (f2, 7) else (f2 ++ [⟨a0, a1, a2⟩], 0)) else (f2, 4)) else (f2, 6)
theorem railV_len {f0 : List R} (h : f0.length ≤ 10) (a0 a1 : ByteArray) (a2 : Int) : (railV f0 a0 a1 a2).1.length ≤ 10 := by
  unfold railV
  split
  · split
    · split
      · split
        · exact h
        · split
          · exact h
          · simp; omega
      · exact h
    · exact h
  · exact h
theorem lineV_len {f1 : List ByteArray} (h : f1.length ≤ 60) (a : ByteArray) : (lineV f1 a).1.length ≤ 60 := by
  unfold lineV
  split
  · split
    · exact h
    · split
      · exact h
      · simp; omega
  · exact h
theorem belayV_len (f0 : List R) (f1 : List ByteArray) (f2 : List L) (a0 a1 : ByteArray) (a2 : Int) : (belayV f0 f1 f2 a0 a1 a2).1.length ≤ f2.length + 1 := by
  unfold belayV
  split
  · simp
  · split
    · split
      · split
        · simp
        · split <;> simp
      · simp
    · simp
theorem spec_addRail (f0 : List R) (h : f0.length ≤ 10) (f1 : List ByteArray) (f2 : List L) (a0 a1 : ByteArray) (a2 : Int) (hs : a0.size ≤ maxLen) : Ev (fun k => spec_l19AddRail.f k f0 f1 f2 a0 a1 a2) (railV f0 a0 a1 a2) := by
  unfold spec_l19AddRail.f railV
  refine Ev.bind (spec_name a0 hs) (ev_ite (fun h1 => ?_) (fun h1 => ev_of (Ev.now _) (by rw [if_neg h1])))
  rw [if_pos h1]
  refine ev_ite (fun h2 => ?_) (fun h2 => ev_of (Ev.now _) (by rw [if_neg h2]))
  rw [if_pos h2]
  refine ev_bind0 (in_some _ _ _) (ev_ite (fun h3 => ?_) (fun h3 => ev_of (Ev.now _) (by rw [if_neg (by simpa only [numB] using h3)])))
  rw [if_pos (show numB 1 30 a2 = true from h3)]
  refine Ev.bind (spec_rail f0 f1 f2 (by omega) a0) (ev_ite (fun h4 => ev_of (Ev.now _) (by rw [if_pos h4])) (fun h4 => ?_))
  rw [if_neg h4]
  refine ev_ite (fun h5 => ev_of (Ev.now _) (by rw [if_pos h5])) (fun h5 => ?_)
  rw [if_neg h5]
  exact ev_pos (by omega) (Ev.now _)
theorem impl_addRailV (f0 : List R) (h : f0.length ≤ 10) (f1 : List ByteArray) (f2 : List L) (a0 a1 : ByteArray) (a2 : Int) (hs : a0.size ≤ maxLen) : Ev (fun k => impl_addRail.f k f0 f1 f2 a0 a1 a2) (railV f0 a0 a1 a2) := by
  unfold impl_addRail.f railV
  refine Ev.bind (impl_name a0 hs) (ev_ite (fun h1 => ?_) (fun h1 => ev_of (Ev.now _) (by rw [if_neg h1])))
  rw [if_pos h1]
  refine ev_ite (fun h2 => ?_) (fun h2 => ev_of (Ev.now _) (by rw [if_neg h2]))
  rw [if_pos h2]
  refine ev_bind0 (within_some _ _ _) (ev_ite (fun h3 => ?_) (fun h3 => ev_of (Ev.now _) (by rw [if_neg (by simpa only [numB] using h3)])))
  rw [if_pos (show numB 1 30 a2 = true from h3)]
  refine ev_bind0 (show impl_railNamed.f f0 f1 f2 a0 = some (impl_railNamed.go f0 a0 0) from rfl) (ev_ite (fun h4 => ev_of (Ev.now _) (by rw [if_pos h4])) (fun h4 => ?_))
  rw [if_neg h4]
  by_cases h5 : (f0.length : Int) ≥ 10
  · rw [if_pos h5]
    exact ev_pos (by omega) (Ev.now _)
  · rw [if_neg h5]
    exact ev_neg (by omega) (ev_pos (by omega) (Ev.now _))
theorem spec_addLine (f0 : List R) (f1 : List ByteArray) (h : f1.length ≤ 60) (f2 : List L) (a : ByteArray) (hs : a.size ≤ maxLen) : Ev (fun k => spec_l19AddLine.f k f0 f1 f2 a) (lineV f1 a) := by
  unfold spec_l19AddLine.f lineV
  refine Ev.bind (spec_name a hs) (ev_ite (fun h1 => ?_) (fun h1 => ev_of (Ev.now _) (by rw [if_neg h1])))
  rw [if_pos h1]
  refine Ev.bind (spec_line f0 f1 f2 (by omega) a) (ev_ite (fun h4 => ev_of (Ev.now _) (by rw [if_pos h4])) (fun h4 => ?_))
  rw [if_neg h4]
  refine ev_ite (fun h5 => ev_of (Ev.now _) (by rw [if_pos h5])) (fun h5 => ?_)
  rw [if_neg h5]
  exact ev_pos (by omega) (Ev.now _)
theorem impl_addLineV (f0 : List R) (f1 : List ByteArray) (h : f1.length ≤ 60) (f2 : List L) (a : ByteArray) (hs : a.size ≤ maxLen) : Ev (fun k => impl_addLine.f k f0 f1 f2 a) (lineV f1 a) := by
  unfold impl_addLine.f lineV
  refine Ev.bind (impl_name a hs) (ev_ite (fun h1 => ?_) (fun h1 => ev_of (Ev.now _) (by rw [if_neg h1])))
  rw [if_pos h1]
  refine Ev.bind (impl_has f1 (by omega) a) (ev_ite (fun h4 => ev_of (Ev.now _) (by rw [if_pos h4])) (fun h4 => ?_))
  rw [if_neg h4]
  by_cases h5 : (f1.length : Int) ≥ 60
  · rw [if_pos h5]
    exact ev_pos (by omega) (Ev.now _)
  · rw [if_neg h5]
    exact ev_neg (by omega) (ev_pos (by omega) (Ev.now _))
section
variable (f0 : List R) (f1 : List ByteArray) (f2 : List L) (h0 : f0.length ≤ 1048576) (h1 : f1.length ≤ 1048576) (h2 : f2.length ≤ 1048576) (a0 a1 : ByteArray) (a2 : Int)
include h0 h1 h2
theorem spec_addBelay : Ev (fun k => spec_l19AddBelay.f k f0 f1 f2 a0 a1 a2) (belayV f0 f1 f2 a0 a1 a2) := by
  unfold spec_l19AddBelay.f belayV
  have hr := goR_range f0 a1 0 (by omega)
  refine Ev.bind (spec_rail f0 f1 f2 h0 a1) (ev_ite (fun h3 => ev_of (Ev.now _) (by rw [if_pos h3])) (fun h3 => ?_))
  rw [if_neg h3]
  refine Ev.bind (spec_line f0 f1 f2 h1 a0) (ev_ite (fun h4 => ?_) (fun h4 => ev_of (Ev.now _) (by rw [if_neg h4])))
  rw [if_pos h4]
  refine ev_pos (by omega) (ev_bind0 (in_some _ _ _) (ev_ite (fun h5 => ?_) (fun h5 => ev_of (Ev.now _) (by rw [if_neg (by simpa only [numB] using h5)]))))
  rw [if_pos (show numB 1 _ a2 = true from h5)]
  refine Ev.bind (spec_of f0 f1 f2 h2 a0) (ev_ite (fun h6 => ev_of (Ev.now _) (by rw [if_pos h6])) (fun h6 => ?_))
  rw [if_neg h6]
  refine Ev.bind (spec_at f0 f1 f2 h2 a1 a2) (ev_ite (fun h7 => ev_of (Ev.now _) (by rw [if_pos h7])) (fun h7 => ?_))
  rw [if_neg h7]
  exact ev_pos (by omega) (Ev.now _)
omit h0 in
theorem impl_addBelayV : Ev (fun k => impl_addBelay.f k f0 f1 f2 a0 a1 a2) (belayV f0 f1 f2 a0 a1 a2) := by
  unfold impl_addBelay.f belayV
  have hr := goR_range f0 a1 0 (by omega)
  refine ev_bind0 (show impl_railNamed.f f0 f1 f2 a1 = some (impl_railNamed.go f0 a1 0) from rfl) (ev_ite (fun h3 => ev_of (Ev.now _) (by rw [if_pos h3])) (fun h3 => ?_))
  rw [if_neg h3]
  refine Ev.bind (impl_has f1 h1 a0) (ev_ite (fun h4 => ?_) (fun h4 => ev_of (Ev.now _) (by rw [if_neg h4])))
  rw [if_pos h4]
  have hp : impl_hasPin.f f0 f1 f2 a1 a2 = some (numB 1 (rd_T64 f0 (impl_railNamed.go f0 a1 0)).f2 a2) := by
    unfold impl_hasPin.f
    rw [show impl_railNamed.f f0 f1 f2 a1 = some (impl_railNamed.go f0 a1 0) from rfl, Option.bind_some, if_pos (by omega), if_pos (by omega), if_pos (by omega), within_some]
    rfl
  refine ev_bind0 hp (ev_ite (fun h5 => ?_) (fun h5 => ev_of (Ev.now _) (by rw [if_neg h5])))
  rw [if_pos h5]
  refine ev_bind0 (show impl_belayOf.f f0 f1 f2 a0 = some (impl_belayOf.go f2 a0 0) from rfl) (ev_ite (fun h6 => ev_of (Ev.now _) (by rw [if_pos h6])) (fun h6 => ?_))
  rw [if_neg h6]
  refine ev_bind0 (show impl_belayAt.f f0 f1 f2 a1 a2 = some (impl_belayAt.go f2 a1 a2 0) from rfl) (ev_ite (fun h7 => ev_of (Ev.now _) (by rw [if_pos h7])) (fun h7 => ?_))
  rw [if_neg h7]
  exact ev_pos (by omega) (Ev.now _)
end
/-! ### a rig is valid if it can be built anew -/
def railsV : List R → List R → Option (List R)
  | [], b => some b
  | x :: xs, b => if (railV b x.f0 x.f1 x.f2).2 = 0 then railsV xs (railV b x.f0 x.f1 x.f2).1 else none
def linesV : List ByteArray → List ByteArray → Option (List ByteArray)
  | [], b => some b
  | x :: xs, b => if (lineV b x).2 = 0 then linesV xs (lineV b x).1 else none
def belaysV (f0 : List R) (f1 : List ByteArray) : List L → List L → Option (List L)
  | [], b => some b
  | x :: xs, b => if (belayV f0 f1 b x.f0 x.f1 x.f2).2 = 0 then belaysV f0 f1 xs (belayV f0 f1 b x.f0 x.f1 x.f2).1 else none
def okRig (l0 : List R) (l1 : List ByteArray) (l2 : List L) : Bool := match railsV l0 [] with
  | none => false
  | some b0 => match linesV l1 [] with
    | none => false
    | some b1 => (belaysV b0 b1 l2 []).isSome
theorem railsV_len : ∀ (xs b : List R), b.length ≤ 10 → ∀ c, railsV xs b = some c → c.length ≤ 10
  | [], b, h, c, e => by rw [railsV] at e; injection e with e; rw [← e]; exact h
  | x :: xs, b, h, c, e => by
    rw [railsV] at e
    split at e
    · exact railsV_len xs _ (railV_len h _ _ _) c e
    · cases e
theorem linesV_len : ∀ (xs b : List ByteArray), b.length ≤ 60 → ∀ c, linesV xs b = some c → c.length ≤ 60
  | [], b, h, c, e => by rw [linesV] at e; injection e with e; rw [← e]; exact h
  | x :: xs, b, h, c, e => by
    rw [linesV] at e
    split at e
    · exact linesV_len xs _ (lineV_len h _) c e
    · cases e
abbrev GoodRig (l0 : List R) (l1 : List ByteArray) (l2 : List L) : Prop := (l0.length ≤ 1048576 ∧ ∀ x ∈ l0, GoodRail x) ∧ (l1.length ≤ 1048576 ∧ ∀ x ∈ l1, x.size ≤ 1048576) ∧ (l2.length ≤ 1048576 ∧ ∀ x ∈ l2, GoodBelay x)
theorem rails_ev : ∀ (xs b : List R), b.length ≤ 10 → (∀ x ∈ xs, GoodRail x) → Ev (fun k => spec_l19Ok.rails k xs b) (railsV xs b) ∧ Ev (fun k => impl_ValidRig.rails k xs b) (railsV xs b)
  | [], b, _, _ => ⟨Ev.now _, Ev.now _⟩
  | x :: xs, b, h, hg => by
    have hs := max_of (hg x List.mem_cons_self).1
    have hi := rails_ev xs (railV b x.f0 x.f1 x.f2).1 (railV_len h _ _ _) (fun y hy => hg y (List.mem_cons_of_mem _ hy))
    rw [railsV]
    simp only [spec_l19Ok.rails, impl_ValidRig.rails]
    refine ⟨Ev.bind (spec_addRail b h [] [] _ _ _ hs) ?_, Ev.bind (impl_addRailV b h [] [] _ _ _ hs) ?_⟩
    · exact ev_ite (fun h1 => by rw [if_pos h1]; exact hi.1) (fun h1 => by rw [if_neg h1]; exact Ev.now _)
    · exact ev_ite (fun h1 => by rw [if_pos h1]; exact hi.2) (fun h1 => by rw [if_neg h1]; exact Ev.now _)
theorem lines_ev (f0 : List R) : ∀ (xs b : List ByteArray), b.length ≤ 60 → (∀ x ∈ xs, x.size ≤ 1048576) → Ev (fun k => spec_l19Ok.lines k f0 xs b) (linesV xs b) ∧ Ev (fun k => impl_ValidRig.lines k f0 xs b) (linesV xs b)
  | [], b, _, _ => ⟨Ev.now _, Ev.now _⟩
  | x :: xs, b, h, hg => by
    have hs := max_of (hg x List.mem_cons_self)
    have hi := lines_ev f0 xs (lineV b x).1 (lineV_len h _) (fun y hy => hg y (List.mem_cons_of_mem _ hy))
    rw [linesV]
    simp only [spec_l19Ok.lines, impl_ValidRig.lines]
    refine ⟨Ev.bind (spec_addLine f0 b h [] _ hs) ?_, Ev.bind (impl_addLineV f0 b h [] _ hs) ?_⟩
    · exact ev_ite (fun h1 => by rw [if_pos h1]; exact hi.1) (fun h1 => by rw [if_neg h1]; exact Ev.now _)
    · exact ev_ite (fun h1 => by rw [if_pos h1]; exact hi.2) (fun h1 => by rw [if_neg h1]; exact Ev.now _)
theorem belays_ev (f0 : List R) (f1 : List ByteArray) (h0 : f0.length ≤ 1048576) (h1 : f1.length ≤ 1048576) : ∀ (xs b : List L), b.length + xs.length ≤ 1048576 → Ev (fun k => spec_l19Ok.belays k f0 f1 xs b) (belaysV f0 f1 xs b) ∧ Ev (fun k => impl_ValidRig.belays k f0 f1 xs b) (belaysV f0 f1 xs b)
  | [], b, _ => ⟨Ev.now _, Ev.now _⟩
  | x :: xs, b, h => by
    rw [List.length_cons] at h
    have hl := belayV_len f0 f1 b x.f0 x.f1 x.f2
    have hi := belays_ev f0 f1 h0 h1 xs (belayV f0 f1 b x.f0 x.f1 x.f2).1 (by omega)
    rw [belaysV]
    simp only [spec_l19Ok.belays, impl_ValidRig.belays]
    refine ⟨Ev.bind (spec_addBelay f0 f1 b h0 h1 (by omega) _ _ _) ?_, Ev.bind (impl_addBelayV f0 f1 b h1 (by omega) _ _ _) ?_⟩
    · exact ev_ite (fun h1 => by rw [if_pos h1]; exact hi.1) (fun h1 => by rw [if_neg h1]; exact Ev.now _)
    · exact ev_ite (fun h1 => by rw [if_pos h1]; exact hi.2) (fun h1 => by rw [if_neg h1]; exact Ev.now _)
theorem ok_ev (l0 : List R) (l1 : List ByteArray) (l2 : List L) (h : GoodRig l0 l1 l2) : Ev (fun k => spec_l19Ok.f k l0 l1 l2) (okRig l0 l1 l2) ∧ Ev (fun k => impl_ValidRig.f k l0 l1 l2) (okRig l0 l1 l2) := by
  obtain ⟨⟨_, g0⟩, ⟨_, g1⟩, ⟨n2, _⟩⟩ := h
  have hr := rails_ev l0 [] (by simp) g0
  unfold spec_l19Ok.f impl_ValidRig.f okRig
  cases e0 : railsV l0 [] with
  | none =>
    rw [e0] at hr
    exact ⟨Ev.bind hr.1 (Ev.now _), Ev.bind hr.2 (Ev.now _)⟩
  | some b0 =>
    rw [e0] at hr
    have c0 := railsV_len l0 [] (by simp) b0 e0
    have hl := lines_ev b0 l1 [] (by simp) g1
    cases e1 : linesV l1 [] with
    | none =>
      rw [e1] at hl
      exact ⟨Ev.bind hr.1 (Ev.bind hl.1 (Ev.now _)), Ev.bind hr.2 (Ev.bind hl.2 (Ev.now _))⟩
    | some b1 =>
      rw [e1] at hl
      have c1 := linesV_len l1 [] (by simp) b1 e1
      have hb := belays_ev b0 b1 (by omega) (by omega) l2 [] (by simpa using n2)
      cases e2 : belaysV b0 b1 l2 [] with
      | none =>
        rw [e2] at hb
        have e3 : false = (match some b0 with | none => false | some b0 => match some b1 with | none => false | some b1 => (belaysV b0 b1 l2 []).isSome) := by show false = (belaysV b0 b1 l2 []).isSome; rw [e2]; rfl
        exact ⟨ev_of (Ev.bind hr.1 (Ev.bind hl.1 (Ev.bind hb.1 (Ev.now _)))) e3, ev_of (Ev.bind hr.2 (Ev.bind hl.2 (Ev.bind hb.2 (Ev.now _)))) e3⟩
      | some b2 =>
        rw [e2] at hb
        have e3 : true = (match some b0 with | none => false | some b0 => match some b1 with | none => false | some b1 => (belaysV b0 b1 l2 []).isSome) := by show true = (belaysV b0 b1 l2 []).isSome; rw [e2]; rfl
        exact ⟨ev_of (Ev.bind hr.1 (Ev.bind hl.1 (Ev.bind hb.1 (Ev.now _)))) e3, ev_of (Ev.bind hr.2 (Ev.bind hl.2 (Ev.bind hb.2 (Ev.now _)))) e3⟩
end Go.Proofs.YtcenjcgfdghfnaaDoorB
end
