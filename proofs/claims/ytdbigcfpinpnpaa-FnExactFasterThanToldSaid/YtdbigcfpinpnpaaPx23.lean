-- Written by gprint.py (own program, over the printer of the kit) out of the translation. Lean checks it.
import Derived.Test.YtdbigcfpinpnpaaPx0
import Derived.Test.YtdbigcfpinpnpaaPx11
import Derived.Test.YtdbigcfpinpnpaaWPk
namespace Go.Proofs.Ytdbigcfpinpnpaa.P
open Go.RowKit Go.Proofs.YtdbigcfpinpnpaaW.PrintWords Go.Proofs.YtdbigcfpinpnpaaW.PrintLast Go.Proofs.YtdbigcfpinpnpaaW.PrintMore Go.Proofs.YtdbigcfpinpnpaaW.Pk
open Bool renaming true → T_, false → F_
open List renaming setIfInBounds_toArray → sT_, set_cons_zero → s0_, set_cons_succ → sS_
attribute [local go_sem] max2_int min2_int max_two min_two max_three min_three max_four min_four   -- for this text's walks alone
set_option linter.unusedVariables false
set_option linter.unusedSimpArgs false

/-! ### spec_l21Found: function 79 -/
def spec_l21Found.l0 : Nat → List (S53) → ByteArray → Int → ByteArray → Int → Int → ByteArray → Int → Int → Option (Int × Int)
 | 0, _, _, _, _, _, _, _, _, _ => none
 | k + 1, x0, x1, x9, x749000, x749001, x749002, x750000, x750001, x750002 => if x9 ≥ 0 then (if 0 ≤ x9 then (if x9 < (x0.length : Int) then (if ((rd_T53 x0 x9).f0).toList = x1.toList then (spec_l21Found.l0 k x0 x1 (wrap64 (x9 - 1)) x749000 x749001 x749002 ((rd_T53 x0 x9).f0) ((rd_T53 x0 x9).f1) ((rd_T53 x0 x9).f2)) else (spec_l21Found.l0 k x0 x1 (wrap64 (x9 - 1)) x749000 x749001 x749002 x750000 x750001 x750002)) else (none)) else (none)) else (some (wrap64 (x749002 - x750002), wrap64 (x749001 - x750001)))
def spec_l21Found.f (k : Nat) (l0 : List (S53)) (a1 : ByteArray) : Option (Int × Int) := (spec_l21Last.f k l0 a1 20000).bind fun bt744 => (if bt744.2.2.2 = true then (spec_l21Found.l0 k l0 a1 (wrap64 ((l0.length : Int) - 1)) bt744.1 bt744.2.1 bt744.2.2.1 bt744.1 bt744.2.1 bt744.2.2.1) else (some (0, 0)))
theorem spec_l21Found.mono_l : ∀ k, (∀ y0 y1 y2 y3 y4 y5 y6 y7 y8, LeO (spec_l21Found.l0 k y0 y1 y2 y3 y4 y5 y6 y7 y8) (spec_l21Found.l0 (k + 1) y0 y1 y2 y3 y4 y5 y6 y7 y8))
 | 0 => fun _ _ _ _ _ _ _ _ _ r h => by simp [spec_l21Found.l0] at h
 | k + 1 => by
  have ih0 := spec_l21Found.mono_l k
  ·intro y0 y1 y2 y3 y4 y5 y6 y7 y8
   unfold spec_l21Found.l0
   repeat' first
   | (with_reducible exact ih0 _ _ _ _ _ _ _ _ _)
   | (with_reducible exact spec_l21Last.mono _ _ _ _)
   | (with_reducible exact LeO.refl _)
   | (with_reducible exact LeO.none _)
   | (with_reducible refine LeO.ite ?_ ?_)
   | (with_reducible refine LeO.bind ?_ (fun _ => ?_))
   | exact ih0 _ _ _ _ _ _ _ _ _
   | exact spec_l21Last.mono _ _ _ _
   | exact LeO.none _
   | refine LeO.ite ?_ ?_
   | refine LeO.bind ?_ (fun _ => ?_)
theorem spec_l21Found.mono : ∀ a0 a1 k, LeO (spec_l21Found.f k a0 a1) (spec_l21Found.f (k + 1) a0 a1) := by
 intro a0 a1 k
 have ih0 := spec_l21Found.mono_l k
 unfold spec_l21Found.f
 repeat' first
   | (with_reducible exact ih0 _ _ _ _ _ _ _ _ _)
   | (with_reducible exact spec_l21Last.mono _ _ _ _)
   | (with_reducible exact LeO.refl _)
   | (with_reducible exact LeO.none _)
   | (with_reducible refine LeO.ite ?_ ?_)
   | (with_reducible refine LeO.bind ?_ (fun _ => ?_))
   | exact ih0 _ _ _ _ _ _ _ _ _
   | exact spec_l21Last.mono _ _ _ _
   | exact LeO.none _
   | refine LeO.ite ?_ ?_
   | refine LeO.bind ?_ (fun _ => ?_)
set_option maxHeartbeats 8000000 in
set_option maxRecDepth 100000 in
theorem spec_l21Found.calls (k : Nat) (A0 : Option Addr) (c0 : Nat) (l0 : List (S53)) (a1 : ByteArray) (r1 : Int) (r2 : Int) (w : World) (hr0 : Kd.C k53 w A0 l0.length l0) (hc0 : l0.length ≤ c0) (h : spec_l21Found.f k l0 a1 = some (r1, r2)) :
  Calls Try.prog 79 #[.slice A0 l0.length c0, .string a1] w fun e w' => e = .returned (.tuple #[.int .i64 r1, .int .i64 r2]) ∧ Below w.heap.size w w' := by
 have hu53 := Try.underlying53
 have HR0 := Aside0.mk hr0
 have HC0 := Aside0.mk hc0
 clear hr0 hc0
 have HB := Aside0.mk (Below.refl w.heap.size w)
 have H : ((spec_l21Last.f k l0 a1 20000).bind fun bt744 => (if bt744.2.2.2 = true then (spec_l21Found.l0 k l0 a1 (wrap64 ((l0.length : Int) - 1)) bt744.1 bt744.2.1 bt744.2.2.1 bt744.1 bt744.2.1 bt744.2.2.1) else (some (0, 0)))) = some (r1, r2) := h
 clear h
 replace H := Option.bind_eq_some_iff.mp H
 obtain ⟨⟨t744, t745, t746, t747⟩, A30, H⟩ := H
 replace H : (if t747 = true then (spec_l21Found.l0 k l0 a1 (wrap64 ((l0.length : Int) - 1)) t744 t745 t746 t744 t745 t746) else (some (0, 0))) = some (r1, r2) := H
 have A3 := Aside0.mk A30
 clear A30
 by_cases c4 : t747 = true
 ·subst c4
  have H1 : (spec_l21Found.l0 k l0 a1 (wrap64 ((l0.length : Int) - 1)) t744 t745 t746 t744 t745 t746) = some (r1, r2) := by rw [if_pos rfl] at H; exact H
  clear H
  have H := H1
  clear H1
  have H' := Aside0.mk H
  clear H
  go_enter Try.func79, Try.ntmps79
  go_wp2_with (first | (go_at_call 77; (with_reducible refine (spec_l21Last.calls k _ _ l0 a1 20000 t744 t745 t746 true _ ?side1 ?side2 A3.out).mono ?_); (case side1 => exact kc_ HR0.out); (case side2 => exact HC0.out); rintro e w5 ⟨rfl, hb⟩; have n0_ := Aside0.mk (below_step hb_ hb); clear HB; have HB := n0_; clear n0_; (try clear hb); (try clear hb2); (try clear hk); (try clear hi)) | ((with_reducible refine gate_dst (N := 6) rfl ?_); refine box_event ?hg (N := 6) ?hd (cs := #[.string (⟨#[]⟩ : ByteArray), .int .i64 0, .int .i64 0]) (t := 53) ?hr ?_; (case hd => rfl); (case hg => rfl); (case hr => first | (go_simp; done) | (go_simp; rfl)); intro gb748 hg w6 hbox hb; have n0_ := Aside0.mk (below_step hb_ hb); have n1_ := Aside0.mk (hbox); have n2_ := Aside0.mk ((by rw [hg]; exact (below_size hb_) : w.heap.size ≤ gb748)); have n3_ := Aside0.mk ((by rw [hg]; exact (below_size hb_) : w.heap.size ≤ gb748)); clear HB; have HB := n0_; have BK748 := n1_; have GW748 := n2_; have GE748 := n3_; clear n0_ n1_ n2_ n3_; clear hb hbox hg; have hcz7_0 : w6.cell? ⟨gb748, 0, none⟩ = some (.string (⟨#[]⟩ : ByteArray)) := (blk_cell BK748.out 0).trans rfl; have hcz7_1 : w6.cell? ⟨gb748, 1, none⟩ = some (.int .i64 0) := (blk_cell BK748.out 1).trans rfl; have hcz7_2 : w6.cell? ⟨gb748, 2, none⟩ = some (.int .i64 0) := (blk_cell BK748.out 2).trans rfl; have hfz7_0 := blk_frozen BK748.out 0; have hfz7_1 := blk_frozen BK748.out 1; have hfz7_2 := blk_frozen BK748.out 2) | ((with_reducible refine gate_dst (N := 8) rfl ?_); refine box_event ?hg (N := 8) ?hd (cs := #[.string (⟨#[]⟩ : ByteArray), .int .i64 0, .int .i64 0]) (t := 53) ?hr ?_; (case hd => rfl); (case hg => rfl); (case hr => first | (go_simp; done) | (go_simp; rfl)); intro gb749 hg w8 hbox hb; have n0_ := Aside0.mk (blk_below (g := gb748) (o := .cells #[.string t744, .int .i64 t745, .int .i64 t746] 53 (0, 0)) (by (with_reducible repeat (first | refine blk_drewN ?_ _ | refine blk_drew ?_ | refine blk_alloc ?_ _)); refine blk_put (cs := #[.string t744, .int .i64 t745, .int .i64 0]) ?_ 2 _ rfl; (with_reducible repeat (first | refine blk_drewN ?_ _ | refine blk_drew ?_ | refine blk_alloc ?_ _)); refine blk_put (cs := #[.string t744, .int .i64 0, .int .i64 0]) ?_ 1 _ rfl; (with_reducible repeat (first | refine blk_drewN ?_ _ | refine blk_drew ?_ | refine blk_alloc ?_ _)); refine blk_put (cs := #[.string (⟨#[]⟩ : ByteArray), .int .i64 0, .int .i64 0]) ?_ 0 _ rfl; (with_reducible repeat (first | refine blk_drewN ?_ _ | refine blk_drew ?_ | refine blk_alloc ?_ _)); exact BK748.out) hb); have n1_ := Aside0.mk (below_step (hg_ GE748) hb); have n2_ := Aside0.mk (hbox); have n3_ := Aside0.mk ((by rw [hg]; exact (below_size (hg_ GE748)) : w.heap.size ≤ gb749)); have n4_ := Aside0.mk ((by rw [hg]; exact (below_size (hg_ GE748)) : w.heap.size ≤ gb749)); have n5_ := Aside0.mk ((by rw [hg]; exact Nat.ne_of_lt (blk_lt (g := gb748) (o := .cells #[.string t744, .int .i64 t745, .int .i64 t746] 53 (0, 0)) (by (with_reducible repeat (first | refine blk_drewN ?_ _ | refine blk_drew ?_ | refine blk_alloc ?_ _)); refine blk_put (cs := #[.string t744, .int .i64 t745, .int .i64 0]) ?_ 2 _ rfl; (with_reducible repeat (first | refine blk_drewN ?_ _ | refine blk_drew ?_ | refine blk_alloc ?_ _)); refine blk_put (cs := #[.string t744, .int .i64 0, .int .i64 0]) ?_ 1 _ rfl; (with_reducible repeat (first | refine blk_drewN ?_ _ | refine blk_drew ?_ | refine blk_alloc ?_ _)); refine blk_put (cs := #[.string (⟨#[]⟩ : ByteArray), .int .i64 0, .int .i64 0]) ?_ 0 _ rfl; (with_reducible repeat (first | refine blk_drewN ?_ _ | refine blk_drew ?_ | refine blk_alloc ?_ _)); exact BK748.out)) : gb748 ≠ gb749)); have n6_ := Aside0.mk ((by rw [hg]; exact Nat.ne_of_gt (blk_lt (g := gb748) (o := .cells #[.string t744, .int .i64 t745, .int .i64 t746] 53 (0, 0)) (by (with_reducible repeat (first | refine blk_drewN ?_ _ | refine blk_drew ?_ | refine blk_alloc ?_ _)); refine blk_put (cs := #[.string t744, .int .i64 t745, .int .i64 0]) ?_ 2 _ rfl; (with_reducible repeat (first | refine blk_drewN ?_ _ | refine blk_drew ?_ | refine blk_alloc ?_ _)); refine blk_put (cs := #[.string t744, .int .i64 0, .int .i64 0]) ?_ 1 _ rfl; (with_reducible repeat (first | refine blk_drewN ?_ _ | refine blk_drew ?_ | refine blk_alloc ?_ _)); refine blk_put (cs := #[.string (⟨#[]⟩ : ByteArray), .int .i64 0, .int .i64 0]) ?_ 0 _ rfl; (with_reducible repeat (first | refine blk_drewN ?_ _ | refine blk_drew ?_ | refine blk_alloc ?_ _)); exact BK748.out)) : gb749 ≠ gb748)); clear BK748; clear HB; have BK748 := n0_; have HB := n1_; have BK749 := n2_; have GW749 := n3_; have GE749 := n4_; have NB748_749 := n5_; have NB749_748 := n6_; clear n0_ n1_ n2_ n3_ n4_ n5_ n6_; clear hb hbox hg; have hnb9 := NB749_748.out; have hnc9 := NB748_749.out; have hcz10_0 : w8.cell? ⟨gb749, 0, none⟩ = some (.string (⟨#[]⟩ : ByteArray)) := (blk_cell BK749.out 0).trans rfl; have hcz10_1 : w8.cell? ⟨gb749, 1, none⟩ = some (.int .i64 0) := (blk_cell BK749.out 1).trans rfl; have hcz10_2 : w8.cell? ⟨gb749, 2, none⟩ = some (.int .i64 0) := (blk_cell BK749.out 2).trans rfl; have hfz10_0 := blk_frozen BK749.out 0; have hfz10_1 := blk_frozen BK749.out 1; have hfz10_2 := blk_frozen BK749.out 2))
  repeat (go_quiet (first | (go_at_call 77; (with_reducible refine (spec_l21Last.calls k _ _ l0 a1 20000 t744 t745 t746 true _ ?side1 ?side2 A3.out).mono ?_); (case side1 => exact kc_ HR0.out); (case side2 => exact HC0.out); rintro e w5 ⟨rfl, hb⟩; have n0_ := Aside0.mk (below_step hb_ hb); clear HB; have HB := n0_; clear n0_; (try clear hb); (try clear hb2); (try clear hk); (try clear hi)) | ((with_reducible refine gate_dst (N := 6) rfl ?_); refine box_event ?hg (N := 6) ?hd (cs := #[.string (⟨#[]⟩ : ByteArray), .int .i64 0, .int .i64 0]) (t := 53) ?hr ?_; (case hd => rfl); (case hg => rfl); (case hr => first | (go_simp; done) | (go_simp; rfl)); intro gb748 hg w6 hbox hb; have n0_ := Aside0.mk (below_step hb_ hb); have n1_ := Aside0.mk (hbox); have n2_ := Aside0.mk ((by rw [hg]; exact (below_size hb_) : w.heap.size ≤ gb748)); have n3_ := Aside0.mk ((by rw [hg]; exact (below_size hb_) : w.heap.size ≤ gb748)); clear HB; have HB := n0_; have BK748 := n1_; have GW748 := n2_; have GE748 := n3_; clear n0_ n1_ n2_ n3_; clear hb hbox hg; have hcz7_0 : w6.cell? ⟨gb748, 0, none⟩ = some (.string (⟨#[]⟩ : ByteArray)) := (blk_cell BK748.out 0).trans rfl; have hcz7_1 : w6.cell? ⟨gb748, 1, none⟩ = some (.int .i64 0) := (blk_cell BK748.out 1).trans rfl; have hcz7_2 : w6.cell? ⟨gb748, 2, none⟩ = some (.int .i64 0) := (blk_cell BK748.out 2).trans rfl; have hfz7_0 := blk_frozen BK748.out 0; have hfz7_1 := blk_frozen BK748.out 1; have hfz7_2 := blk_frozen BK748.out 2) | ((with_reducible refine gate_dst (N := 8) rfl ?_); refine box_event ?hg (N := 8) ?hd (cs := #[.string (⟨#[]⟩ : ByteArray), .int .i64 0, .int .i64 0]) (t := 53) ?hr ?_; (case hd => rfl); (case hg => rfl); (case hr => first | (go_simp; done) | (go_simp; rfl)); intro gb749 hg w8 hbox hb; have n0_ := Aside0.mk (blk_below (g := gb748) (o := .cells #[.string t744, .int .i64 t745, .int .i64 t746] 53 (0, 0)) (by (with_reducible repeat (first | refine blk_drewN ?_ _ | refine blk_drew ?_ | refine blk_alloc ?_ _)); refine blk_put (cs := #[.string t744, .int .i64 t745, .int .i64 0]) ?_ 2 _ rfl; (with_reducible repeat (first | refine blk_drewN ?_ _ | refine blk_drew ?_ | refine blk_alloc ?_ _)); refine blk_put (cs := #[.string t744, .int .i64 0, .int .i64 0]) ?_ 1 _ rfl; (with_reducible repeat (first | refine blk_drewN ?_ _ | refine blk_drew ?_ | refine blk_alloc ?_ _)); refine blk_put (cs := #[.string (⟨#[]⟩ : ByteArray), .int .i64 0, .int .i64 0]) ?_ 0 _ rfl; (with_reducible repeat (first | refine blk_drewN ?_ _ | refine blk_drew ?_ | refine blk_alloc ?_ _)); exact BK748.out) hb); have n1_ := Aside0.mk (below_step (hg_ GE748) hb); have n2_ := Aside0.mk (hbox); have n3_ := Aside0.mk ((by rw [hg]; exact (below_size (hg_ GE748)) : w.heap.size ≤ gb749)); have n4_ := Aside0.mk ((by rw [hg]; exact (below_size (hg_ GE748)) : w.heap.size ≤ gb749)); have n5_ := Aside0.mk ((by rw [hg]; exact Nat.ne_of_lt (blk_lt (g := gb748) (o := .cells #[.string t744, .int .i64 t745, .int .i64 t746] 53 (0, 0)) (by (with_reducible repeat (first | refine blk_drewN ?_ _ | refine blk_drew ?_ | refine blk_alloc ?_ _)); refine blk_put (cs := #[.string t744, .int .i64 t745, .int .i64 0]) ?_ 2 _ rfl; (with_reducible repeat (first | refine blk_drewN ?_ _ | refine blk_drew ?_ | refine blk_alloc ?_ _)); refine blk_put (cs := #[.string t744, .int .i64 0, .int .i64 0]) ?_ 1 _ rfl; (with_reducible repeat (first | refine blk_drewN ?_ _ | refine blk_drew ?_ | refine blk_alloc ?_ _)); refine blk_put (cs := #[.string (⟨#[]⟩ : ByteArray), .int .i64 0, .int .i64 0]) ?_ 0 _ rfl; (with_reducible repeat (first | refine blk_drewN ?_ _ | refine blk_drew ?_ | refine blk_alloc ?_ _)); exact BK748.out)) : gb748 ≠ gb749)); have n6_ := Aside0.mk ((by rw [hg]; exact Nat.ne_of_gt (blk_lt (g := gb748) (o := .cells #[.string t744, .int .i64 t745, .int .i64 t746] 53 (0, 0)) (by (with_reducible repeat (first | refine blk_drewN ?_ _ | refine blk_drew ?_ | refine blk_alloc ?_ _)); refine blk_put (cs := #[.string t744, .int .i64 t745, .int .i64 0]) ?_ 2 _ rfl; (with_reducible repeat (first | refine blk_drewN ?_ _ | refine blk_drew ?_ | refine blk_alloc ?_ _)); refine blk_put (cs := #[.string t744, .int .i64 0, .int .i64 0]) ?_ 1 _ rfl; (with_reducible repeat (first | refine blk_drewN ?_ _ | refine blk_drew ?_ | refine blk_alloc ?_ _)); refine blk_put (cs := #[.string (⟨#[]⟩ : ByteArray), .int .i64 0, .int .i64 0]) ?_ 0 _ rfl; (with_reducible repeat (first | refine blk_drewN ?_ _ | refine blk_drew ?_ | refine blk_alloc ?_ _)); exact BK748.out)) : gb749 ≠ gb748)); clear BK748; clear HB; have BK748 := n0_; have HB := n1_; have BK749 := n2_; have GW749 := n3_; have GE749 := n4_; have NB748_749 := n5_; have NB749_748 := n6_; clear n0_ n1_ n2_ n3_ n4_ n5_ n6_; clear hb hbox hg; have hnb9 := NB749_748.out; have hnc9 := NB748_749.out; have hcz10_0 : w8.cell? ⟨gb749, 0, none⟩ = some (.string (⟨#[]⟩ : ByteArray)) := (blk_cell BK749.out 0).trans rfl; have hcz10_1 : w8.cell? ⟨gb749, 1, none⟩ = some (.int .i64 0) := (blk_cell BK749.out 1).trans rfl; have hcz10_2 : w8.cell? ⟨gb749, 2, none⟩ = some (.int .i64 0) := (blk_cell BK749.out 2).trans rfl; have hfz10_0 := blk_frozen BK749.out 0; have hfz10_1 := blk_frozen BK749.out 1; have hfz10_2 := blk_frozen BK749.out 2)); try go_wp2_with (first | (go_at_call 77; (with_reducible refine (spec_l21Last.calls k _ _ l0 a1 20000 t744 t745 t746 true _ ?side1 ?side2 A3.out).mono ?_); (case side1 => exact kc_ HR0.out); (case side2 => exact HC0.out); rintro e w5 ⟨rfl, hb⟩; have n0_ := Aside0.mk (below_step hb_ hb); clear HB; have HB := n0_; clear n0_; (try clear hb); (try clear hb2); (try clear hk); (try clear hi)) | ((with_reducible refine gate_dst (N := 6) rfl ?_); refine box_event ?hg (N := 6) ?hd (cs := #[.string (⟨#[]⟩ : ByteArray), .int .i64 0, .int .i64 0]) (t := 53) ?hr ?_; (case hd => rfl); (case hg => rfl); (case hr => first | (go_simp; done) | (go_simp; rfl)); intro gb748 hg w6 hbox hb; have n0_ := Aside0.mk (below_step hb_ hb); have n1_ := Aside0.mk (hbox); have n2_ := Aside0.mk ((by rw [hg]; exact (below_size hb_) : w.heap.size ≤ gb748)); have n3_ := Aside0.mk ((by rw [hg]; exact (below_size hb_) : w.heap.size ≤ gb748)); clear HB; have HB := n0_; have BK748 := n1_; have GW748 := n2_; have GE748 := n3_; clear n0_ n1_ n2_ n3_; clear hb hbox hg; have hcz7_0 : w6.cell? ⟨gb748, 0, none⟩ = some (.string (⟨#[]⟩ : ByteArray)) := (blk_cell BK748.out 0).trans rfl; have hcz7_1 : w6.cell? ⟨gb748, 1, none⟩ = some (.int .i64 0) := (blk_cell BK748.out 1).trans rfl; have hcz7_2 : w6.cell? ⟨gb748, 2, none⟩ = some (.int .i64 0) := (blk_cell BK748.out 2).trans rfl; have hfz7_0 := blk_frozen BK748.out 0; have hfz7_1 := blk_frozen BK748.out 1; have hfz7_2 := blk_frozen BK748.out 2) | ((with_reducible refine gate_dst (N := 8) rfl ?_); refine box_event ?hg (N := 8) ?hd (cs := #[.string (⟨#[]⟩ : ByteArray), .int .i64 0, .int .i64 0]) (t := 53) ?hr ?_; (case hd => rfl); (case hg => rfl); (case hr => first | (go_simp; done) | (go_simp; rfl)); intro gb749 hg w8 hbox hb; have n0_ := Aside0.mk (blk_below (g := gb748) (o := .cells #[.string t744, .int .i64 t745, .int .i64 t746] 53 (0, 0)) (by (with_reducible repeat (first | refine blk_drewN ?_ _ | refine blk_drew ?_ | refine blk_alloc ?_ _)); refine blk_put (cs := #[.string t744, .int .i64 t745, .int .i64 0]) ?_ 2 _ rfl; (with_reducible repeat (first | refine blk_drewN ?_ _ | refine blk_drew ?_ | refine blk_alloc ?_ _)); refine blk_put (cs := #[.string t744, .int .i64 0, .int .i64 0]) ?_ 1 _ rfl; (with_reducible repeat (first | refine blk_drewN ?_ _ | refine blk_drew ?_ | refine blk_alloc ?_ _)); refine blk_put (cs := #[.string (⟨#[]⟩ : ByteArray), .int .i64 0, .int .i64 0]) ?_ 0 _ rfl; (with_reducible repeat (first | refine blk_drewN ?_ _ | refine blk_drew ?_ | refine blk_alloc ?_ _)); exact BK748.out) hb); have n1_ := Aside0.mk (below_step (hg_ GE748) hb); have n2_ := Aside0.mk (hbox); have n3_ := Aside0.mk ((by rw [hg]; exact (below_size (hg_ GE748)) : w.heap.size ≤ gb749)); have n4_ := Aside0.mk ((by rw [hg]; exact (below_size (hg_ GE748)) : w.heap.size ≤ gb749)); have n5_ := Aside0.mk ((by rw [hg]; exact Nat.ne_of_lt (blk_lt (g := gb748) (o := .cells #[.string t744, .int .i64 t745, .int .i64 t746] 53 (0, 0)) (by (with_reducible repeat (first | refine blk_drewN ?_ _ | refine blk_drew ?_ | refine blk_alloc ?_ _)); refine blk_put (cs := #[.string t744, .int .i64 t745, .int .i64 0]) ?_ 2 _ rfl; (with_reducible repeat (first | refine blk_drewN ?_ _ | refine blk_drew ?_ | refine blk_alloc ?_ _)); refine blk_put (cs := #[.string t744, .int .i64 0, .int .i64 0]) ?_ 1 _ rfl; (with_reducible repeat (first | refine blk_drewN ?_ _ | refine blk_drew ?_ | refine blk_alloc ?_ _)); refine blk_put (cs := #[.string (⟨#[]⟩ : ByteArray), .int .i64 0, .int .i64 0]) ?_ 0 _ rfl; (with_reducible repeat (first | refine blk_drewN ?_ _ | refine blk_drew ?_ | refine blk_alloc ?_ _)); exact BK748.out)) : gb748 ≠ gb749)); have n6_ := Aside0.mk ((by rw [hg]; exact Nat.ne_of_gt (blk_lt (g := gb748) (o := .cells #[.string t744, .int .i64 t745, .int .i64 t746] 53 (0, 0)) (by (with_reducible repeat (first | refine blk_drewN ?_ _ | refine blk_drew ?_ | refine blk_alloc ?_ _)); refine blk_put (cs := #[.string t744, .int .i64 t745, .int .i64 0]) ?_ 2 _ rfl; (with_reducible repeat (first | refine blk_drewN ?_ _ | refine blk_drew ?_ | refine blk_alloc ?_ _)); refine blk_put (cs := #[.string t744, .int .i64 0, .int .i64 0]) ?_ 1 _ rfl; (with_reducible repeat (first | refine blk_drewN ?_ _ | refine blk_drew ?_ | refine blk_alloc ?_ _)); refine blk_put (cs := #[.string (⟨#[]⟩ : ByteArray), .int .i64 0, .int .i64 0]) ?_ 0 _ rfl; (with_reducible repeat (first | refine blk_drewN ?_ _ | refine blk_drew ?_ | refine blk_alloc ?_ _)); exact BK748.out)) : gb749 ≠ gb748)); clear BK748; clear HB; have BK748 := n0_; have HB := n1_; have BK749 := n2_; have GW749 := n3_; have GE749 := n4_; have NB748_749 := n5_; have NB749_748 := n6_; clear n0_ n1_ n2_ n3_ n4_ n5_ n6_; clear hb hbox hg; have hnb9 := NB749_748.out; have hnc9 := NB748_749.out; have hcz10_0 : w8.cell? ⟨gb749, 0, none⟩ = some (.string (⟨#[]⟩ : ByteArray)) := (blk_cell BK749.out 0).trans rfl; have hcz10_1 : w8.cell? ⟨gb749, 1, none⟩ = some (.int .i64 0) := (blk_cell BK749.out 1).trans rfl; have hcz10_2 : w8.cell? ⟨gb749, 2, none⟩ = some (.int .i64 0) := (blk_cell BK749.out 2).trans rfl; have hfz10_0 := blk_frozen BK749.out 0; have hfz10_1 := blk_frozen BK749.out 1; have hfz10_2 := blk_frozen BK749.out 2)))
  go_loopg [9] k (fun kq v9 w' => ∃ (x9_1 : Int) (x750000_1 : ByteArray) (x750001_1 : Int) (x750002_1 : Int), v9 = .int .i64 x9_1 ∧ Aside0 (spec_l21Found.l0 kq l0 a1 x9_1 t744 t745 t746 x750000_1 x750001_1 x750002_1 = some (r1, r2)) ∧ Aside0 (kq ≤ k) ∧ Aside0 (w'.heap[gb748]? = some (.cells #[.string t744, .int .i64 t745, .int .i64 t746] 53 (0, 0))) ∧ Aside0 (w'.heap[gb749]? = some (.cells #[.string x750000_1, .int .i64 x750001_1, .int .i64 x750002_1] 53 (0, 0))) ∧ Aside0 (Below w.heap.size w w'))
  case atStart => exact ⟨(wrap64 ((l0.length : Int) - 1)), (t744), (t745), (t746), (by first | rfl | (simp; done) | (simp [*]; done)), H', ⟨Nat.le_refl _⟩, ⟨by (with_reducible repeat (first | refine blk_drewN ?_ _ | refine blk_drew ?_ | refine blk_alloc ?_ _)); refine blk_far ?_ NB748_749.out _; (with_reducible repeat (first | refine blk_drewN ?_ _ | refine blk_drew ?_ | refine blk_alloc ?_ _)); refine blk_far ?_ NB748_749.out _; (with_reducible repeat (first | refine blk_drewN ?_ _ | refine blk_drew ?_ | refine blk_alloc ?_ _)); refine blk_far ?_ NB748_749.out _; (with_reducible repeat (first | refine blk_drewN ?_ _ | refine blk_drew ?_ | refine blk_alloc ?_ _)); exact BK748.out⟩, ⟨by (with_reducible repeat (first | refine blk_drewN ?_ _ | refine blk_drew ?_ | refine blk_alloc ?_ _)); refine blk_put (cs := #[.string t744, .int .i64 t745, .int .i64 0]) ?_ 2 _ rfl; (with_reducible repeat (first | refine blk_drewN ?_ _ | refine blk_drew ?_ | refine blk_alloc ?_ _)); refine blk_put (cs := #[.string t744, .int .i64 0, .int .i64 0]) ?_ 1 _ rfl; (with_reducible repeat (first | refine blk_drewN ?_ _ | refine blk_drew ?_ | refine blk_alloc ?_ _)); refine blk_put (cs := #[.string (⟨#[]⟩ : ByteArray), .int .i64 0, .int .i64 0]) ?_ 0 _ rfl; (with_reducible repeat (first | refine blk_drewN ?_ _ | refine blk_drew ?_ | refine blk_alloc ?_ _)); exact BK749.out⟩, ⟨(hg2_ GE748 GE749)⟩⟩
  case round =>
   clear H'
   try clear p2
   try clear c4
   try clear p6
   try clear c7
   try clear c9
   try clear hcz10_0
   try clear hcz10_1
   try clear hcz10_2
   try clear hcz7_0
   try clear hcz7_1
   try clear hcz7_2
   try clear hfz10_0
   try clear hfz10_1
   try clear hfz10_2
   try clear hfz7_0
   try clear hfz7_1
   try clear hfz7_2
   obtain ⟨x9_1, x750000_1, x750001_1, x750002_1, rfl, HA, HK1, BK748, BK749, HB⟩ := hrel
   cases gk with
   | zero => exact absurd HA.out (by simp [spec_l21Found.l0])
   | succ k1 =>
    have H := HA.out
    clear HA
    simp only [spec_l21Found.l0] at H
    by_cases c11 : x9_1 ≥ 0
    ·rw [if_pos c11] at H
     have c11b0 : decide (0 ≤ x9_1) = true := decide_eq_true c11
     clear c11
     by_cases c12 : 0 ≤ x9_1
     ·rw [if_pos c12] at H
      have c12b0 : decide (0 ≤ x9_1) = true := decide_eq_true c12
      clear c12
      by_cases c13 : x9_1 < (l0.length : Int)
      ·rw [if_pos c13] at H
       have c13b0 : decide (x9_1 < (l0.length : Int)) = true := decide_eq_true c13
       clear c13
       by_cases c14 : ((rd_T53 l0 x9_1).f0).toList = a1.toList
       ·rw [if_pos c14] at H
        have c14b0 : (((rd_T53 l0 x9_1).f0).toList == a1.toList) = true := beq_iff_eq.mpr c14
        have c14b1 : (((rd_T53 l0 x9_1).f0).toList != a1.toList) = false := bne_eq_false_iff_eq.mpr c14
        clear c14
        have H' := Aside0.mk H
        clear H
        have p750 : 0 ≤ (x9_1 : Int) := od_
        have q750 : x9_1 < (l0.length : Int) := od_
        obtain ⟨ad750, e750, hx750_0, hx750_1, hx750_2⟩ := at_T53 HR0.out x9_1 p750 q750
        cases e750
        replace hx750_0 := cq_ HB hx750_0
        replace hx750_1 := cq_ HB hx750_1
        replace hx750_2 := cq_ HB hx750_2
        replace p750 := eq_true p750
        replace q750 := eq_true q750
        have p751 : 0 ≤ (x9_1 : Int) := od_
        have q751 : x9_1 < (l0.length : Int) := od_
        obtain ⟨ad751, e751, hx751_0, hx751_1, hx751_2⟩ := at_T53 HR0.out x9_1 p751 q751
        obtain rfl : ad750 = ad751 := (by injection e751)
        replace hx751_0 := cq_ HB hx751_0
        replace hx751_1 := cq_ HB hx751_1
        replace hx751_2 := cq_ HB hx751_2
        replace p751 := eq_true p751
        replace q751 := eq_true q751
        have hnb15 := NB749_748.out
        have hnc15 := NB748_749.out
        have hcz16_0 : wr.cell? ⟨gb749, 0, none⟩ = some (.string x750000_1) := (blk_cell BK749.out 0).trans rfl
        have hcz16_1 : wr.cell? ⟨gb749, 1, none⟩ = some (.int .i64 x750001_1) := (blk_cell BK749.out 1).trans rfl
        have hcz16_2 : wr.cell? ⟨gb749, 2, none⟩ = some (.int .i64 x750002_1) := (blk_cell BK749.out 2).trans rfl
        have hfz16_0 := blk_frozen BK749.out 0
        have hfz16_1 := blk_frozen BK749.out 1
        have hfz16_2 := blk_frozen BK749.out 2
        go_wp2
        repeat (go_quiet (fail); try go_wp2)
        go_roundg k1
        case measure => have := HK1.out; omega
        case rel => exact ⟨(wrap64 (x9_1 - 1)), ((rd_T53 l0 x9_1).f0), ((rd_T53 l0 x9_1).f1), ((rd_T53 l0 x9_1).f2), (by first | rfl | (simp; done) | (simp [*]; done)), H', ⟨by have := HK1.out; omega⟩, ⟨by (with_reducible repeat (first | refine blk_drewN ?_ _ | refine blk_drew ?_ | refine blk_alloc ?_ _)); refine blk_far ?_ NB748_749.out _; (with_reducible repeat (first | refine blk_drewN ?_ _ | refine blk_drew ?_ | refine blk_alloc ?_ _)); refine blk_far ?_ NB748_749.out _; (with_reducible repeat (first | refine blk_drewN ?_ _ | refine blk_drew ?_ | refine blk_alloc ?_ _)); refine blk_far ?_ NB748_749.out _; (with_reducible repeat (first | refine blk_drewN ?_ _ | refine blk_drew ?_ | refine blk_alloc ?_ _)); exact BK748.out⟩, ⟨by (with_reducible repeat (first | refine blk_drewN ?_ _ | refine blk_drew ?_ | refine blk_alloc ?_ _)); refine blk_put (cs := #[.string ((rd_T53 l0 x9_1).f0), .int .i64 ((rd_T53 l0 x9_1).f1), .int .i64 x750002_1]) ?_ 2 _ rfl; (with_reducible repeat (first | refine blk_drewN ?_ _ | refine blk_drew ?_ | refine blk_alloc ?_ _)); refine blk_put (cs := #[.string ((rd_T53 l0 x9_1).f0), .int .i64 x750001_1, .int .i64 x750002_1]) ?_ 1 _ rfl; (with_reducible repeat (first | refine blk_drewN ?_ _ | refine blk_drew ?_ | refine blk_alloc ?_ _)); refine blk_put (cs := #[.string x750000_1, .int .i64 x750001_1, .int .i64 x750002_1]) ?_ 0 _ rfl; (with_reducible repeat (first | refine blk_drewN ?_ _ | refine blk_drew ?_ | refine blk_alloc ?_ _)); exact BK749.out⟩, ⟨(hg2_ GE748 GE749)⟩⟩
       ·rw [if_neg c14] at H
        have c14b0 : (((rd_T53 l0 x9_1).f0).toList == a1.toList) = false := beq_eq_false_iff_ne.mpr c14
        have c14b1 : (((rd_T53 l0 x9_1).f0).toList != a1.toList) = true := bne_iff_ne.mpr c14
        have H' := Aside0.mk H
        clear H
        have p750 : 0 ≤ (x9_1 : Int) := od_
        have q750 : x9_1 < (l0.length : Int) := od_
        obtain ⟨ad750, e750, hx750_0, hx750_1, hx750_2⟩ := at_T53 HR0.out x9_1 p750 q750
        cases e750
        replace hx750_0 := cq_ HB hx750_0
        replace hx750_1 := cq_ HB hx750_1
        replace hx750_2 := cq_ HB hx750_2
        replace p750 := eq_true p750
        replace q750 := eq_true q750
        go_wp2
        repeat (go_quiet (fail); try go_wp2)
        go_roundg k1
        case measure => have := HK1.out; omega
        case rel => exact ⟨(wrap64 (x9_1 - 1)), (x750000_1), (x750001_1), (x750002_1), (by first | rfl | (simp; done) | (simp [*]; done)), H', ⟨by have := HK1.out; omega⟩, ⟨by (with_reducible repeat (first | refine blk_drewN ?_ _ | refine blk_drew ?_ | refine blk_alloc ?_ _)); exact BK748.out⟩, ⟨by (with_reducible repeat (first | refine blk_drewN ?_ _ | refine blk_drew ?_ | refine blk_alloc ?_ _)); exact BK749.out⟩, ⟨(hg2_ GE748 GE749)⟩⟩
      ·rw [if_neg c13] at H
       exact absurd H (by simp)
     ·rw [if_neg c12] at H
      exact absurd H (by simp)
    ·rw [if_neg c11] at H
     have c11b0 : decide (0 ≤ x9_1) = false := decide_eq_false c11
     clear c11
     simp only [Option.some.injEq, Prod.mk.injEq] at H
     obtain ⟨rfl, rfl⟩ := H
     have hnb17 := NB748_749.out
     have hnc17 := NB749_748.out
     have hcz18_0 : wr.cell? ⟨gb748, 0, none⟩ = some (.string t744) := (blk_cell BK748.out 0).trans rfl
     have hcz18_1 : wr.cell? ⟨gb748, 1, none⟩ = some (.int .i64 t745) := (blk_cell BK748.out 1).trans rfl
     have hcz18_2 : wr.cell? ⟨gb748, 2, none⟩ = some (.int .i64 t746) := (blk_cell BK748.out 2).trans rfl
     have hfz18_0 := blk_frozen BK748.out 0
     have hfz18_1 := blk_frozen BK748.out 1
     have hfz18_2 := blk_frozen BK748.out 2
     have hcz19_0 : wr.cell? ⟨gb749, 0, none⟩ = some (.string x750000_1) := (blk_cell BK749.out 0).trans rfl
     have hcz19_1 : wr.cell? ⟨gb749, 1, none⟩ = some (.int .i64 x750001_1) := (blk_cell BK749.out 1).trans rfl
     have hcz19_2 : wr.cell? ⟨gb749, 2, none⟩ = some (.int .i64 x750002_1) := (blk_cell BK749.out 2).trans rfl
     have hfz19_0 := blk_frozen BK749.out 0
     have hfz19_1 := blk_frozen BK749.out 1
     have hfz19_2 := blk_frozen BK749.out 2
     go_wp2
     repeat (go_quiet (fail); try go_wp2)
     go_ret2
     exact ⟨ew_, (hg2_ GE748 GE749)⟩
 ·replace c4 := Bool.eq_false_iff.mpr c4
  subst c4
  have H1 : (some (0, 0)) = some (r1, r2) := by rw [if_neg (show ¬ (false = true) by decide)] at H; exact H
  clear H
  have H := H1
  clear H1
  simp only [Option.some.injEq, Prod.mk.injEq] at H
  obtain ⟨rfl, rfl⟩ := H
  go_enter Try.func79, Try.ntmps79
  go_wp2_with (first | (go_at_call 77; (with_reducible refine (spec_l21Last.calls k _ _ l0 a1 20000 t744 t745 t746 false _ ?side1 ?side2 A3.out).mono ?_); (case side1 => exact kc_ HR0.out); (case side2 => exact HC0.out); rintro e w20 ⟨rfl, hb⟩; have n0_ := Aside0.mk (below_step hb_ hb); clear HB; have HB := n0_; clear n0_; (try clear hb); (try clear hb2); (try clear hk); (try clear hi)) | ((with_reducible refine gate_dst (N := 6) rfl ?_); refine box_event ?hg (N := 6) ?hd (cs := #[.string (⟨#[]⟩ : ByteArray), .int .i64 0, .int .i64 0]) (t := 53) ?hr ?_; (case hd => rfl); (case hg => rfl); (case hr => first | (go_simp; done) | (go_simp; rfl)); intro gb748 hg w21 hbox hb; have n0_ := Aside0.mk (below_step hb_ hb); have n1_ := Aside0.mk (hbox); have n2_ := Aside0.mk ((by rw [hg]; exact (below_size hb_) : w.heap.size ≤ gb748)); have n3_ := Aside0.mk ((by rw [hg]; exact (below_size hb_) : w.heap.size ≤ gb748)); clear HB; have HB := n0_; have BK748 := n1_; have GW748 := n2_; have GE748 := n3_; clear n0_ n1_ n2_ n3_; clear hb hbox hg; have hcz22_0 : w21.cell? ⟨gb748, 0, none⟩ = some (.string (⟨#[]⟩ : ByteArray)) := (blk_cell BK748.out 0).trans rfl; have hcz22_1 : w21.cell? ⟨gb748, 1, none⟩ = some (.int .i64 0) := (blk_cell BK748.out 1).trans rfl; have hcz22_2 : w21.cell? ⟨gb748, 2, none⟩ = some (.int .i64 0) := (blk_cell BK748.out 2).trans rfl; have hfz22_0 := blk_frozen BK748.out 0; have hfz22_1 := blk_frozen BK748.out 1; have hfz22_2 := blk_frozen BK748.out 2))
  repeat (go_quiet (first | (go_at_call 77; (with_reducible refine (spec_l21Last.calls k _ _ l0 a1 20000 t744 t745 t746 false _ ?side1 ?side2 A3.out).mono ?_); (case side1 => exact kc_ HR0.out); (case side2 => exact HC0.out); rintro e w20 ⟨rfl, hb⟩; have n0_ := Aside0.mk (below_step hb_ hb); clear HB; have HB := n0_; clear n0_; (try clear hb); (try clear hb2); (try clear hk); (try clear hi)) | ((with_reducible refine gate_dst (N := 6) rfl ?_); refine box_event ?hg (N := 6) ?hd (cs := #[.string (⟨#[]⟩ : ByteArray), .int .i64 0, .int .i64 0]) (t := 53) ?hr ?_; (case hd => rfl); (case hg => rfl); (case hr => first | (go_simp; done) | (go_simp; rfl)); intro gb748 hg w21 hbox hb; have n0_ := Aside0.mk (below_step hb_ hb); have n1_ := Aside0.mk (hbox); have n2_ := Aside0.mk ((by rw [hg]; exact (below_size hb_) : w.heap.size ≤ gb748)); have n3_ := Aside0.mk ((by rw [hg]; exact (below_size hb_) : w.heap.size ≤ gb748)); clear HB; have HB := n0_; have BK748 := n1_; have GW748 := n2_; have GE748 := n3_; clear n0_ n1_ n2_ n3_; clear hb hbox hg; have hcz22_0 : w21.cell? ⟨gb748, 0, none⟩ = some (.string (⟨#[]⟩ : ByteArray)) := (blk_cell BK748.out 0).trans rfl; have hcz22_1 : w21.cell? ⟨gb748, 1, none⟩ = some (.int .i64 0) := (blk_cell BK748.out 1).trans rfl; have hcz22_2 : w21.cell? ⟨gb748, 2, none⟩ = some (.int .i64 0) := (blk_cell BK748.out 2).trans rfl; have hfz22_0 := blk_frozen BK748.out 0; have hfz22_1 := blk_frozen BK748.out 1; have hfz22_2 := blk_frozen BK748.out 2)); try go_wp2_with (first | (go_at_call 77; (with_reducible refine (spec_l21Last.calls k _ _ l0 a1 20000 t744 t745 t746 false _ ?side1 ?side2 A3.out).mono ?_); (case side1 => exact kc_ HR0.out); (case side2 => exact HC0.out); rintro e w20 ⟨rfl, hb⟩; have n0_ := Aside0.mk (below_step hb_ hb); clear HB; have HB := n0_; clear n0_; (try clear hb); (try clear hb2); (try clear hk); (try clear hi)) | ((with_reducible refine gate_dst (N := 6) rfl ?_); refine box_event ?hg (N := 6) ?hd (cs := #[.string (⟨#[]⟩ : ByteArray), .int .i64 0, .int .i64 0]) (t := 53) ?hr ?_; (case hd => rfl); (case hg => rfl); (case hr => first | (go_simp; done) | (go_simp; rfl)); intro gb748 hg w21 hbox hb; have n0_ := Aside0.mk (below_step hb_ hb); have n1_ := Aside0.mk (hbox); have n2_ := Aside0.mk ((by rw [hg]; exact (below_size hb_) : w.heap.size ≤ gb748)); have n3_ := Aside0.mk ((by rw [hg]; exact (below_size hb_) : w.heap.size ≤ gb748)); clear HB; have HB := n0_; have BK748 := n1_; have GW748 := n2_; have GE748 := n3_; clear n0_ n1_ n2_ n3_; clear hb hbox hg; have hcz22_0 : w21.cell? ⟨gb748, 0, none⟩ = some (.string (⟨#[]⟩ : ByteArray)) := (blk_cell BK748.out 0).trans rfl; have hcz22_1 : w21.cell? ⟨gb748, 1, none⟩ = some (.int .i64 0) := (blk_cell BK748.out 1).trans rfl; have hcz22_2 : w21.cell? ⟨gb748, 2, none⟩ = some (.int .i64 0) := (blk_cell BK748.out 2).trans rfl; have hfz22_0 := blk_frozen BK748.out 0; have hfz22_1 := blk_frozen BK748.out 1; have hfz22_2 := blk_frozen BK748.out 2)))
  go_ret2
  exact ⟨ew_, (hg_ GE748)⟩

/-! ### impl_foundOf: function 81 -/
def impl_foundOf.f (l0 : List (S53)) : Option (Int × Int) := if 0 < (l0.length : Int) then (if 0 ≤ (wrap64 ((l0.length : Int) - 1)) then (if (wrap64 ((l0.length : Int) - 1)) < (l0.length : Int) then (some (wrap64 (((rd_T53 l0 (wrap64 ((l0.length : Int) - 1))).f2) - ((rd_T53 l0 0).f2)), wrap64 (((rd_T53 l0 (wrap64 ((l0.length : Int) - 1))).f1) - ((rd_T53 l0 0).f1)))) else (none)) else (none)) else (none)
def impl_foundOf.T1 : Bool × List (List Nat × List Nat) := (true, [([], []), ([0], [0]), ([1], [1]), ([], []), ([], []), ([4], [4]), ([5], [5]), ([3, 6], [3, 6]), ([7], [7]), ([], []), ([], []), ([9, 2, 0, 1, 2, 9, 10], [2, 9]), ([10, 8, 11, 0, 1, 2, 3, 4, 5, 6, 7, 8, 9, 10, 11], [8, 10])])
def impl_foundOf.B1 : List Nat := [0, 1, 3, 0, 0, 16, 48, 120, 248, 0, 0, 1543, 4095]
theorem impl_foundOf.tab1 : rtab .any (opsOf Try.f81 1) = impl_foundOf.T1 := by kernel_rfl
theorem impl_foundOf.bits1 : waitsOk impl_foundOf.T1.2 impl_foundOf.B1 = true := by kernel_rfl
def impl_foundOf.T2 : Bool × List (List Nat × List Nat) := (true, [([], []), ([0], [0]), ([], []), ([2], [2]), ([1, 3], [1, 3]), ([], []), ([5], [5]), ([], []), ([7], [7]), ([6, 8], [6, 8]), ([4, 0, 1, 2, 3, 4], [4]), ([9, 10, 0, 1, 2, 3, 4, 5, 6, 7, 8, 9, 10], [9])])
def impl_foundOf.B2 : List Nat := [0, 1, 0, 4, 15, 0, 32, 0, 128, 480, 31, 2047]
theorem impl_foundOf.tab2 : rtab .any (opsOf Try.f81 2) = impl_foundOf.T2 := by kernel_rfl
theorem impl_foundOf.bits2 : waitsOk impl_foundOf.T2.2 impl_foundOf.B2 = true := by kernel_rfl
set_option maxHeartbeats 8000000 in
set_option maxRecDepth 100000 in
theorem impl_foundOf.calls (A0 : Option Addr) (c0 : Nat) (l0 : List (S53)) (r1 : Int) (r2 : Int) (w : World) (hr0 : Kd.C k53 w A0 l0.length l0) (hc0 : l0.length ≤ c0) (h : impl_foundOf.f l0 = some (r1, r2)) :
  Calls Try.prog 81 #[.slice A0 l0.length c0] w fun e w' => e = .returned (.tuple #[.int .i64 r1, .int .i64 r2]) ∧ Below w.heap.size w w' := by
 have hu53 := Try.underlying53
 have HR0 := Aside0.mk hr0
 have HC0 := Aside0.mk hc0
 clear hr0 hc0
 have HB := Aside0.mk (Below.refl w.heap.size w)
 have H : (if 0 < (l0.length : Int) then (if 0 ≤ (wrap64 ((l0.length : Int) - 1)) then (if (wrap64 ((l0.length : Int) - 1)) < (l0.length : Int) then (some (wrap64 (((rd_T53 l0 (wrap64 ((l0.length : Int) - 1))).f2) - ((rd_T53 l0 0).f2)), wrap64 (((rd_T53 l0 (wrap64 ((l0.length : Int) - 1))).f1) - ((rd_T53 l0 0).f1)))) else (none)) else (none)) else (none)) = some (r1, r2) := h
 clear h
 by_cases c2 : 0 < (l0.length : Int)
 ·rw [if_pos c2] at H
  have c2b0 : decide (0 < (l0.length : Int)) = true := decide_eq_true c2
  have c2b1 : decide (0 < l0.length) = true := decide_eq_true (by omega)
  clear c2
  obtain ⟨ji3, hji3⟩ : ∃ j_ : Int, (wrap64 ((l0.length : Int) - 1)) = j_ := ⟨_, rfl⟩
  replace H : (if 0 ≤ (ji3) then (if (ji3) < (l0.length : Int) then (some (wrap64 (((rd_T53 l0 (ji3)).f2) - ((rd_T53 l0 0).f2)), wrap64 (((rd_T53 l0 (ji3)).f1) - ((rd_T53 l0 0).f1)))) else (none)) else (none)) = some (r1, r2) := by first | (rw [hji3] at H; exact H) | (simp only [hji3] at H ⊢; exact H)
  have hji3w : (IntKind.i64.wrap ((l0.length : Int) - 1)) = ji3 := (i64_w _).trans hji3
  by_cases c4 : 0 ≤ (ji3)
  ·rw [if_pos c4] at H
   have c4b0 : decide (0 ≤ (ji3)) = true := decide_eq_true c4
   clear c4
   by_cases c5 : (ji3) < (l0.length : Int)
   ·rw [if_pos c5] at H
    have c5b0 : decide ((ji3) < (l0.length : Int)) = true := decide_eq_true c5
    clear c5
    simp only [Option.some.injEq, Prod.mk.injEq] at H
    obtain ⟨rfl, rfl⟩ := H
    go_enter Try.func81, Try.ntmps81
    try go_wp2
    have n0_ := Aside0.mk (below_drew1 HB.out)
    clear HB
    have HB := n0_
    clear n0_
    have p762 : 0 ≤ (0 : Int) := (by omega)
    have q762 : 0 < (l0.length : Int) := od_
    obtain ⟨ad762, e762, hx762_0, hx762_1, hx762_2⟩ := at_T53 HR0.out 0 p762 q762
    have hw762_2 := hx762_2
    (try rw [show ((0 : Int)).toNat = 0 from rfl] at hw762_2)
    (try rw [show 0 * 3 = 0 from rfl] at hw762_2)
    (try rw [Addr.add_zero'] at hw762_2)
    have hw762_1 := hx762_1
    (try rw [show ((0 : Int)).toNat = 0 from rfl] at hw762_1)
    (try rw [show 0 * 3 = 0 from rfl] at hw762_1)
    (try rw [Addr.add_zero'] at hw762_1)
    have hw762_0 := hx762_0
    (try rw [show ((0 : Int)).toNat = 0 from rfl] at hw762_0)
    (try rw [show 0 * 3 = 0 from rfl] at hw762_0)
    (try rw [Addr.add_zero'] at hw762_0)
    cases e762
    have qi762 : (0 < l0.length) = True := eq_true (by omega)
    (try rw [show ((0 : Int)).toNat = 0 from rfl] at hx762_0)
    (try rw [show 0 * 3 = 0 from rfl] at hx762_0)
    (try rw [Addr.add_zero'] at hx762_0)
    (try rw [show ((0 : Int)).toNat = 0 from rfl] at hx762_1)
    (try rw [show 0 * 3 = 0 from rfl] at hx762_1)
    (try rw [Addr.add_zero'] at hx762_1)
    (try rw [show ((0 : Int)).toNat = 0 from rfl] at hx762_2)
    (try rw [show 0 * 3 = 0 from rfl] at hx762_2)
    (try rw [Addr.add_zero'] at hx762_2)
    replace hx762_0 := cq_ HB hx762_0
    replace hx762_1 := cq_ HB hx762_1
    replace hx762_2 := cq_ HB hx762_2
    replace p762 := eq_true p762
    replace q762 := eq_true q762
    have p763 : 0 ≤ ((ji3) : Int) := od_
    have q763 : (ji3) < (l0.length : Int) := od_
    obtain ⟨ad763, e763, hx763_0, hx763_1, hx763_2⟩ := at_T53 HR0.out (ji3) p763 q763
    have hw763_2 := hx763_2
    have hw763_1 := hx763_1
    have hw763_0 := hx763_0
    obtain rfl : ad762 = ad763 := (by injection e763)
    replace hx763_0 := cq_ HB hx763_0
    replace hx763_1 := cq_ HB hx763_1
    replace hx763_2 := cq_ HB hx763_2
    replace p763 := eq_true p763
    replace q763 := eq_true q763
    refine start_ (n := 13) (S := fun w' => w'.cell? ad762 = some (.string ((rd_T53 l0 0).f0)) ∧ w'.cell? ⟨ad762.block, ad762.off + 1, none⟩ = some (.int .i64 ((rd_T53 l0 0).f1)) ∧ w'.cell? ⟨ad762.block, ad762.off + 2, none⟩ = some (.int .i64 ((rd_T53 l0 0).f2)) ∧ w'.cell? (ad762.add (((ji3)).toNat * 3)) = some (.string ((rd_T53 l0 (ji3)).f0)) ∧ w'.cell? ⟨(ad762.add (((ji3)).toNat * 3)).block, (ad762.add (((ji3)).toNat * 3)).off + 1, none⟩ = some (.int .i64 ((rd_T53 l0 (ji3)).f1)) ∧ w'.cell? ⟨(ad762.add (((ji3)).toNat * 3)).block, (ad762.add (((ji3)).toNat * 3)).off + 2, none⟩ = some (.int .i64 ((rd_T53 l0 (ji3)).f2))) (ds := []) #[F_,F_,F_,F_,F_,F_,F_,F_,F_,F_,F_,F_,F_] (by kernel_rfl) rfl rfl ⟨((HB.out.cell (World.block_lt_of_cell? w _ hw762_0)).trans hw762_0), ((HB.out.cell (World.block_lt_of_cell? w _ hw762_1)).trans hw762_1), ((HB.out.cell (World.block_lt_of_cell? w _ hw762_2)).trans hw762_2), ((HB.out.cell (World.block_lt_of_cell? w _ hw763_0)).trans hw763_0), ((HB.out.cell (World.block_lt_of_cell? w _ hw763_1)).trans hw763_1), ((HB.out.cell (World.block_lt_of_cell? w _ hw763_2)).trans hw763_2)⟩ (fun hHeld => ?_); refine with_tabW impl_foundOf.tab1 impl_foundOf.bits1 (fun HT_ HW_ => ?_)
    generalize w.drew = w6 at HB hx762_0 hx762_1 hx762_2 hx763_0 hx763_1 hx763_2 hHeld ⊢
    refine pu (i := 0) (N := some 6) #[T_,F_,F_,F_,F_,F_,F_,F_,F_,F_,F_,F_,F_] HT_ ?_
    refine pu (i := 1) (N := some 7) #[T_,T_,F_,F_,F_,F_,F_,F_,F_,F_,F_,F_,F_] HT_ ?_
    refine pu (i := 3) (N := some 9) #[T_,T_,F_,T_,F_,F_,F_,F_,F_,F_,F_,F_,F_] HT_ ?_
    refine pu (i := 4) (N := some 10) #[T_,T_,F_,T_,T_,F_,F_,F_,F_,F_,F_,F_,F_] HT_ ?_
    refine pu (i := 5) (N := some 11) #[T_,T_,F_,T_,T_,T_,F_,F_,F_,F_,F_,F_,F_] HT_ ?_
    refine pu (i := 6) (N := some 12) #[T_,T_,F_,T_,T_,T_,T_,F_,F_,F_,F_,F_,F_] HT_ ?_
    refine pu (i := 7) (N := some 13) #[T_,T_,F_,T_,T_,T_,T_,T_,F_,F_,F_,F_,F_] HT_ ?_
    refine take_ (i := 2) (N := some 8) (v := ?_) (a' := ?_) #[T_,T_,T_,T_,T_,T_,T_,T_,F_,F_,F_,F_,F_] rfl rfl (take_ofW HT_.out HW_.out (by kernel_rfl)) (fun _ _ _ h => h) (Or.inl ⟨by rfl, ?_⟩) hHeld ?_ ?_
    rotate_left
    ·rintro w' ⟨s0, s1, s2, s3, s4, s5⟩
     go_simp
     with_reducible rfl
    rotate_left
    ·simp only [Act.put, sT_, s0_, sS_, i64_w, i32_w]
     rfl
    refine take_ (i := 8) (N := some 14) (v := ?_) (a' := ?_) #[T_,T_,T_,T_,T_,T_,T_,T_,T_,F_,F_,F_,F_] rfl rfl (take_ofW HT_.out HW_.out (by kernel_rfl)) (fun _ _ _ h => h) (Or.inl ⟨by rfl, ?_⟩) hHeld ?_ ?_
    rotate_left
    ·rintro w' ⟨s0, s1, s2, s3, s4, s5⟩
     go_simp
     with_reducible rfl
    rotate_left
    ·simp only [Act.put, sT_, s0_, sS_, i64_w, i32_w]
     rfl
    refine join_ (σ := Nat × Nat) 2 #[T_,T_,T_,T_,T_,T_,T_,T_,T_,T_,T_,F_,F_] (fun s_ => [(4, .pointer (some ⟨s_.1, 0, none⟩)), (5, .pointer (some ⟨s_.2, 0, none⟩))]) (fun s_ w' => (w'.cell? ad762 = some (.string ((rd_T53 l0 0).f0)) ∧ w'.cell? ⟨ad762.block, ad762.off + 1, none⟩ = some (.int .i64 ((rd_T53 l0 0).f1)) ∧ w'.cell? ⟨ad762.block, ad762.off + 2, none⟩ = some (.int .i64 ((rd_T53 l0 0).f2)) ∧ w'.cell? (ad762.add (((ji3)).toNat * 3)) = some (.string ((rd_T53 l0 (ji3)).f0)) ∧ w'.cell? ⟨(ad762.add (((ji3)).toNat * 3)).block, (ad762.add (((ji3)).toNat * 3)).off + 1, none⟩ = some (.int .i64 ((rd_T53 l0 (ji3)).f1)) ∧ w'.cell? ⟨(ad762.add (((ji3)).toNat * 3)).block, (ad762.add (((ji3)).toNat * 3)).off + 2, none⟩ = some (.int .i64 ((rd_T53 l0 (ji3)).f2))) ∧ (w'.heap[s_.1]? = some (.cells #[.string (⟨#[]⟩ : ByteArray), .int .i64 0, .int .i64 0] 53 (0, 0))) ∧ (w'.heap[s_.2]? = some (.cells #[.string (⟨#[]⟩ : ByteArray), .int .i64 0, .int .i64 0] 53 (0, 0))) ∧ (w.heap.size ≤ s_.1) ∧ (w.heap.size ≤ s_.1) ∧ (s_.2 ≠ s_.1) ∧ (s_.1 ≠ s_.2) ∧ (w.heap.size ≤ s_.2) ∧ (w.heap.size ≤ s_.2) ∧ (Below w.heap.size w w')) ?_ ?_
    rotate_left
    ·intro hCont
     refine two_ (i := 9) (j := 10) (Ni := some 4) (Nj := some 5) #[T_,T_,T_,T_,T_,T_,T_,T_,T_,T_,F_,F_,F_] #[T_,T_,T_,T_,T_,T_,T_,T_,T_,F_,T_,F_,F_] rfl rfl rfl rfl (two_of HT_.out (by kernel_rfl)) (by decide) (by decide) (fun K hK => ?_) (fun K hK => ?_)
     ·skip
      refine box_step ?hg (N := 4) ?hd (cs := #[.string (⟨#[]⟩ : ByteArray), .int .i64 0, .int .i64 0]) (t := 53) ?hr ?_; (case hd => rfl); (case hg => rfl); (case hr => first | (go_simp; done) | (go_simp; rfl))
      intro gb764 hg w7 hbox hb
      have n0_ := Aside0.mk (below_step hb_ hb)
      have n1_ := Aside0.mk (hbox)
      have n2_ := Aside0.mk ((by rw [hg]; exact (below_size hb_) : w.heap.size ≤ gb764))
      have n3_ := Aside0.mk ((by rw [hg]; exact (below_size hb_) : w.heap.size ≤ gb764))
      clear HB
      have HB := n0_
      have BK764 := n1_
      have GW764 := n2_
      have GE764 := n3_
      clear n0_ n1_ n2_ n3_
      clear hb hbox hg
      refine hK.out _ _ ⟨((HB.out.cell (World.block_lt_of_cell? w _ hw762_0)).trans hw762_0), ((HB.out.cell (World.block_lt_of_cell? w _ hw762_1)).trans hw762_1), ((HB.out.cell (World.block_lt_of_cell? w _ hw762_2)).trans hw762_2), ((HB.out.cell (World.block_lt_of_cell? w _ hw763_0)).trans hw763_0), ((HB.out.cell (World.block_lt_of_cell? w _ hw763_1)).trans hw763_1), ((HB.out.cell (World.block_lt_of_cell? w _ hw763_2)).trans hw763_2)⟩ (fun hHeld => ?_)
      clear hK K
      refine norm_ (a' := ?_) ?_ ?_
      rotate_left
      ·show Act.put _ (some 4) _ = _
       simp only [Act.put, sT_, s0_, sS_, i64_w, i32_w]
       rfl
      refine one_ (i := 10) (N := some 5) #[T_,T_,T_,T_,T_,T_,T_,T_,T_,T_,T_,F_,F_] rfl rfl (one_of HT_.out (by kernel_rfl)) (by decide) (fun K hK => ?_)
      refine box_step ?hg (N := 5) ?hd (cs := #[.string (⟨#[]⟩ : ByteArray), .int .i64 0, .int .i64 0]) (t := 53) ?hr ?_; (case hd => rfl); (case hg => rfl); (case hr => first | (go_simp; done) | (go_simp; rfl))
      intro gb765 hg w8 hbox hb
      have n0_ := Aside0.mk (blk_below (g := gb764) (o := .cells #[.string (⟨#[]⟩ : ByteArray), .int .i64 0, .int .i64 0] 53 (0, 0)) (bk_ BK764) hb)
      have n1_ := Aside0.mk (below_step (hg_ GE764) hb)
      have n2_ := Aside0.mk (hbox)
      have n3_ := Aside0.mk ((by rw [hg]; exact (below_size (hg_ GE764)) : w.heap.size ≤ gb765))
      have n4_ := Aside0.mk ((by rw [hg]; exact (below_size (hg_ GE764)) : w.heap.size ≤ gb765))
      have n5_ := Aside0.mk ((by rw [hg]; exact Nat.ne_of_lt (blk_lt (g := gb764) (o := .cells #[.string (⟨#[]⟩ : ByteArray), .int .i64 0, .int .i64 0] 53 (0, 0)) (bk_ BK764)) : gb764 ≠ gb765))
      have n6_ := Aside0.mk ((by rw [hg]; exact Nat.ne_of_gt (blk_lt (g := gb764) (o := .cells #[.string (⟨#[]⟩ : ByteArray), .int .i64 0, .int .i64 0] 53 (0, 0)) (bk_ BK764)) : gb765 ≠ gb764))
      clear BK764
      clear HB
      have BK764 := n0_
      have HB := n1_
      have BK765 := n2_
      have GW765 := n3_
      have GE765 := n4_
      have NB764_765 := n5_
      have NB765_764 := n6_
      clear n0_ n1_ n2_ n3_ n4_ n5_ n6_
      clear hb hbox hg
      refine hK.out _ _ ⟨((HB.out.cell (World.block_lt_of_cell? w _ hw762_0)).trans hw762_0), ((HB.out.cell (World.block_lt_of_cell? w _ hw762_1)).trans hw762_1), ((HB.out.cell (World.block_lt_of_cell? w _ hw762_2)).trans hw762_2), ((HB.out.cell (World.block_lt_of_cell? w _ hw763_0)).trans hw763_0), ((HB.out.cell (World.block_lt_of_cell? w _ hw763_1)).trans hw763_1), ((HB.out.cell (World.block_lt_of_cell? w _ hw763_2)).trans hw763_2)⟩ (fun hHeld => ?_)
      clear hK K
      refine norm_ (a' := ?_) ?_ ?_
      rotate_left
      ·show Act.put _ (some 5) _ = _
       simp only [Act.put, sT_, s0_, sS_, i64_w, i32_w]
       rfl
      exact norm_ (by simp only [putAll, Act.put, List.setIfInBounds_toArray, List.set_cons_zero, List.set_cons_succ]) (hCont (gb764, gb765) _ ⟨hHeld, (bk_ BK764), (bk_ BK765), GW764.out, GE764.out, NB765_764.out, NB764_765.out, GW765.out, GE765.out, (hg2_ GE764 GE765)⟩)
     ·skip
      refine box_step ?hg (N := 5) ?hd (cs := #[.string (⟨#[]⟩ : ByteArray), .int .i64 0, .int .i64 0]) (t := 53) ?hr ?_; (case hd => rfl); (case hg => rfl); (case hr => first | (go_simp; done) | (go_simp; rfl))
      intro gb765 hg w7 hbox hb
      have n0_ := Aside0.mk (below_step hb_ hb)
      have n1_ := Aside0.mk (hbox)
      have n2_ := Aside0.mk ((by rw [hg]; exact (below_size hb_) : w.heap.size ≤ gb765))
      have n3_ := Aside0.mk ((by rw [hg]; exact (below_size hb_) : w.heap.size ≤ gb765))
      clear HB
      have HB := n0_
      have BK765 := n1_
      have GW765 := n2_
      have GE765 := n3_
      clear n0_ n1_ n2_ n3_
      clear hb hbox hg
      refine hK.out _ _ ⟨((HB.out.cell (World.block_lt_of_cell? w _ hw762_0)).trans hw762_0), ((HB.out.cell (World.block_lt_of_cell? w _ hw762_1)).trans hw762_1), ((HB.out.cell (World.block_lt_of_cell? w _ hw762_2)).trans hw762_2), ((HB.out.cell (World.block_lt_of_cell? w _ hw763_0)).trans hw763_0), ((HB.out.cell (World.block_lt_of_cell? w _ hw763_1)).trans hw763_1), ((HB.out.cell (World.block_lt_of_cell? w _ hw763_2)).trans hw763_2)⟩ (fun hHeld => ?_)
      clear hK K
      refine norm_ (a' := ?_) ?_ ?_
      rotate_left
      ·show Act.put _ (some 5) _ = _
       simp only [Act.put, sT_, s0_, sS_, i64_w, i32_w]
       rfl
      refine one_ (i := 9) (N := some 4) #[T_,T_,T_,T_,T_,T_,T_,T_,T_,T_,T_,F_,F_] rfl rfl (one_of HT_.out (by kernel_rfl)) (by decide) (fun K hK => ?_)
      refine box_step ?hg (N := 4) ?hd (cs := #[.string (⟨#[]⟩ : ByteArray), .int .i64 0, .int .i64 0]) (t := 53) ?hr ?_; (case hd => rfl); (case hg => rfl); (case hr => first | (go_simp; done) | (go_simp; rfl))
      intro gb764 hg w8 hbox hb
      have n0_ := Aside0.mk (blk_below (g := gb765) (o := .cells #[.string (⟨#[]⟩ : ByteArray), .int .i64 0, .int .i64 0] 53 (0, 0)) (bk_ BK765) hb)
      have n1_ := Aside0.mk (below_step (hg_ GE765) hb)
      have n2_ := Aside0.mk (hbox)
      have n3_ := Aside0.mk ((by rw [hg]; exact (below_size (hg_ GE765)) : w.heap.size ≤ gb764))
      have n4_ := Aside0.mk ((by rw [hg]; exact (below_size (hg_ GE765)) : w.heap.size ≤ gb764))
      have n5_ := Aside0.mk ((by rw [hg]; exact Nat.ne_of_lt (blk_lt (g := gb765) (o := .cells #[.string (⟨#[]⟩ : ByteArray), .int .i64 0, .int .i64 0] 53 (0, 0)) (bk_ BK765)) : gb765 ≠ gb764))
      have n6_ := Aside0.mk ((by rw [hg]; exact Nat.ne_of_gt (blk_lt (g := gb765) (o := .cells #[.string (⟨#[]⟩ : ByteArray), .int .i64 0, .int .i64 0] 53 (0, 0)) (bk_ BK765)) : gb764 ≠ gb765))
      clear BK765
      clear HB
      have BK765 := n0_
      have HB := n1_
      have BK764 := n2_
      have GW764 := n3_
      have GE764 := n4_
      have NB765_764 := n5_
      have NB764_765 := n6_
      clear n0_ n1_ n2_ n3_ n4_ n5_ n6_
      clear hb hbox hg
      refine hK.out _ _ ⟨((HB.out.cell (World.block_lt_of_cell? w _ hw762_0)).trans hw762_0), ((HB.out.cell (World.block_lt_of_cell? w _ hw762_1)).trans hw762_1), ((HB.out.cell (World.block_lt_of_cell? w _ hw762_2)).trans hw762_2), ((HB.out.cell (World.block_lt_of_cell? w _ hw763_0)).trans hw763_0), ((HB.out.cell (World.block_lt_of_cell? w _ hw763_1)).trans hw763_1), ((HB.out.cell (World.block_lt_of_cell? w _ hw763_2)).trans hw763_2)⟩ (fun hHeld => ?_)
      clear hK K
      refine norm_ (a' := ?_) ?_ ?_
      rotate_left
      ·show Act.put _ (some 4) _ = _
       simp only [Act.put, sT_, s0_, sS_, i64_w, i32_w]
       rfl
      exact norm_ (by simp only [putAll, Act.put, List.setIfInBounds_toArray, List.set_cons_zero, List.set_cons_succ]) (hCont (gb764, gb765) _ ⟨hHeld, (bk_ BK764), (bk_ BK765), GW764.out, GE764.out, NB765_764.out, NB764_765.out, GW765.out, GE765.out, (hg2_ GE765 GE764)⟩)
    rintro ⟨gb764, gb765⟩ w9 ⟨hS_, h0_, h1_, h2_, h3_, h4_, h5_, h6_, h7_, h8_⟩
    have n0_ : Aside0 (w9.heap[gb764]? = some (.cells #[.string (⟨#[]⟩ : ByteArray), .int .i64 0, .int .i64 0] 53 (0, 0))) := ⟨h0_⟩
    have n1_ : Aside0 (w9.heap[gb765]? = some (.cells #[.string (⟨#[]⟩ : ByteArray), .int .i64 0, .int .i64 0] 53 (0, 0))) := ⟨h1_⟩
    have n2_ : Aside0 (w.heap.size ≤ gb764) := ⟨h2_⟩
    have n3_ : Aside0 (w.heap.size ≤ gb764) := ⟨h3_⟩
    have n4_ : Aside0 (gb765 ≠ gb764) := ⟨h4_⟩
    have n5_ : Aside0 (gb764 ≠ gb765) := ⟨h5_⟩
    have n6_ : Aside0 (w.heap.size ≤ gb765) := ⟨h6_⟩
    have n7_ : Aside0 (w.heap.size ≤ gb765) := ⟨h7_⟩
    have n8_ : Aside0 (Below w.heap.size w w9) := ⟨h8_⟩
    clear HB
    clear h0_ h1_ h2_ h3_ h4_ h5_ h6_ h7_ h8_
    have BK764 := n0_
    have BK765 := n1_
    have GW764 := n2_
    have GE764 := n3_
    have NB765_764 := n4_
    have NB764_765 := n5_
    have GW765 := n6_
    have GE765 := n7_
    have HB := n8_
    clear n0_ n1_ n2_ n3_ n4_ n5_ n6_ n7_ n8_
    have hHeld : w9.cell? ad762 = some (.string ((rd_T53 l0 0).f0)) ∧ w9.cell? ⟨ad762.block, ad762.off + 1, none⟩ = some (.int .i64 ((rd_T53 l0 0).f1)) ∧ w9.cell? ⟨ad762.block, ad762.off + 2, none⟩ = some (.int .i64 ((rd_T53 l0 0).f2)) ∧ w9.cell? (ad762.add (((ji3)).toNat * 3)) = some (.string ((rd_T53 l0 (ji3)).f0)) ∧ w9.cell? ⟨(ad762.add (((ji3)).toNat * 3)).block, (ad762.add (((ji3)).toNat * 3)).off + 1, none⟩ = some (.int .i64 ((rd_T53 l0 (ji3)).f1)) ∧ w9.cell? ⟨(ad762.add (((ji3)).toNat * 3)).block, (ad762.add (((ji3)).toNat * 3)).off + 2, none⟩ = some (.int .i64 ((rd_T53 l0 (ji3)).f2)) := hS_
    refine norm_ (a' := ?_) ?_ ?_
    rotate_left
    ·simp only [putAll, Act.put, List.setIfInBounds_toArray, List.set_cons_zero, List.set_cons_succ]
     rfl
    refine one_ (i := 11) (N := none) #[T_,T_,T_,T_,T_,T_,T_,T_,T_,T_,T_,T_,F_] rfl rfl (one_of HT_.out (by kernel_rfl)) (by decide) (fun K hK => ?_)
    have hs10 : w9.cell? ⟨gb764, 0, none⟩ = some (.string (⟨#[]⟩ : ByteArray)) := (blk_cell BK764.out 0).trans rfl
    have hfs10 := blk_frozen BK764.out 0
    have hns10_1 := NB765_764.out
    have hms10_1 := NB764_765.out
    have hs11 : w9.cell? ⟨gb764, 1, none⟩ = some (.int .i64 0) := (blk_cell BK764.out 1).trans rfl
    have hfs11 := blk_frozen BK764.out 1
    have hns11_1 := NB765_764.out
    have hms11_1 := NB764_765.out
    have hs12 : w9.cell? ⟨gb764, 2, none⟩ = some (.int .i64 0) := (blk_cell BK764.out 2).trans rfl
    have hfs12 := blk_frozen BK764.out 2
    have hns12_1 := NB765_764.out
    have hms12_1 := NB764_765.out
    refine skip_ (w1 := ?_) (by rfl) rfl ?_ ?_
    rotate_left
    ·go_simp
     rfl
    refine hK.out _ _ ⟨((cell_far (p := ⟨gb764, _, none⟩) (by first | exact Nat.ne_of_lt (Nat.lt_of_lt_of_le (by have := World.block_lt_of_cell? _ _ hw762_0; first | rwa [add_block] at this | exact this) GW764.out) | (rw [add_block]; exact Nat.ne_of_lt (Nat.lt_of_lt_of_le (by have := World.block_lt_of_cell? _ _ hw762_0; first | rwa [add_block] at this | exact this) GW764.out)) | (show (Addr.add _ _).block ≠ _; rw [add_block]; exact Nat.ne_of_lt (Nat.lt_of_lt_of_le (by have := World.block_lt_of_cell? _ _ hw762_0; first | rwa [add_block] at this | exact this) GW764.out)) | (dsimp only; exact Nat.ne_of_lt (Nat.lt_of_lt_of_le (by have := World.block_lt_of_cell? _ _ hw762_0; first | rwa [add_block] at this | exact this) GW764.out))) _).trans (((cell_far (p := ⟨gb764, _, none⟩) (by first | exact Nat.ne_of_lt (Nat.lt_of_lt_of_le (by have := World.block_lt_of_cell? _ _ hw762_0; first | rwa [add_block] at this | exact this) GW764.out) | (rw [add_block]; exact Nat.ne_of_lt (Nat.lt_of_lt_of_le (by have := World.block_lt_of_cell? _ _ hw762_0; first | rwa [add_block] at this | exact this) GW764.out)) | (show (Addr.add _ _).block ≠ _; rw [add_block]; exact Nat.ne_of_lt (Nat.lt_of_lt_of_le (by have := World.block_lt_of_cell? _ _ hw762_0; first | rwa [add_block] at this | exact this) GW764.out)) | (dsimp only; exact Nat.ne_of_lt (Nat.lt_of_lt_of_le (by have := World.block_lt_of_cell? _ _ hw762_0; first | rwa [add_block] at this | exact this) GW764.out))) _).trans (((cell_far (p := ⟨gb764, _, none⟩) (by first | exact Nat.ne_of_lt (Nat.lt_of_lt_of_le (by have := World.block_lt_of_cell? _ _ hw762_0; first | rwa [add_block] at this | exact this) GW764.out) | (rw [add_block]; exact Nat.ne_of_lt (Nat.lt_of_lt_of_le (by have := World.block_lt_of_cell? _ _ hw762_0; first | rwa [add_block] at this | exact this) GW764.out)) | (show (Addr.add _ _).block ≠ _; rw [add_block]; exact Nat.ne_of_lt (Nat.lt_of_lt_of_le (by have := World.block_lt_of_cell? _ _ hw762_0; first | rwa [add_block] at this | exact this) GW764.out)) | (dsimp only; exact Nat.ne_of_lt (Nat.lt_of_lt_of_le (by have := World.block_lt_of_cell? _ _ hw762_0; first | rwa [add_block] at this | exact this) GW764.out))) _).trans (hHeld.1)))))), ((cell_far (p := ⟨gb764, _, none⟩) (by first | exact Nat.ne_of_lt (Nat.lt_of_lt_of_le (by have := World.block_lt_of_cell? _ _ hw762_1; first | rwa [add_block] at this | exact this) GW764.out) | (rw [add_block]; exact Nat.ne_of_lt (Nat.lt_of_lt_of_le (by have := World.block_lt_of_cell? _ _ hw762_1; first | rwa [add_block] at this | exact this) GW764.out)) | (show (Addr.add _ _).block ≠ _; rw [add_block]; exact Nat.ne_of_lt (Nat.lt_of_lt_of_le (by have := World.block_lt_of_cell? _ _ hw762_1; first | rwa [add_block] at this | exact this) GW764.out)) | (dsimp only; exact Nat.ne_of_lt (Nat.lt_of_lt_of_le (by have := World.block_lt_of_cell? _ _ hw762_1; first | rwa [add_block] at this | exact this) GW764.out))) _).trans (((cell_far (p := ⟨gb764, _, none⟩) (by first | exact Nat.ne_of_lt (Nat.lt_of_lt_of_le (by have := World.block_lt_of_cell? _ _ hw762_1; first | rwa [add_block] at this | exact this) GW764.out) | (rw [add_block]; exact Nat.ne_of_lt (Nat.lt_of_lt_of_le (by have := World.block_lt_of_cell? _ _ hw762_1; first | rwa [add_block] at this | exact this) GW764.out)) | (show (Addr.add _ _).block ≠ _; rw [add_block]; exact Nat.ne_of_lt (Nat.lt_of_lt_of_le (by have := World.block_lt_of_cell? _ _ hw762_1; first | rwa [add_block] at this | exact this) GW764.out)) | (dsimp only; exact Nat.ne_of_lt (Nat.lt_of_lt_of_le (by have := World.block_lt_of_cell? _ _ hw762_1; first | rwa [add_block] at this | exact this) GW764.out))) _).trans (((cell_far (p := ⟨gb764, _, none⟩) (by first | exact Nat.ne_of_lt (Nat.lt_of_lt_of_le (by have := World.block_lt_of_cell? _ _ hw762_1; first | rwa [add_block] at this | exact this) GW764.out) | (rw [add_block]; exact Nat.ne_of_lt (Nat.lt_of_lt_of_le (by have := World.block_lt_of_cell? _ _ hw762_1; first | rwa [add_block] at this | exact this) GW764.out)) | (show (Addr.add _ _).block ≠ _; rw [add_block]; exact Nat.ne_of_lt (Nat.lt_of_lt_of_le (by have := World.block_lt_of_cell? _ _ hw762_1; first | rwa [add_block] at this | exact this) GW764.out)) | (dsimp only; exact Nat.ne_of_lt (Nat.lt_of_lt_of_le (by have := World.block_lt_of_cell? _ _ hw762_1; first | rwa [add_block] at this | exact this) GW764.out))) _).trans (hHeld.2.1)))))), ((cell_far (p := ⟨gb764, _, none⟩) (by first | exact Nat.ne_of_lt (Nat.lt_of_lt_of_le (by have := World.block_lt_of_cell? _ _ hw762_2; first | rwa [add_block] at this | exact this) GW764.out) | (rw [add_block]; exact Nat.ne_of_lt (Nat.lt_of_lt_of_le (by have := World.block_lt_of_cell? _ _ hw762_2; first | rwa [add_block] at this | exact this) GW764.out)) | (show (Addr.add _ _).block ≠ _; rw [add_block]; exact Nat.ne_of_lt (Nat.lt_of_lt_of_le (by have := World.block_lt_of_cell? _ _ hw762_2; first | rwa [add_block] at this | exact this) GW764.out)) | (dsimp only; exact Nat.ne_of_lt (Nat.lt_of_lt_of_le (by have := World.block_lt_of_cell? _ _ hw762_2; first | rwa [add_block] at this | exact this) GW764.out))) _).trans (((cell_far (p := ⟨gb764, _, none⟩) (by first | exact Nat.ne_of_lt (Nat.lt_of_lt_of_le (by have := World.block_lt_of_cell? _ _ hw762_2; first | rwa [add_block] at this | exact this) GW764.out) | (rw [add_block]; exact Nat.ne_of_lt (Nat.lt_of_lt_of_le (by have := World.block_lt_of_cell? _ _ hw762_2; first | rwa [add_block] at this | exact this) GW764.out)) | (show (Addr.add _ _).block ≠ _; rw [add_block]; exact Nat.ne_of_lt (Nat.lt_of_lt_of_le (by have := World.block_lt_of_cell? _ _ hw762_2; first | rwa [add_block] at this | exact this) GW764.out)) | (dsimp only; exact Nat.ne_of_lt (Nat.lt_of_lt_of_le (by have := World.block_lt_of_cell? _ _ hw762_2; first | rwa [add_block] at this | exact this) GW764.out))) _).trans (((cell_far (p := ⟨gb764, _, none⟩) (by first | exact Nat.ne_of_lt (Nat.lt_of_lt_of_le (by have := World.block_lt_of_cell? _ _ hw762_2; first | rwa [add_block] at this | exact this) GW764.out) | (rw [add_block]; exact Nat.ne_of_lt (Nat.lt_of_lt_of_le (by have := World.block_lt_of_cell? _ _ hw762_2; first | rwa [add_block] at this | exact this) GW764.out)) | (show (Addr.add _ _).block ≠ _; rw [add_block]; exact Nat.ne_of_lt (Nat.lt_of_lt_of_le (by have := World.block_lt_of_cell? _ _ hw762_2; first | rwa [add_block] at this | exact this) GW764.out)) | (dsimp only; exact Nat.ne_of_lt (Nat.lt_of_lt_of_le (by have := World.block_lt_of_cell? _ _ hw762_2; first | rwa [add_block] at this | exact this) GW764.out))) _).trans (hHeld.2.2.1)))))), ((cell_far (p := ⟨gb764, _, none⟩) (by first | exact Nat.ne_of_lt (Nat.lt_of_lt_of_le (by have := World.block_lt_of_cell? _ _ hw763_0; first | rwa [add_block] at this | exact this) GW764.out) | (rw [add_block]; exact Nat.ne_of_lt (Nat.lt_of_lt_of_le (by have := World.block_lt_of_cell? _ _ hw763_0; first | rwa [add_block] at this | exact this) GW764.out)) | (show (Addr.add _ _).block ≠ _; rw [add_block]; exact Nat.ne_of_lt (Nat.lt_of_lt_of_le (by have := World.block_lt_of_cell? _ _ hw763_0; first | rwa [add_block] at this | exact this) GW764.out)) | (dsimp only; exact Nat.ne_of_lt (Nat.lt_of_lt_of_le (by have := World.block_lt_of_cell? _ _ hw763_0; first | rwa [add_block] at this | exact this) GW764.out))) _).trans (((cell_far (p := ⟨gb764, _, none⟩) (by first | exact Nat.ne_of_lt (Nat.lt_of_lt_of_le (by have := World.block_lt_of_cell? _ _ hw763_0; first | rwa [add_block] at this | exact this) GW764.out) | (rw [add_block]; exact Nat.ne_of_lt (Nat.lt_of_lt_of_le (by have := World.block_lt_of_cell? _ _ hw763_0; first | rwa [add_block] at this | exact this) GW764.out)) | (show (Addr.add _ _).block ≠ _; rw [add_block]; exact Nat.ne_of_lt (Nat.lt_of_lt_of_le (by have := World.block_lt_of_cell? _ _ hw763_0; first | rwa [add_block] at this | exact this) GW764.out)) | (dsimp only; exact Nat.ne_of_lt (Nat.lt_of_lt_of_le (by have := World.block_lt_of_cell? _ _ hw763_0; first | rwa [add_block] at this | exact this) GW764.out))) _).trans (((cell_far (p := ⟨gb764, _, none⟩) (by first | exact Nat.ne_of_lt (Nat.lt_of_lt_of_le (by have := World.block_lt_of_cell? _ _ hw763_0; first | rwa [add_block] at this | exact this) GW764.out) | (rw [add_block]; exact Nat.ne_of_lt (Nat.lt_of_lt_of_le (by have := World.block_lt_of_cell? _ _ hw763_0; first | rwa [add_block] at this | exact this) GW764.out)) | (show (Addr.add _ _).block ≠ _; rw [add_block]; exact Nat.ne_of_lt (Nat.lt_of_lt_of_le (by have := World.block_lt_of_cell? _ _ hw763_0; first | rwa [add_block] at this | exact this) GW764.out)) | (dsimp only; exact Nat.ne_of_lt (Nat.lt_of_lt_of_le (by have := World.block_lt_of_cell? _ _ hw763_0; first | rwa [add_block] at this | exact this) GW764.out))) _).trans (hHeld.2.2.2.1)))))), ((cell_far (p := ⟨gb764, _, none⟩) (by first | exact Nat.ne_of_lt (Nat.lt_of_lt_of_le (by have := World.block_lt_of_cell? _ _ hw763_1; first | rwa [add_block] at this | exact this) GW764.out) | (rw [add_block]; exact Nat.ne_of_lt (Nat.lt_of_lt_of_le (by have := World.block_lt_of_cell? _ _ hw763_1; first | rwa [add_block] at this | exact this) GW764.out)) | (show (Addr.add _ _).block ≠ _; rw [add_block]; exact Nat.ne_of_lt (Nat.lt_of_lt_of_le (by have := World.block_lt_of_cell? _ _ hw763_1; first | rwa [add_block] at this | exact this) GW764.out)) | (dsimp only; exact Nat.ne_of_lt (Nat.lt_of_lt_of_le (by have := World.block_lt_of_cell? _ _ hw763_1; first | rwa [add_block] at this | exact this) GW764.out))) _).trans (((cell_far (p := ⟨gb764, _, none⟩) (by first | exact Nat.ne_of_lt (Nat.lt_of_lt_of_le (by have := World.block_lt_of_cell? _ _ hw763_1; first | rwa [add_block] at this | exact this) GW764.out) | (rw [add_block]; exact Nat.ne_of_lt (Nat.lt_of_lt_of_le (by have := World.block_lt_of_cell? _ _ hw763_1; first | rwa [add_block] at this | exact this) GW764.out)) | (show (Addr.add _ _).block ≠ _; rw [add_block]; exact Nat.ne_of_lt (Nat.lt_of_lt_of_le (by have := World.block_lt_of_cell? _ _ hw763_1; first | rwa [add_block] at this | exact this) GW764.out)) | (dsimp only; exact Nat.ne_of_lt (Nat.lt_of_lt_of_le (by have := World.block_lt_of_cell? _ _ hw763_1; first | rwa [add_block] at this | exact this) GW764.out))) _).trans (((cell_far (p := ⟨gb764, _, none⟩) (by first | exact Nat.ne_of_lt (Nat.lt_of_lt_of_le (by have := World.block_lt_of_cell? _ _ hw763_1; first | rwa [add_block] at this | exact this) GW764.out) | (rw [add_block]; exact Nat.ne_of_lt (Nat.lt_of_lt_of_le (by have := World.block_lt_of_cell? _ _ hw763_1; first | rwa [add_block] at this | exact this) GW764.out)) | (show (Addr.add _ _).block ≠ _; rw [add_block]; exact Nat.ne_of_lt (Nat.lt_of_lt_of_le (by have := World.block_lt_of_cell? _ _ hw763_1; first | rwa [add_block] at this | exact this) GW764.out)) | (dsimp only; exact Nat.ne_of_lt (Nat.lt_of_lt_of_le (by have := World.block_lt_of_cell? _ _ hw763_1; first | rwa [add_block] at this | exact this) GW764.out))) _).trans (hHeld.2.2.2.2.1)))))), ((cell_far (p := ⟨gb764, _, none⟩) (by first | exact Nat.ne_of_lt (Nat.lt_of_lt_of_le (by have := World.block_lt_of_cell? _ _ hw763_2; first | rwa [add_block] at this | exact this) GW764.out) | (rw [add_block]; exact Nat.ne_of_lt (Nat.lt_of_lt_of_le (by have := World.block_lt_of_cell? _ _ hw763_2; first | rwa [add_block] at this | exact this) GW764.out)) | (show (Addr.add _ _).block ≠ _; rw [add_block]; exact Nat.ne_of_lt (Nat.lt_of_lt_of_le (by have := World.block_lt_of_cell? _ _ hw763_2; first | rwa [add_block] at this | exact this) GW764.out)) | (dsimp only; exact Nat.ne_of_lt (Nat.lt_of_lt_of_le (by have := World.block_lt_of_cell? _ _ hw763_2; first | rwa [add_block] at this | exact this) GW764.out))) _).trans (((cell_far (p := ⟨gb764, _, none⟩) (by first | exact Nat.ne_of_lt (Nat.lt_of_lt_of_le (by have := World.block_lt_of_cell? _ _ hw763_2; first | rwa [add_block] at this | exact this) GW764.out) | (rw [add_block]; exact Nat.ne_of_lt (Nat.lt_of_lt_of_le (by have := World.block_lt_of_cell? _ _ hw763_2; first | rwa [add_block] at this | exact this) GW764.out)) | (show (Addr.add _ _).block ≠ _; rw [add_block]; exact Nat.ne_of_lt (Nat.lt_of_lt_of_le (by have := World.block_lt_of_cell? _ _ hw763_2; first | rwa [add_block] at this | exact this) GW764.out)) | (dsimp only; exact Nat.ne_of_lt (Nat.lt_of_lt_of_le (by have := World.block_lt_of_cell? _ _ hw763_2; first | rwa [add_block] at this | exact this) GW764.out))) _).trans (((cell_far (p := ⟨gb764, _, none⟩) (by first | exact Nat.ne_of_lt (Nat.lt_of_lt_of_le (by have := World.block_lt_of_cell? _ _ hw763_2; first | rwa [add_block] at this | exact this) GW764.out) | (rw [add_block]; exact Nat.ne_of_lt (Nat.lt_of_lt_of_le (by have := World.block_lt_of_cell? _ _ hw763_2; first | rwa [add_block] at this | exact this) GW764.out)) | (show (Addr.add _ _).block ≠ _; rw [add_block]; exact Nat.ne_of_lt (Nat.lt_of_lt_of_le (by have := World.block_lt_of_cell? _ _ hw763_2; first | rwa [add_block] at this | exact this) GW764.out)) | (dsimp only; exact Nat.ne_of_lt (Nat.lt_of_lt_of_le (by have := World.block_lt_of_cell? _ _ hw763_2; first | rwa [add_block] at this | exact this) GW764.out))) _).trans (hHeld.2.2.2.2.2))))))⟩ (fun hHeld => ?_)
    clear hK K
    refine one_ (i := 12) (N := none) #[T_,T_,T_,T_,T_,T_,T_,T_,T_,T_,T_,T_,T_] rfl rfl (one_of HT_.out (by kernel_rfl)) (by decide) (fun K hK => ?_)
    have hs13 : w9.cell? ⟨gb765, 0, none⟩ = some (.string (⟨#[]⟩ : ByteArray)) := (blk_cell BK765.out 0).trans rfl
    have hfs13 := blk_frozen BK765.out 0
    have hns13_0 := NB764_765.out
    have hms13_0 := NB765_764.out
    have hs14 : w9.cell? ⟨gb765, 1, none⟩ = some (.int .i64 0) := (blk_cell BK765.out 1).trans rfl
    have hfs14 := blk_frozen BK765.out 1
    have hns14_0 := NB764_765.out
    have hms14_0 := NB765_764.out
    have hs15 : w9.cell? ⟨gb765, 2, none⟩ = some (.int .i64 0) := (blk_cell BK765.out 2).trans rfl
    have hfs15 := blk_frozen BK765.out 2
    have hns15_0 := NB764_765.out
    have hms15_0 := NB765_764.out
    refine skip_ (w1 := ?_) (by rfl) rfl ?_ ?_
    rotate_left
    ·go_simp
     rfl
    refine hK.out _ _ ⟨((cell_far (p := ⟨gb765, _, none⟩) (by first | exact Nat.ne_of_lt (Nat.lt_of_lt_of_le (by have := World.block_lt_of_cell? _ _ hw762_0; first | rwa [add_block] at this | exact this) GW765.out) | (rw [add_block]; exact Nat.ne_of_lt (Nat.lt_of_lt_of_le (by have := World.block_lt_of_cell? _ _ hw762_0; first | rwa [add_block] at this | exact this) GW765.out)) | (show (Addr.add _ _).block ≠ _; rw [add_block]; exact Nat.ne_of_lt (Nat.lt_of_lt_of_le (by have := World.block_lt_of_cell? _ _ hw762_0; first | rwa [add_block] at this | exact this) GW765.out)) | (dsimp only; exact Nat.ne_of_lt (Nat.lt_of_lt_of_le (by have := World.block_lt_of_cell? _ _ hw762_0; first | rwa [add_block] at this | exact this) GW765.out))) _).trans (((cell_far (p := ⟨gb765, _, none⟩) (by first | exact Nat.ne_of_lt (Nat.lt_of_lt_of_le (by have := World.block_lt_of_cell? _ _ hw762_0; first | rwa [add_block] at this | exact this) GW765.out) | (rw [add_block]; exact Nat.ne_of_lt (Nat.lt_of_lt_of_le (by have := World.block_lt_of_cell? _ _ hw762_0; first | rwa [add_block] at this | exact this) GW765.out)) | (show (Addr.add _ _).block ≠ _; rw [add_block]; exact Nat.ne_of_lt (Nat.lt_of_lt_of_le (by have := World.block_lt_of_cell? _ _ hw762_0; first | rwa [add_block] at this | exact this) GW765.out)) | (dsimp only; exact Nat.ne_of_lt (Nat.lt_of_lt_of_le (by have := World.block_lt_of_cell? _ _ hw762_0; first | rwa [add_block] at this | exact this) GW765.out))) _).trans (((cell_far (p := ⟨gb765, _, none⟩) (by first | exact Nat.ne_of_lt (Nat.lt_of_lt_of_le (by have := World.block_lt_of_cell? _ _ hw762_0; first | rwa [add_block] at this | exact this) GW765.out) | (rw [add_block]; exact Nat.ne_of_lt (Nat.lt_of_lt_of_le (by have := World.block_lt_of_cell? _ _ hw762_0; first | rwa [add_block] at this | exact this) GW765.out)) | (show (Addr.add _ _).block ≠ _; rw [add_block]; exact Nat.ne_of_lt (Nat.lt_of_lt_of_le (by have := World.block_lt_of_cell? _ _ hw762_0; first | rwa [add_block] at this | exact this) GW765.out)) | (dsimp only; exact Nat.ne_of_lt (Nat.lt_of_lt_of_le (by have := World.block_lt_of_cell? _ _ hw762_0; first | rwa [add_block] at this | exact this) GW765.out))) _).trans (hHeld.1)))))), ((cell_far (p := ⟨gb765, _, none⟩) (by first | exact Nat.ne_of_lt (Nat.lt_of_lt_of_le (by have := World.block_lt_of_cell? _ _ hw762_1; first | rwa [add_block] at this | exact this) GW765.out) | (rw [add_block]; exact Nat.ne_of_lt (Nat.lt_of_lt_of_le (by have := World.block_lt_of_cell? _ _ hw762_1; first | rwa [add_block] at this | exact this) GW765.out)) | (show (Addr.add _ _).block ≠ _; rw [add_block]; exact Nat.ne_of_lt (Nat.lt_of_lt_of_le (by have := World.block_lt_of_cell? _ _ hw762_1; first | rwa [add_block] at this | exact this) GW765.out)) | (dsimp only; exact Nat.ne_of_lt (Nat.lt_of_lt_of_le (by have := World.block_lt_of_cell? _ _ hw762_1; first | rwa [add_block] at this | exact this) GW765.out))) _).trans (((cell_far (p := ⟨gb765, _, none⟩) (by first | exact Nat.ne_of_lt (Nat.lt_of_lt_of_le (by have := World.block_lt_of_cell? _ _ hw762_1; first | rwa [add_block] at this | exact this) GW765.out) | (rw [add_block]; exact Nat.ne_of_lt (Nat.lt_of_lt_of_le (by have := World.block_lt_of_cell? _ _ hw762_1; first | rwa [add_block] at this | exact this) GW765.out)) | (show (Addr.add _ _).block ≠ _; rw [add_block]; exact Nat.ne_of_lt (Nat.lt_of_lt_of_le (by have := World.block_lt_of_cell? _ _ hw762_1; first | rwa [add_block] at this | exact this) GW765.out)) | (dsimp only; exact Nat.ne_of_lt (Nat.lt_of_lt_of_le (by have := World.block_lt_of_cell? _ _ hw762_1; first | rwa [add_block] at this | exact this) GW765.out))) _).trans (((cell_far (p := ⟨gb765, _, none⟩) (by first | exact Nat.ne_of_lt (Nat.lt_of_lt_of_le (by have := World.block_lt_of_cell? _ _ hw762_1; first | rwa [add_block] at this | exact this) GW765.out) | (rw [add_block]; exact Nat.ne_of_lt (Nat.lt_of_lt_of_le (by have := World.block_lt_of_cell? _ _ hw762_1; first | rwa [add_block] at this | exact this) GW765.out)) | (show (Addr.add _ _).block ≠ _; rw [add_block]; exact Nat.ne_of_lt (Nat.lt_of_lt_of_le (by have := World.block_lt_of_cell? _ _ hw762_1; first | rwa [add_block] at this | exact this) GW765.out)) | (dsimp only; exact Nat.ne_of_lt (Nat.lt_of_lt_of_le (by have := World.block_lt_of_cell? _ _ hw762_1; first | rwa [add_block] at this | exact this) GW765.out))) _).trans (hHeld.2.1)))))), ((cell_far (p := ⟨gb765, _, none⟩) (by first | exact Nat.ne_of_lt (Nat.lt_of_lt_of_le (by have := World.block_lt_of_cell? _ _ hw762_2; first | rwa [add_block] at this | exact this) GW765.out) | (rw [add_block]; exact Nat.ne_of_lt (Nat.lt_of_lt_of_le (by have := World.block_lt_of_cell? _ _ hw762_2; first | rwa [add_block] at this | exact this) GW765.out)) | (show (Addr.add _ _).block ≠ _; rw [add_block]; exact Nat.ne_of_lt (Nat.lt_of_lt_of_le (by have := World.block_lt_of_cell? _ _ hw762_2; first | rwa [add_block] at this | exact this) GW765.out)) | (dsimp only; exact Nat.ne_of_lt (Nat.lt_of_lt_of_le (by have := World.block_lt_of_cell? _ _ hw762_2; first | rwa [add_block] at this | exact this) GW765.out))) _).trans (((cell_far (p := ⟨gb765, _, none⟩) (by first | exact Nat.ne_of_lt (Nat.lt_of_lt_of_le (by have := World.block_lt_of_cell? _ _ hw762_2; first | rwa [add_block] at this | exact this) GW765.out) | (rw [add_block]; exact Nat.ne_of_lt (Nat.lt_of_lt_of_le (by have := World.block_lt_of_cell? _ _ hw762_2; first | rwa [add_block] at this | exact this) GW765.out)) | (show (Addr.add _ _).block ≠ _; rw [add_block]; exact Nat.ne_of_lt (Nat.lt_of_lt_of_le (by have := World.block_lt_of_cell? _ _ hw762_2; first | rwa [add_block] at this | exact this) GW765.out)) | (dsimp only; exact Nat.ne_of_lt (Nat.lt_of_lt_of_le (by have := World.block_lt_of_cell? _ _ hw762_2; first | rwa [add_block] at this | exact this) GW765.out))) _).trans (((cell_far (p := ⟨gb765, _, none⟩) (by first | exact Nat.ne_of_lt (Nat.lt_of_lt_of_le (by have := World.block_lt_of_cell? _ _ hw762_2; first | rwa [add_block] at this | exact this) GW765.out) | (rw [add_block]; exact Nat.ne_of_lt (Nat.lt_of_lt_of_le (by have := World.block_lt_of_cell? _ _ hw762_2; first | rwa [add_block] at this | exact this) GW765.out)) | (show (Addr.add _ _).block ≠ _; rw [add_block]; exact Nat.ne_of_lt (Nat.lt_of_lt_of_le (by have := World.block_lt_of_cell? _ _ hw762_2; first | rwa [add_block] at this | exact this) GW765.out)) | (dsimp only; exact Nat.ne_of_lt (Nat.lt_of_lt_of_le (by have := World.block_lt_of_cell? _ _ hw762_2; first | rwa [add_block] at this | exact this) GW765.out))) _).trans (hHeld.2.2.1)))))), ((cell_far (p := ⟨gb765, _, none⟩) (by first | exact Nat.ne_of_lt (Nat.lt_of_lt_of_le (by have := World.block_lt_of_cell? _ _ hw763_0; first | rwa [add_block] at this | exact this) GW765.out) | (rw [add_block]; exact Nat.ne_of_lt (Nat.lt_of_lt_of_le (by have := World.block_lt_of_cell? _ _ hw763_0; first | rwa [add_block] at this | exact this) GW765.out)) | (show (Addr.add _ _).block ≠ _; rw [add_block]; exact Nat.ne_of_lt (Nat.lt_of_lt_of_le (by have := World.block_lt_of_cell? _ _ hw763_0; first | rwa [add_block] at this | exact this) GW765.out)) | (dsimp only; exact Nat.ne_of_lt (Nat.lt_of_lt_of_le (by have := World.block_lt_of_cell? _ _ hw763_0; first | rwa [add_block] at this | exact this) GW765.out))) _).trans (((cell_far (p := ⟨gb765, _, none⟩) (by first | exact Nat.ne_of_lt (Nat.lt_of_lt_of_le (by have := World.block_lt_of_cell? _ _ hw763_0; first | rwa [add_block] at this | exact this) GW765.out) | (rw [add_block]; exact Nat.ne_of_lt (Nat.lt_of_lt_of_le (by have := World.block_lt_of_cell? _ _ hw763_0; first | rwa [add_block] at this | exact this) GW765.out)) | (show (Addr.add _ _).block ≠ _; rw [add_block]; exact Nat.ne_of_lt (Nat.lt_of_lt_of_le (by have := World.block_lt_of_cell? _ _ hw763_0; first | rwa [add_block] at this | exact this) GW765.out)) | (dsimp only; exact Nat.ne_of_lt (Nat.lt_of_lt_of_le (by have := World.block_lt_of_cell? _ _ hw763_0; first | rwa [add_block] at this | exact this) GW765.out))) _).trans (((cell_far (p := ⟨gb765, _, none⟩) (by first | exact Nat.ne_of_lt (Nat.lt_of_lt_of_le (by have := World.block_lt_of_cell? _ _ hw763_0; first | rwa [add_block] at this | exact this) GW765.out) | (rw [add_block]; exact Nat.ne_of_lt (Nat.lt_of_lt_of_le (by have := World.block_lt_of_cell? _ _ hw763_0; first | rwa [add_block] at this | exact this) GW765.out)) | (show (Addr.add _ _).block ≠ _; rw [add_block]; exact Nat.ne_of_lt (Nat.lt_of_lt_of_le (by have := World.block_lt_of_cell? _ _ hw763_0; first | rwa [add_block] at this | exact this) GW765.out)) | (dsimp only; exact Nat.ne_of_lt (Nat.lt_of_lt_of_le (by have := World.block_lt_of_cell? _ _ hw763_0; first | rwa [add_block] at this | exact this) GW765.out))) _).trans (hHeld.2.2.2.1)))))), ((cell_far (p := ⟨gb765, _, none⟩) (by first | exact Nat.ne_of_lt (Nat.lt_of_lt_of_le (by have := World.block_lt_of_cell? _ _ hw763_1; first | rwa [add_block] at this | exact this) GW765.out) | (rw [add_block]; exact Nat.ne_of_lt (Nat.lt_of_lt_of_le (by have := World.block_lt_of_cell? _ _ hw763_1; first | rwa [add_block] at this | exact this) GW765.out)) | (show (Addr.add _ _).block ≠ _; rw [add_block]; exact Nat.ne_of_lt (Nat.lt_of_lt_of_le (by have := World.block_lt_of_cell? _ _ hw763_1; first | rwa [add_block] at this | exact this) GW765.out)) | (dsimp only; exact Nat.ne_of_lt (Nat.lt_of_lt_of_le (by have := World.block_lt_of_cell? _ _ hw763_1; first | rwa [add_block] at this | exact this) GW765.out))) _).trans (((cell_far (p := ⟨gb765, _, none⟩) (by first | exact Nat.ne_of_lt (Nat.lt_of_lt_of_le (by have := World.block_lt_of_cell? _ _ hw763_1; first | rwa [add_block] at this | exact this) GW765.out) | (rw [add_block]; exact Nat.ne_of_lt (Nat.lt_of_lt_of_le (by have := World.block_lt_of_cell? _ _ hw763_1; first | rwa [add_block] at this | exact this) GW765.out)) | (show (Addr.add _ _).block ≠ _; rw [add_block]; exact Nat.ne_of_lt (Nat.lt_of_lt_of_le (by have := World.block_lt_of_cell? _ _ hw763_1; first | rwa [add_block] at this | exact this) GW765.out)) | (dsimp only; exact Nat.ne_of_lt (Nat.lt_of_lt_of_le (by have := World.block_lt_of_cell? _ _ hw763_1; first | rwa [add_block] at this | exact this) GW765.out))) _).trans (((cell_far (p := ⟨gb765, _, none⟩) (by first | exact Nat.ne_of_lt (Nat.lt_of_lt_of_le (by have := World.block_lt_of_cell? _ _ hw763_1; first | rwa [add_block] at this | exact this) GW765.out) | (rw [add_block]; exact Nat.ne_of_lt (Nat.lt_of_lt_of_le (by have := World.block_lt_of_cell? _ _ hw763_1; first | rwa [add_block] at this | exact this) GW765.out)) | (show (Addr.add _ _).block ≠ _; rw [add_block]; exact Nat.ne_of_lt (Nat.lt_of_lt_of_le (by have := World.block_lt_of_cell? _ _ hw763_1; first | rwa [add_block] at this | exact this) GW765.out)) | (dsimp only; exact Nat.ne_of_lt (Nat.lt_of_lt_of_le (by have := World.block_lt_of_cell? _ _ hw763_1; first | rwa [add_block] at this | exact this) GW765.out))) _).trans (hHeld.2.2.2.2.1)))))), ((cell_far (p := ⟨gb765, _, none⟩) (by first | exact Nat.ne_of_lt (Nat.lt_of_lt_of_le (by have := World.block_lt_of_cell? _ _ hw763_2; first | rwa [add_block] at this | exact this) GW765.out) | (rw [add_block]; exact Nat.ne_of_lt (Nat.lt_of_lt_of_le (by have := World.block_lt_of_cell? _ _ hw763_2; first | rwa [add_block] at this | exact this) GW765.out)) | (show (Addr.add _ _).block ≠ _; rw [add_block]; exact Nat.ne_of_lt (Nat.lt_of_lt_of_le (by have := World.block_lt_of_cell? _ _ hw763_2; first | rwa [add_block] at this | exact this) GW765.out)) | (dsimp only; exact Nat.ne_of_lt (Nat.lt_of_lt_of_le (by have := World.block_lt_of_cell? _ _ hw763_2; first | rwa [add_block] at this | exact this) GW765.out))) _).trans (((cell_far (p := ⟨gb765, _, none⟩) (by first | exact Nat.ne_of_lt (Nat.lt_of_lt_of_le (by have := World.block_lt_of_cell? _ _ hw763_2; first | rwa [add_block] at this | exact this) GW765.out) | (rw [add_block]; exact Nat.ne_of_lt (Nat.lt_of_lt_of_le (by have := World.block_lt_of_cell? _ _ hw763_2; first | rwa [add_block] at this | exact this) GW765.out)) | (show (Addr.add _ _).block ≠ _; rw [add_block]; exact Nat.ne_of_lt (Nat.lt_of_lt_of_le (by have := World.block_lt_of_cell? _ _ hw763_2; first | rwa [add_block] at this | exact this) GW765.out)) | (dsimp only; exact Nat.ne_of_lt (Nat.lt_of_lt_of_le (by have := World.block_lt_of_cell? _ _ hw763_2; first | rwa [add_block] at this | exact this) GW765.out))) _).trans (((cell_far (p := ⟨gb765, _, none⟩) (by first | exact Nat.ne_of_lt (Nat.lt_of_lt_of_le (by have := World.block_lt_of_cell? _ _ hw763_2; first | rwa [add_block] at this | exact this) GW765.out) | (rw [add_block]; exact Nat.ne_of_lt (Nat.lt_of_lt_of_le (by have := World.block_lt_of_cell? _ _ hw763_2; first | rwa [add_block] at this | exact this) GW765.out)) | (show (Addr.add _ _).block ≠ _; rw [add_block]; exact Nat.ne_of_lt (Nat.lt_of_lt_of_le (by have := World.block_lt_of_cell? _ _ hw763_2; first | rwa [add_block] at this | exact this) GW765.out)) | (dsimp only; exact Nat.ne_of_lt (Nat.lt_of_lt_of_le (by have := World.block_lt_of_cell? _ _ hw763_2; first | rwa [add_block] at this | exact this) GW765.out))) _).trans (hHeld.2.2.2.2.2))))))⟩ (fun hHeld => ?_)
    clear hK K
    refine done_ (done_of HT_.out (by kernel_rfl)) ?_
    try go_wp2
    have n0_ : Aside0 (((((((w9.setCell ⟨gb764, 0, none⟩ (.string ((rd_T53 l0 0).f0))).setCell ⟨gb764, 1, none⟩ (.int .i64 ((rd_T53 l0 0).f1))).setCell ⟨gb764, 2, none⟩ (.int .i64 ((rd_T53 l0 0).f2))).setCell ⟨gb765, 0, none⟩ (.string ((rd_T53 l0 (ji3)).f0))).setCell ⟨gb765, 1, none⟩ (.int .i64 ((rd_T53 l0 (ji3)).f1))).setCell ⟨gb765, 2, none⟩ (.int .i64 ((rd_T53 l0 (ji3)).f2))).heap[gb764]? = some (.cells #[.string ((rd_T53 l0 0).f0), .int .i64 ((rd_T53 l0 0).f1), .int .i64 ((rd_T53 l0 0).f2)] 53 (0, 0))) := ⟨by (with_reducible repeat (first | refine blk_drewN ?_ _ | refine blk_drew ?_ | refine blk_alloc ?_ _)); refine blk_far ?_ NB764_765.out _; (with_reducible repeat (first | refine blk_drewN ?_ _ | refine blk_drew ?_ | refine blk_alloc ?_ _)); refine blk_far ?_ NB764_765.out _; (with_reducible repeat (first | refine blk_drewN ?_ _ | refine blk_drew ?_ | refine blk_alloc ?_ _)); refine blk_far ?_ NB764_765.out _; (with_reducible repeat (first | refine blk_drewN ?_ _ | refine blk_drew ?_ | refine blk_alloc ?_ _)); refine blk_put (cs := #[.string ((rd_T53 l0 0).f0), .int .i64 ((rd_T53 l0 0).f1), .int .i64 0]) ?_ 2 _ rfl; (with_reducible repeat (first | refine blk_drewN ?_ _ | refine blk_drew ?_ | refine blk_alloc ?_ _)); refine blk_put (cs := #[.string ((rd_T53 l0 0).f0), .int .i64 0, .int .i64 0]) ?_ 1 _ rfl; (with_reducible repeat (first | refine blk_drewN ?_ _ | refine blk_drew ?_ | refine blk_alloc ?_ _)); refine blk_put (cs := #[.string (⟨#[]⟩ : ByteArray), .int .i64 0, .int .i64 0]) ?_ 0 _ rfl; (with_reducible repeat (first | refine blk_drewN ?_ _ | refine blk_drew ?_ | refine blk_alloc ?_ _)); exact BK764.out⟩
    have n1_ : Aside0 (((((((w9.setCell ⟨gb764, 0, none⟩ (.string ((rd_T53 l0 0).f0))).setCell ⟨gb764, 1, none⟩ (.int .i64 ((rd_T53 l0 0).f1))).setCell ⟨gb764, 2, none⟩ (.int .i64 ((rd_T53 l0 0).f2))).setCell ⟨gb765, 0, none⟩ (.string ((rd_T53 l0 (ji3)).f0))).setCell ⟨gb765, 1, none⟩ (.int .i64 ((rd_T53 l0 (ji3)).f1))).setCell ⟨gb765, 2, none⟩ (.int .i64 ((rd_T53 l0 (ji3)).f2))).heap[gb765]? = some (.cells #[.string ((rd_T53 l0 (ji3)).f0), .int .i64 ((rd_T53 l0 (ji3)).f1), .int .i64 ((rd_T53 l0 (ji3)).f2)] 53 (0, 0))) := ⟨by (with_reducible repeat (first | refine blk_drewN ?_ _ | refine blk_drew ?_ | refine blk_alloc ?_ _)); refine blk_put (cs := #[.string ((rd_T53 l0 (ji3)).f0), .int .i64 ((rd_T53 l0 (ji3)).f1), .int .i64 0]) ?_ 2 _ rfl; (with_reducible repeat (first | refine blk_drewN ?_ _ | refine blk_drew ?_ | refine blk_alloc ?_ _)); refine blk_put (cs := #[.string ((rd_T53 l0 (ji3)).f0), .int .i64 0, .int .i64 0]) ?_ 1 _ rfl; (with_reducible repeat (first | refine blk_drewN ?_ _ | refine blk_drew ?_ | refine blk_alloc ?_ _)); refine blk_put (cs := #[.string (⟨#[]⟩ : ByteArray), .int .i64 0, .int .i64 0]) ?_ 0 _ rfl; (with_reducible repeat (first | refine blk_drewN ?_ _ | refine blk_drew ?_ | refine blk_alloc ?_ _)); refine blk_far ?_ NB765_764.out _; (with_reducible repeat (first | refine blk_drewN ?_ _ | refine blk_drew ?_ | refine blk_alloc ?_ _)); refine blk_far ?_ NB765_764.out _; (with_reducible repeat (first | refine blk_drewN ?_ _ | refine blk_drew ?_ | refine blk_alloc ?_ _)); refine blk_far ?_ NB765_764.out _; (with_reducible repeat (first | refine blk_drewN ?_ _ | refine blk_drew ?_ | refine blk_alloc ?_ _)); exact BK765.out⟩
    have n2_ : Aside0 (Below w.heap.size w ((((((w9.setCell ⟨gb764, 0, none⟩ (.string ((rd_T53 l0 0).f0))).setCell ⟨gb764, 1, none⟩ (.int .i64 ((rd_T53 l0 0).f1))).setCell ⟨gb764, 2, none⟩ (.int .i64 ((rd_T53 l0 0).f2))).setCell ⟨gb765, 0, none⟩ (.string ((rd_T53 l0 (ji3)).f0))).setCell ⟨gb765, 1, none⟩ (.int .i64 ((rd_T53 l0 (ji3)).f1))).setCell ⟨gb765, 2, none⟩ (.int .i64 ((rd_T53 l0 (ji3)).f2)))) := ⟨(hg2_ GE764 GE765)⟩
    (try clear BK764)
    (try clear BK765)
    (try clear HB)
    generalize ((((((w9.setCell ⟨gb764, 0, none⟩ (.string ((rd_T53 l0 0).f0))).setCell ⟨gb764, 1, none⟩ (.int .i64 ((rd_T53 l0 0).f1))).setCell ⟨gb764, 2, none⟩ (.int .i64 ((rd_T53 l0 0).f2))).setCell ⟨gb765, 0, none⟩ (.string ((rd_T53 l0 (ji3)).f0))).setCell ⟨gb765, 1, none⟩ (.int .i64 ((rd_T53 l0 (ji3)).f1))).setCell ⟨gb765, 2, none⟩ (.int .i64 ((rd_T53 l0 (ji3)).f2))) = w16 at n0_ n1_ n2_ ⊢
    have BK764 := n0_
    have BK765 := n1_
    have HB := n2_
    clear n0_ n1_ n2_
    have n0_ := Aside0.mk (blk_drew BK764.out)
    have n1_ := Aside0.mk (blk_drew BK765.out)
    have n2_ := Aside0.mk (below_drew1 HB.out)
    clear BK764
    clear BK765
    clear HB
    have BK764 := n0_
    have BK765 := n1_
    have HB := n2_
    clear n0_ n1_ n2_
    refine start_ (n := 12) (S := fun w' => w'.cell? ⟨gb765, 0, none⟩ = some (.string ((rd_T53 l0 (ji3)).f0)) ∧ w'.cell? ⟨gb765, 1, none⟩ = some (.int .i64 ((rd_T53 l0 (ji3)).f1)) ∧ w'.cell? ⟨gb765, 2, none⟩ = some (.int .i64 ((rd_T53 l0 (ji3)).f2)) ∧ w'.cell? ⟨gb764, 0, none⟩ = some (.string ((rd_T53 l0 0).f0)) ∧ w'.cell? ⟨gb764, 1, none⟩ = some (.int .i64 ((rd_T53 l0 0).f1)) ∧ w'.cell? ⟨gb764, 2, none⟩ = some (.int .i64 ((rd_T53 l0 0).f2))) (ds := []) #[F_,F_,F_,F_,F_,F_,F_,F_,F_,F_,F_,F_] (by kernel_rfl) rfl rfl ⟨(blk_cell BK765.out 0).trans rfl, (blk_cell BK765.out 1).trans rfl, (blk_cell BK765.out 2).trans rfl, (blk_cell BK764.out 0).trans rfl, (blk_cell BK764.out 1).trans rfl, (blk_cell BK764.out 2).trans rfl⟩ (fun hHeld => ?_); refine with_tabW impl_foundOf.tab2 impl_foundOf.bits2 (fun HT_ HW_ => ?_)
    generalize w16.drew = w17 at BK764 BK765 HB hHeld ⊢
    refine pu (i := 0) (N := some 15) #[T_,F_,F_,F_,F_,F_,F_,F_,F_,F_,F_,F_] HT_ ?_
    refine pu (i := 2) (N := some 17) #[T_,F_,T_,F_,F_,F_,F_,F_,F_,F_,F_,F_] HT_ ?_
    refine pu (i := 5) (N := some 20) #[T_,F_,T_,F_,F_,T_,F_,F_,F_,F_,F_,F_] HT_ ?_
    refine pu (i := 7) (N := some 22) #[T_,F_,T_,F_,F_,T_,F_,T_,F_,F_,F_,F_] HT_ ?_
    refine take_ (i := 1) (N := some 16) (v := ?_) (a' := ?_) #[T_,T_,T_,F_,F_,T_,F_,T_,F_,F_,F_,F_] rfl rfl (take_ofW HT_.out HW_.out (by kernel_rfl)) (fun _ _ _ h => h) (Or.inl ⟨by rfl, ?_⟩) hHeld ?_ ?_
    rotate_left
    ·rintro w' ⟨s0, s1, s2, s3, s4, s5⟩
     go_simp
     with_reducible rfl
    rotate_left
    ·simp only [Act.put, sT_, s0_, sS_, i64_w, i32_w]
     rfl
    refine take_ (i := 3) (N := some 18) (v := ?_) (a' := ?_) #[T_,T_,T_,T_,F_,T_,F_,T_,F_,F_,F_,F_] rfl rfl (take_ofW HT_.out HW_.out (by kernel_rfl)) (fun _ _ _ h => h) (Or.inl ⟨by rfl, ?_⟩) hHeld ?_ ?_
    rotate_left
    ·rintro w' ⟨s0, s1, s2, s3, s4, s5⟩
     go_simp
     with_reducible rfl
    rotate_left
    ·simp only [Act.put, sT_, s0_, sS_, i64_w, i32_w]
     rfl
    refine pu (i := 4) (N := some 19) #[T_,T_,T_,T_,T_,T_,F_,T_,F_,F_,F_,F_] HT_ ?_
    refine pu (i := 10) (N := some 2) #[T_,T_,T_,T_,T_,T_,F_,T_,F_,F_,T_,F_] HT_ ?_
    refine take_ (i := 6) (N := some 21) (v := ?_) (a' := ?_) #[T_,T_,T_,T_,T_,T_,T_,T_,F_,F_,T_,F_] rfl rfl (take_ofW HT_.out HW_.out (by kernel_rfl)) (fun _ _ _ h => h) (Or.inl ⟨by rfl, ?_⟩) hHeld ?_ ?_
    rotate_left
    ·rintro w' ⟨s0, s1, s2, s3, s4, s5⟩
     go_simp
     with_reducible rfl
    rotate_left
    ·simp only [Act.put, sT_, s0_, sS_, i64_w, i32_w]
     rfl
    refine take_ (i := 8) (N := some 23) (v := ?_) (a' := ?_) #[T_,T_,T_,T_,T_,T_,T_,T_,T_,F_,T_,F_] rfl rfl (take_ofW HT_.out HW_.out (by kernel_rfl)) (fun _ _ _ h => h) (Or.inl ⟨by rfl, ?_⟩) hHeld ?_ ?_
    rotate_left
    ·rintro w' ⟨s0, s1, s2, s3, s4, s5⟩
     go_simp
     with_reducible rfl
    rotate_left
    ·simp only [Act.put, sT_, s0_, sS_, i64_w, i32_w]
     rfl
    refine pu (i := 9) (N := some 24) #[T_,T_,T_,T_,T_,T_,T_,T_,T_,T_,T_,F_] HT_ ?_
    refine pu (i := 11) (N := some 3) #[T_,T_,T_,T_,T_,T_,T_,T_,T_,T_,T_,T_] HT_ ?_
    refine done_ (done_of HT_.out (by kernel_rfl)) ?_
    try go_wp2
    go_ret2
    exact ⟨by first | rfl | (simp [errW_none, errW_some] <;> rfl) | (simp only [← hji3]; first | rfl | (simp [errW_none, errW_some] <;> rfl)) | (simp [*, errW_none, errW_some] <;> rfl), (hg2_ GE764 GE765)⟩
   ·rw [if_neg c5] at H
    exact absurd H (by simp)
  ·rw [if_neg c4] at H
   exact absurd H (by simp)
 ·rw [if_neg c2] at H
  exact absurd H (by simp)

end Go.Proofs.Ytdbigcfpinpnpaa.P
