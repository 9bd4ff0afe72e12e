/- Texts of this claim, packed: Px10, Base, Names, Dec. -/
import Derived.Lib.Bytes
import Derived.Lib.ItoaNum
import Derived.Test.YtfenjlkopofopaaDoorZYtfenjlkopofopaaDoorCardFnExactReadCoil5
section
-- Written by gprint.py (own program, over the printer of the kit) out of the translation. Lean checks it.
namespace Go.Proofs.YtfenjlkopofopaaDoor.P
open Go.RowKit Go.Proofs.YtfenjlkopofopaaDoorW.PrintWords Go.Proofs.YtfenjlkopofopaaDoorW.PrintLast Go.Proofs.YtfenjlkopofopaaDoorW.PrintMore Go.Proofs.YtfenjlkopofopaaDoorW.Pk
open Bool renaming true → T_, false → F_
open List renaming setIfInBounds_toArray → sT_, set_cons_zero → s0_, set_cons_succ → sS_
attribute [local go_sem] max2_int min2_int max_two min_two max_three min_three max_four min_four   -- for this text's walks alone
set_option linter.unusedVariables false
set_option linter.unusedSimpArgs false

/-! ### laws_eqCoil: function 10 -/
def laws_eqCoil.f (a0_0 : ByteArray) (a0_1 : Int) (a1_0 : ByteArray) (a1_1 : Int) : Option (Bool) := if a0_0.toList = a1_0.toList then (if a0_1 = a1_1 then (some true) else (some false)) else (some false)
set_option maxHeartbeats 8000000 in
set_option maxRecDepth 100000 in
theorem laws_eqCoil.calls (a0_0 : ByteArray) (a0_1 : Int) (a1_0 : ByteArray) (a1_1 : Int) (r : Bool) (w : World) (h : laws_eqCoil.f a0_0 a0_1 a1_0 a1_1 = some r) :
  Calls Tryd.prog 10 #[.agg #[.string a0_0, .int .i64 a0_1], .agg #[.string a1_0, .int .i64 a1_1]] w fun e w' => e = .returned (.bool r) ∧ Below w.heap.size w w' := by
 have hu23 := Tryd.underlying23
 have HB := Aside0.mk (Below.refl w.heap.size w)
 have H : (if a0_0.toList = a1_0.toList then (if a0_1 = a1_1 then (some true) else (some false)) else (some false)) = some r := h
 clear h
 by_cases c3 : a0_0.toList = a1_0.toList
 ·rw [if_pos c3] at H
  have c3b0 : (a0_0.toList == a1_0.toList) = true := beq_iff_eq.mpr c3
  have c3b1 : (a0_0.toList != a1_0.toList) = false := bne_eq_false_iff_eq.mpr c3
  clear c3
  by_cases c4 : a0_1 = a1_1
  ·rw [if_pos c4] at H
   have c4b0 : (a0_1 == a1_1) = true := beq_iff_eq.mpr c4
   have c4b1 : (a0_1 != a1_1) = false := bne_eq_false_iff_eq.mpr c4
   clear c4
   obtain rfl := Option.some.inj H
   go_enter Tryd.func10, Tryd.ntmps10
   go_wp2_with (first | ((with_reducible refine gate_dst (N := 2) rfl ?_); refine box_event ?hg (N := 2) ?hd (cs := #[.string a0_0, .int .i64 a0_1]) (t := 23) ?hr ?_; (case hd => rfl); (case hg => rfl); (case hr => first | (go_simp; done) | (go_simp; rfl)); intro gb213 hg w5 hbox hb; have n0_ := Aside0.mk (below_step hb_ hb); have n1_ := Aside0.mk (hbox); have n2_ := Aside0.mk ((by rw [hg]; exact (below_size hb_) : w.heap.size ≤ gb213)); have n3_ := Aside0.mk ((by rw [hg]; exact (below_size hb_) : w.heap.size ≤ gb213)); clear HB; have HB := n0_; have BK213 := n1_; have GW213 := n2_; have GE213 := n3_; clear n0_ n1_ n2_ n3_; clear hb hbox hg) | ((with_reducible refine gate_dst (N := 3) rfl ?_); refine box_event ?hg (N := 3) ?hd (cs := #[.string a1_0, .int .i64 a1_1]) (t := 23) ?hr ?_; (case hd => rfl); (case hg => rfl); (case hr => first | (go_simp; done) | (go_simp; rfl)); intro gb214 hg w6 hbox hb; have n0_ := Aside0.mk (blk_below (g := gb213) (o := .cells #[.string a0_0, .int .i64 a0_1] 23 (0, 0)) (bk_ BK213) hb); have n1_ := Aside0.mk (below_step (hg_ GE213) hb); have n2_ := Aside0.mk (hbox); have n3_ := Aside0.mk ((by rw [hg]; exact (below_size (hg_ GE213)) : w.heap.size ≤ gb214)); have n4_ := Aside0.mk ((by rw [hg]; exact (below_size (hg_ GE213)) : w.heap.size ≤ gb214)); have n5_ := Aside0.mk ((by rw [hg]; exact Nat.ne_of_lt (blk_lt (g := gb213) (o := .cells #[.string a0_0, .int .i64 a0_1] 23 (0, 0)) (bk_ BK213)) : gb213 ≠ gb214)); have n6_ := Aside0.mk ((by rw [hg]; exact Nat.ne_of_gt (blk_lt (g := gb213) (o := .cells #[.string a0_0, .int .i64 a0_1] 23 (0, 0)) (bk_ BK213)) : gb214 ≠ gb213)); clear BK213; clear HB; have BK213 := n0_; have HB := n1_; have BK214 := n2_; have GW214 := n3_; have GE214 := n4_; have NB213_214 := n5_; have NB214_213 := n6_; clear n0_ n1_ n2_ n3_ n4_ n5_ n6_; clear hb hbox hg; have hnb7 := NB213_214.out; have hnc7 := NB214_213.out; have hcz8_0 : w6.cell? ⟨gb213, 0, none⟩ = some (.string a0_0) := (blk_cell BK213.out 0).trans rfl; have hcz8_1 : w6.cell? ⟨gb213, 1, none⟩ = some (.int .i64 a0_1) := (blk_cell BK213.out 1).trans rfl; have hfz8_0 := blk_frozen BK213.out 0; have hfz8_1 := blk_frozen BK213.out 1; have hcz9_0 : w6.cell? ⟨gb214, 0, none⟩ = some (.string a1_0) := (blk_cell BK214.out 0).trans rfl; have hcz9_1 : w6.cell? ⟨gb214, 1, none⟩ = some (.int .i64 a1_1) := (blk_cell BK214.out 1).trans rfl; have hfz9_0 := blk_frozen BK214.out 0; have hfz9_1 := blk_frozen BK214.out 1))
   go_ret
   exact ⟨ew_, (hg2_ GE213 GE214)⟩
  ·rw [if_neg c4] at H
   have c4b0 : (a0_1 == a1_1) = false := beq_eq_false_iff_ne.mpr c4
   have c4b1 : (a0_1 != a1_1) = true := bne_iff_ne.mpr c4
   obtain rfl := Option.some.inj H
   go_enter Tryd.func10, Tryd.ntmps10
   go_wp2_with (first | ((with_reducible refine gate_dst (N := 2) rfl ?_); refine box_event ?hg (N := 2) ?hd (cs := #[.string a0_0, .int .i64 a0_1]) (t := 23) ?hr ?_; (case hd => rfl); (case hg => rfl); (case hr => first | (go_simp; done) | (go_simp; rfl)); intro gb213 hg w10 hbox hb; have n0_ := Aside0.mk (below_step hb_ hb); have n1_ := Aside0.mk (hbox); have n2_ := Aside0.mk ((by rw [hg]; exact (below_size hb_) : w.heap.size ≤ gb213)); have n3_ := Aside0.mk ((by rw [hg]; exact (below_size hb_) : w.heap.size ≤ gb213)); clear HB; have HB := n0_; have BK213 := n1_; have GW213 := n2_; have GE213 := n3_; clear n0_ n1_ n2_ n3_; clear hb hbox hg) | ((with_reducible refine gate_dst (N := 3) rfl ?_); refine box_event ?hg (N := 3) ?hd (cs := #[.string a1_0, .int .i64 a1_1]) (t := 23) ?hr ?_; (case hd => rfl); (case hg => rfl); (case hr => first | (go_simp; done) | (go_simp; rfl)); intro gb214 hg w11 hbox hb; have n0_ := Aside0.mk (blk_below (g := gb213) (o := .cells #[.string a0_0, .int .i64 a0_1] 23 (0, 0)) (bk_ BK213) hb); have n1_ := Aside0.mk (below_step (hg_ GE213) hb); have n2_ := Aside0.mk (hbox); have n3_ := Aside0.mk ((by rw [hg]; exact (below_size (hg_ GE213)) : w.heap.size ≤ gb214)); have n4_ := Aside0.mk ((by rw [hg]; exact (below_size (hg_ GE213)) : w.heap.size ≤ gb214)); have n5_ := Aside0.mk ((by rw [hg]; exact Nat.ne_of_lt (blk_lt (g := gb213) (o := .cells #[.string a0_0, .int .i64 a0_1] 23 (0, 0)) (bk_ BK213)) : gb213 ≠ gb214)); have n6_ := Aside0.mk ((by rw [hg]; exact Nat.ne_of_gt (blk_lt (g := gb213) (o := .cells #[.string a0_0, .int .i64 a0_1] 23 (0, 0)) (bk_ BK213)) : gb214 ≠ gb213)); clear BK213; clear HB; have BK213 := n0_; have HB := n1_; have BK214 := n2_; have GW214 := n3_; have GE214 := n4_; have NB213_214 := n5_; have NB214_213 := n6_; clear n0_ n1_ n2_ n3_ n4_ n5_ n6_; clear hb hbox hg; have hnb12 := NB213_214.out; have hnc12 := NB214_213.out; have hcz13_0 : w11.cell? ⟨gb213, 0, none⟩ = some (.string a0_0) := (blk_cell BK213.out 0).trans rfl; have hcz13_1 : w11.cell? ⟨gb213, 1, none⟩ = some (.int .i64 a0_1) := (blk_cell BK213.out 1).trans rfl; have hfz13_0 := blk_frozen BK213.out 0; have hfz13_1 := blk_frozen BK213.out 1; have hcz14_0 : w11.cell? ⟨gb214, 0, none⟩ = some (.string a1_0) := (blk_cell BK214.out 0).trans rfl; have hcz14_1 : w11.cell? ⟨gb214, 1, none⟩ = some (.int .i64 a1_1) := (blk_cell BK214.out 1).trans rfl; have hfz14_0 := blk_frozen BK214.out 0; have hfz14_1 := blk_frozen BK214.out 1))
   go_ret
   exact ⟨ew_, (hg2_ GE213 GE214)⟩
 ·rw [if_neg c3] at H
  have c3b0 : (a0_0.toList == a1_0.toList) = false := beq_eq_false_iff_ne.mpr c3
  have c3b1 : (a0_0.toList != a1_0.toList) = true := bne_iff_ne.mpr c3
  obtain rfl := Option.some.inj H
  go_enter Tryd.func10, Tryd.ntmps10
  go_wp2_with (first | ((with_reducible refine gate_dst (N := 2) rfl ?_); refine box_event ?hg (N := 2) ?hd (cs := #[.string a0_0, .int .i64 a0_1]) (t := 23) ?hr ?_; (case hd => rfl); (case hg => rfl); (case hr => first | (go_simp; done) | (go_simp; rfl)); intro gb213 hg w15 hbox hb; have n0_ := Aside0.mk (below_step hb_ hb); have n1_ := Aside0.mk (hbox); have n2_ := Aside0.mk ((by rw [hg]; exact (below_size hb_) : w.heap.size ≤ gb213)); have n3_ := Aside0.mk ((by rw [hg]; exact (below_size hb_) : w.heap.size ≤ gb213)); clear HB; have HB := n0_; have BK213 := n1_; have GW213 := n2_; have GE213 := n3_; clear n0_ n1_ n2_ n3_; clear hb hbox hg) | ((with_reducible refine gate_dst (N := 3) rfl ?_); refine box_event ?hg (N := 3) ?hd (cs := #[.string a1_0, .int .i64 a1_1]) (t := 23) ?hr ?_; (case hd => rfl); (case hg => rfl); (case hr => first | (go_simp; done) | (go_simp; rfl)); intro gb214 hg w16 hbox hb; have n0_ := Aside0.mk (blk_below (g := gb213) (o := .cells #[.string a0_0, .int .i64 a0_1] 23 (0, 0)) (bk_ BK213) hb); have n1_ := Aside0.mk (below_step (hg_ GE213) hb); have n2_ := Aside0.mk (hbox); have n3_ := Aside0.mk ((by rw [hg]; exact (below_size (hg_ GE213)) : w.heap.size ≤ gb214)); have n4_ := Aside0.mk ((by rw [hg]; exact (below_size (hg_ GE213)) : w.heap.size ≤ gb214)); have n5_ := Aside0.mk ((by rw [hg]; exact Nat.ne_of_lt (blk_lt (g := gb213) (o := .cells #[.string a0_0, .int .i64 a0_1] 23 (0, 0)) (bk_ BK213)) : gb213 ≠ gb214)); have n6_ := Aside0.mk ((by rw [hg]; exact Nat.ne_of_gt (blk_lt (g := gb213) (o := .cells #[.string a0_0, .int .i64 a0_1] 23 (0, 0)) (bk_ BK213)) : gb214 ≠ gb213)); clear BK213; clear HB; have BK213 := n0_; have HB := n1_; have BK214 := n2_; have GW214 := n3_; have GE214 := n4_; have NB213_214 := n5_; have NB214_213 := n6_; clear n0_ n1_ n2_ n3_ n4_ n5_ n6_; clear hb hbox hg; have hnb17 := NB213_214.out; have hnc17 := NB214_213.out; have hcz18_0 : w16.cell? ⟨gb213, 0, none⟩ = some (.string a0_0) := (blk_cell BK213.out 0).trans rfl; have hcz18_1 : w16.cell? ⟨gb213, 1, none⟩ = some (.int .i64 a0_1) := (blk_cell BK213.out 1).trans rfl; have hfz18_0 := blk_frozen BK213.out 0; have hfz18_1 := blk_frozen BK213.out 1; have hcz19_0 : w16.cell? ⟨gb214, 0, none⟩ = some (.string a1_0) := (blk_cell BK214.out 0).trans rfl; have hcz19_1 : w16.cell? ⟨gb214, 1, none⟩ = some (.int .i64 a1_1) := (blk_cell BK214.out 1).trans rfl; have hfz19_0 := blk_frozen BK214.out 0; have hfz19_1 := blk_frozen BK214.out 1))
  go_ret
  exact ⟨ew_, (hg2_ GE213 GE214)⟩

/-! ### laws_FnExactReadCoil: function 3 -/
def laws_FnExactReadCoil.f (k : Nat) (a0 : ByteArray) : Option (Bool) := if (a0.size : Int) > 1048576 then (some true) else ((spec_ReadCoil.f k a0).bind fun bt215 => ((impl_ReadCoil.f k a0).bind fun bt219 => ((laws_eqCoil.f bt219.1 bt219.2.1 bt215.1 bt215.2.1).bind fun t223 => (if t223 = true then (if (bt219.2.2 != bt215.2.2) = true then (some false) else (some true)) else (some false)))))
set_option maxHeartbeats 8000000 in
set_option maxRecDepth 100000 in
theorem laws_FnExactReadCoil.calls (k : Nat) (a0 : ByteArray) (r : Bool) (w : World) (hT : TB w) (hU : TU w) (h : laws_FnExactReadCoil.f k a0 = some r) :
  Calls Tryd.prog 3 #[.string a0] w fun e w' => e = .returned (.bool r) ∧ Below w.heap.size w w' := by
 have hu23 := Tryd.underlying23
 have HT := Aside0.mk hT
 clear hT
 have HU := Aside0.mk hU
 clear hU
 have HB := Aside0.mk (Below.refl w.heap.size w)
 have H : (if (a0.size : Int) > 1048576 then (some true) else ((spec_ReadCoil.f k a0).bind fun bt215 => ((impl_ReadCoil.f k a0).bind fun bt219 => ((laws_eqCoil.f bt219.1 bt219.2.1 bt215.1 bt215.2.1).bind fun t223 => (if t223 = true then (if (bt219.2.2 != bt215.2.2) = true then (some false) else (some true)) else (some false)))))) = some r := h
 clear h
 by_cases c2 : (a0.size : Int) > 1048576
 ·rw [if_pos c2] at H
  have c2b0 : decide (1048576 < (a0.size : Int)) = true := decide_eq_true c2
  have c2b1 : decide (1048576 < a0.size) = true := decide_eq_true (by omega)
  clear c2
  obtain rfl := Option.some.inj H
  go_enter Tryd.func3, Tryd.ntmps3
  go_wp2
  go_ret
  exact ⟨ew_, hb_⟩
 ·rw [if_neg c2] at H
  have c2b0 : decide (1048576 < (a0.size : Int)) = false := decide_eq_false c2
  have c2b1 : decide (1048576 < a0.size) = false := decide_eq_false (by omega)
  clear c2
  replace H := Option.bind_eq_some_iff.mp H
  obtain ⟨⟨t215, t216, t217⟩, A30, H⟩ := H
  replace H : ((impl_ReadCoil.f k a0).bind fun bt219 => ((laws_eqCoil.f bt219.1 bt219.2.1 t215 t216).bind fun t223 => (if t223 = true then (if (bt219.2.2 != t217) = true then (some false) else (some true)) else (some false)))) = some r := H
  have A3 := Aside0.mk A30
  clear A30
  replace H := Option.bind_eq_some_iff.mp H
  obtain ⟨⟨t219, t220, t221⟩, A40, H⟩ := H
  replace H : ((laws_eqCoil.f t219 t220 t215 t216).bind fun t223 => (if t223 = true then (if (t221 != t217) = true then (some false) else (some true)) else (some false))) = some r := H
  have A4 := Aside0.mk A40
  clear A40
  replace H := Option.bind_eq_some_iff.mp H
  obtain ⟨t223, A50, H⟩ := H
  replace H : (if t223 = true then (if (t221 != t217) = true then (some false) else (some true)) else (some false)) = some r := H
  have A5 := Aside0.mk A50
  clear A50
  by_cases c6 : t223 = true
  ·subst c6
   have H1 : (if (t221 != t217) = true then (some false) else (some true)) = some r := by rw [if_pos rfl] at H; exact H
   clear H
   have H := H1
   clear H1
   by_cases c7 : (t221 != t217) = true
   ·rw [if_pos c7] at H
    have c7b0 : (t221 != t217) = true := c7
    (try (have c7b1 : decide (t221 = t217) = false := by simpa using c7))
    (try (have c7b2 : (t221 == t217) = false := by simpa using c7))
    (try (have c7b3 : ¬ (t221 = t217) := by simpa using c7))
    clear c7
    obtain rfl := Option.some.inj H
    go_enter Tryd.func3, Tryd.ntmps3
    go_wp2_with (first | ((with_reducible refine gate_callee (f := 8) rfl ?_); refine goesL_ (some 12) rfl rfl Tryd.func8 (by kernel_rfl) rfl #[.string a0] rfl ln_ ?_; (with_reducible refine (spec_ReadCoil.calls k a0 t215 t216 t217 _ A3.out).mono ?_); rintro e w8 ⟨rfl, hb⟩; refine ⟨_, rfl, ?_⟩; have n0_ := Aside0.mk (below_step hb_ hb); clear HB; have HB := n0_; clear n0_; (try clear hb); (try clear hb2); (try clear hk); (try clear hi)) | ((with_reducible refine gate_dst (N := 3) rfl ?_); refine box_event ?hg (N := 3) ?hd (cs := #[.string (⟨#[]⟩ : ByteArray), .int .i64 0]) (t := 23) ?hr ?_; (case hd => rfl); (case hg => rfl); (case hr => first | (go_simp; done) | (go_simp; rfl)); intro gb218 hg w9 hbox hb; have n0_ := Aside0.mk (below_step hb_ hb); have n1_ := Aside0.mk (hbox); have n2_ := Aside0.mk ((by rw [hg]; exact (below_size hb_) : w.heap.size ≤ gb218)); have n3_ := Aside0.mk ((by rw [hg]; exact (below_size hb_) : w.heap.size ≤ gb218)); clear HB; have HB := n0_; have BK218 := n1_; have GW218 := n2_; have GE218 := n3_; clear n0_ n1_ n2_ n3_; clear hb hbox hg; have hcz10_0 : w9.cell? ⟨gb218, 0, none⟩ = some (.string (⟨#[]⟩ : ByteArray)) := (blk_cell BK218.out 0).trans rfl; have hcz10_1 : w9.cell? ⟨gb218, 1, none⟩ = some (.int .i64 0) := (blk_cell BK218.out 1).trans rfl; have hfz10_0 := blk_frozen BK218.out 0; have hfz10_1 := blk_frozen BK218.out 1) | ((with_reducible refine gate_callee (f := 9) rfl ?_); refine goesL_ (some 17) rfl rfl Tryd.func9 (by kernel_rfl) rfl #[.string a0] rfl ln_ ?_; (with_reducible refine (impl_ReadCoil.calls k a0 t219 t220 t221 _ ?side1 ?side2 A4.out).mono ?_); (case side1 => first | exact HT.out | exact TB.below HT.out HB.out | ((repeat (first | exact HT.out | exact TB.below HT.out HB.out | apply TB.drewN | apply TB.drew)); done) | exact TB.below HT.out (by repeat (first | exact HB.out | apply below_alloc | apply pw_below_drewN | apply below_drew1 | refine below_set ?_ (Aside0.out (by assumption))))); (case side2 => first | exact HU.out | exact TU.below HU.out HB.out | ((repeat (first | exact HU.out | exact TU.below HU.out HB.out | apply TU.drewN | apply TU.drew)); done) | exact TU.below HU.out (by repeat (first | exact HB.out | apply below_alloc | apply pw_below_drewN | apply below_drew1 | refine below_set ?_ (Aside0.out (by assumption))))); rintro e w11 ⟨rfl, hb⟩; refine ⟨_, rfl, ?_⟩; have n0_ := Aside0.mk (blk_below (g := gb218) (o := .cells #[.string t215, .int .i64 t216] 23 (0, 0)) (by (with_reducible repeat (first | refine blk_drewN ?_ _ | refine blk_drew ?_ | refine blk_alloc ?_ _)); refine blk_put (cs := #[.string t215, .int .i64 0]) ?_ 1 _ rfl; (with_reducible repeat (first | refine blk_drewN ?_ _ | refine blk_drew ?_ | refine blk_alloc ?_ _)); refine blk_put (cs := #[.string (⟨#[]⟩ : ByteArray), .int .i64 0]) ?_ 0 _ rfl; (with_reducible repeat (first | refine blk_drewN ?_ _ | refine blk_drew ?_ | refine blk_alloc ?_ _)); exact BK218.out) hb); have n1_ := Aside0.mk (below_step (hg_ GE218) hb); clear BK218; clear HB; have BK218 := n0_; have HB := n1_; clear n0_ n1_; (try clear hb); (try clear hb2); (try clear hk); (try clear hi)) | ((with_reducible refine gate_dst (N := 5) rfl ?_); refine box_event ?hg (N := 5) ?hd (cs := #[.string (⟨#[]⟩ : ByteArray), .int .i64 0]) (t := 23) ?hr ?_; (case hd => rfl); (case hg => rfl); (case hr => first | (go_simp; done) | (go_simp; rfl)); intro gb222 hg w12 hbox hb; have n0_ := Aside0.mk (blk_below (g := gb218) (o := .cells #[.string t215, .int .i64 t216] 23 (0, 0)) (bk_ BK218) hb); have n1_ := Aside0.mk (below_step (hg_ GE218) hb); have n2_ := Aside0.mk (hbox); have n3_ := Aside0.mk ((by rw [hg]; exact (below_size (hg_ GE218)) : w.heap.size ≤ gb222)); have n4_ := Aside0.mk ((by rw [hg]; exact (below_size (hg_ GE218)) : w.heap.size ≤ gb222)); have n5_ := Aside0.mk ((by rw [hg]; exact Nat.ne_of_lt (blk_lt (g := gb218) (o := .cells #[.string t215, .int .i64 t216] 23 (0, 0)) (bk_ BK218)) : gb218 ≠ gb222)); have n6_ := Aside0.mk ((by rw [hg]; exact Nat.ne_of_gt (blk_lt (g := gb218) (o := .cells #[.string t215, .int .i64 t216] 23 (0, 0)) (bk_ BK218)) : gb222 ≠ gb218)); clear BK218; clear HB; have BK218 := n0_; have HB := n1_; have BK222 := n2_; have GW222 := n3_; have GE222 := n4_; have NB218_222 := n5_; have NB222_218 := n6_; clear n0_ n1_ n2_ n3_ n4_ n5_ n6_; clear hb hbox hg; have hnb13 := NB222_218.out; have hnc13 := NB218_222.out; have hcz14_0 : w12.cell? ⟨gb222, 0, none⟩ = some (.string (⟨#[]⟩ : ByteArray)) := (blk_cell BK222.out 0).trans rfl; have hcz14_1 : w12.cell? ⟨gb222, 1, none⟩ = some (.int .i64 0) := (blk_cell BK222.out 1).trans rfl; have hfz14_0 := blk_frozen BK222.out 0; have hfz14_1 := blk_frozen BK222.out 1; have hcz15_0 : w12.cell? ⟨gb218, 0, none⟩ = some (.string t215) := (blk_cell BK218.out 0).trans rfl; have hcz15_1 : w12.cell? ⟨gb218, 1, none⟩ = some (.int .i64 t216) := (blk_cell BK218.out 1).trans rfl; have hfz15_0 := blk_frozen BK218.out 0; have hfz15_1 := blk_frozen BK218.out 1) | ((with_reducible refine gate_callee (f := 10) rfl ?_); refine goesL_ (some 22) rfl rfl Tryd.func10 (by kernel_rfl) rfl #[.agg #[.string t219, .int .i64 t220], .agg #[.string t215, .int .i64 t216]] rfl ln_ ?_; (with_reducible refine (laws_eqCoil.calls t219 t220 t215 t216 true _ A5.out).mono ?_); rintro e w16 ⟨rfl, hb⟩; refine ⟨_, rfl, ?_⟩; have n0_ := Aside0.mk (blk_below (g := gb218) (o := .cells #[.string t215, .int .i64 t216] 23 (0, 0)) (by (with_reducible repeat (first | refine blk_drewN ?_ _ | refine blk_drew ?_ | refine blk_alloc ?_ _)); refine blk_far ?_ NB218_222.out _; (with_reducible repeat (first | refine blk_drewN ?_ _ | refine blk_drew ?_ | refine blk_alloc ?_ _)); refine blk_far ?_ NB218_222.out _; (with_reducible repeat (first | refine blk_drewN ?_ _ | refine blk_drew ?_ | refine blk_alloc ?_ _)); exact BK218.out) hb); have n1_ := Aside0.mk (blk_below (g := gb222) (o := .cells #[.string t219, .int .i64 t220] 23 (0, 0)) (by (with_reducible repeat (first | refine blk_drewN ?_ _ | refine blk_drew ?_ | refine blk_alloc ?_ _)); refine blk_put (cs := #[.string t219, .int .i64 0]) ?_ 1 _ rfl; (with_reducible repeat (first | refine blk_drewN ?_ _ | refine blk_drew ?_ | refine blk_alloc ?_ _)); refine blk_put (cs := #[.string (⟨#[]⟩ : ByteArray), .int .i64 0]) ?_ 0 _ rfl; (with_reducible repeat (first | refine blk_drewN ?_ _ | refine blk_drew ?_ | refine blk_alloc ?_ _)); exact BK222.out) hb); have n2_ := Aside0.mk (below_step (hg2_ GE218 GE222) hb); clear BK218; clear BK222; clear HB; have BK218 := n0_; have BK222 := n1_; have HB := n2_; clear n0_ n1_ n2_; (try clear hb); (try clear hb2); (try clear hk); (try clear hi)))
    go_ret
    exact ⟨ew_, (hg2_ GE218 GE222)⟩
   ·rw [if_neg c7] at H
    have c7b0 : (t221 != t217) = false := by simpa using c7
    (try (have c7b1 : decide (t221 = t217) = true := by simpa using c7))
    (try (have c7b2 : (t221 == t217) = true := by simpa using c7))
    clear c7
    obtain rfl := Option.some.inj H
    go_enter Tryd.func3, Tryd.ntmps3
    go_wp2_with (first | ((with_reducible refine gate_callee (f := 8) rfl ?_); refine goesL_ (some 12) rfl rfl Tryd.func8 (by kernel_rfl) rfl #[.string a0] rfl ln_ ?_; (with_reducible refine (spec_ReadCoil.calls k a0 t215 t216 t217 _ A3.out).mono ?_); rintro e w17 ⟨rfl, hb⟩; refine ⟨_, rfl, ?_⟩; have n0_ := Aside0.mk (below_step hb_ hb); clear HB; have HB := n0_; clear n0_; (try clear hb); (try clear hb2); (try clear hk); (try clear hi)) | ((with_reducible refine gate_dst (N := 3) rfl ?_); refine box_event ?hg (N := 3) ?hd (cs := #[.string (⟨#[]⟩ : ByteArray), .int .i64 0]) (t := 23) ?hr ?_; (case hd => rfl); (case hg => rfl); (case hr => first | (go_simp; done) | (go_simp; rfl)); intro gb218 hg w18 hbox hb; have n0_ := Aside0.mk (below_step hb_ hb); have n1_ := Aside0.mk (hbox); have n2_ := Aside0.mk ((by rw [hg]; exact (below_size hb_) : w.heap.size ≤ gb218)); have n3_ := Aside0.mk ((by rw [hg]; exact (below_size hb_) : w.heap.size ≤ gb218)); clear HB; have HB := n0_; have BK218 := n1_; have GW218 := n2_; have GE218 := n3_; clear n0_ n1_ n2_ n3_; clear hb hbox hg; have hcz19_0 : w18.cell? ⟨gb218, 0, none⟩ = some (.string (⟨#[]⟩ : ByteArray)) := (blk_cell BK218.out 0).trans rfl; have hcz19_1 : w18.cell? ⟨gb218, 1, none⟩ = some (.int .i64 0) := (blk_cell BK218.out 1).trans rfl; have hfz19_0 := blk_frozen BK218.out 0; have hfz19_1 := blk_frozen BK218.out 1) | ((with_reducible refine gate_callee (f := 9) rfl ?_); refine goesL_ (some 17) rfl rfl Tryd.func9 (by kernel_rfl) rfl #[.string a0] rfl ln_ ?_; (with_reducible refine (impl_ReadCoil.calls k a0 t219 t220 t221 _ ?side1 ?side2 A4.out).mono ?_); (case side1 => first | exact HT.out | exact TB.below HT.out HB.out | ((repeat (first | exact HT.out | exact TB.below HT.out HB.out | apply TB.drewN | apply TB.drew)); done) | exact TB.below HT.out (by repeat (first | exact HB.out | apply below_alloc | apply pw_below_drewN | apply below_drew1 | refine below_set ?_ (Aside0.out (by assumption))))); (case side2 => first | exact HU.out | exact TU.below HU.out HB.out | ((repeat (first | exact HU.out | exact TU.below HU.out HB.out | apply TU.drewN | apply TU.drew)); done) | exact TU.below HU.out (by repeat (first | exact HB.out | apply below_alloc | apply pw_below_drewN | apply below_drew1 | refine below_set ?_ (Aside0.out (by assumption))))); rintro e w20 ⟨rfl, hb⟩; refine ⟨_, rfl, ?_⟩; have n0_ := Aside0.mk (blk_below (g := gb218) (o := .cells #[.string t215, .int .i64 t216] 23 (0, 0)) (by (with_reducible repeat (first | refine blk_drewN ?_ _ | refine blk_drew ?_ | refine blk_alloc ?_ _)); refine blk_put (cs := #[.string t215, .int .i64 0]) ?_ 1 _ rfl; (with_reducible repeat (first | refine blk_drewN ?_ _ | refine blk_drew ?_ | refine blk_alloc ?_ _)); refine blk_put (cs := #[.string (⟨#[]⟩ : ByteArray), .int .i64 0]) ?_ 0 _ rfl; (with_reducible repeat (first | refine blk_drewN ?_ _ | refine blk_drew ?_ | refine blk_alloc ?_ _)); exact BK218.out) hb); have n1_ := Aside0.mk (below_step (hg_ GE218) hb); clear BK218; clear HB; have BK218 := n0_; have HB := n1_; clear n0_ n1_; (try clear hb); (try clear hb2); (try clear hk); (try clear hi)) | ((with_reducible refine gate_dst (N := 5) rfl ?_); refine box_event ?hg (N := 5) ?hd (cs := #[.string (⟨#[]⟩ : ByteArray), .int .i64 0]) (t := 23) ?hr ?_; (case hd => rfl); (case hg => rfl); (case hr => first | (go_simp; done) | (go_simp; rfl)); intro gb222 hg w21 hbox hb; have n0_ := Aside0.mk (blk_below (g := gb218) (o := .cells #[.string t215, .int .i64 t216] 23 (0, 0)) (bk_ BK218) hb); have n1_ := Aside0.mk (below_step (hg_ GE218) hb); have n2_ := Aside0.mk (hbox); have n3_ := Aside0.mk ((by rw [hg]; exact (below_size (hg_ GE218)) : w.heap.size ≤ gb222)); have n4_ := Aside0.mk ((by rw [hg]; exact (below_size (hg_ GE218)) : w.heap.size ≤ gb222)); have n5_ := Aside0.mk ((by rw [hg]; exact Nat.ne_of_lt (blk_lt (g := gb218) (o := .cells #[.string t215, .int .i64 t216] 23 (0, 0)) (bk_ BK218)) : gb218 ≠ gb222)); have n6_ := Aside0.mk ((by rw [hg]; exact Nat.ne_of_gt (blk_lt (g := gb218) (o := .cells #[.string t215, .int .i64 t216] 23 (0, 0)) (bk_ BK218)) : gb222 ≠ gb218)); clear BK218; clear HB; have BK218 := n0_; have HB := n1_; have BK222 := n2_; have GW222 := n3_; have GE222 := n4_; have NB218_222 := n5_; have NB222_218 := n6_; clear n0_ n1_ n2_ n3_ n4_ n5_ n6_; clear hb hbox hg; have hnb22 := NB222_218.out; have hnc22 := NB218_222.out; have hcz23_0 : w21.cell? ⟨gb222, 0, none⟩ = some (.string (⟨#[]⟩ : ByteArray)) := (blk_cell BK222.out 0).trans rfl; have hcz23_1 : w21.cell? ⟨gb222, 1, none⟩ = some (.int .i64 0) := (blk_cell BK222.out 1).trans rfl; have hfz23_0 := blk_frozen BK222.out 0; have hfz23_1 := blk_frozen BK222.out 1; have hcz24_0 : w21.cell? ⟨gb218, 0, none⟩ = some (.string t215) := (blk_cell BK218.out 0).trans rfl; have hcz24_1 : w21.cell? ⟨gb218, 1, none⟩ = some (.int .i64 t216) := (blk_cell BK218.out 1).trans rfl; have hfz24_0 := blk_frozen BK218.out 0; have hfz24_1 := blk_frozen BK218.out 1) | ((with_reducible refine gate_callee (f := 10) rfl ?_); refine goesL_ (some 22) rfl rfl Tryd.func10 (by kernel_rfl) rfl #[.agg #[.string t219, .int .i64 t220], .agg #[.string t215, .int .i64 t216]] rfl ln_ ?_; (with_reducible refine (laws_eqCoil.calls t219 t220 t215 t216 true _ A5.out).mono ?_); rintro e w25 ⟨rfl, hb⟩; refine ⟨_, rfl, ?_⟩; have n0_ := Aside0.mk (blk_below (g := gb218) (o := .cells #[.string t215, .int .i64 t216] 23 (0, 0)) (by (with_reducible repeat (first | refine blk_drewN ?_ _ | refine blk_drew ?_ | refine blk_alloc ?_ _)); refine blk_far ?_ NB218_222.out _; (with_reducible repeat (first | refine blk_drewN ?_ _ | refine blk_drew ?_ | refine blk_alloc ?_ _)); refine blk_far ?_ NB218_222.out _; (with_reducible repeat (first | refine blk_drewN ?_ _ | refine blk_drew ?_ | refine blk_alloc ?_ _)); exact BK218.out) hb); have n1_ := Aside0.mk (blk_below (g := gb222) (o := .cells #[.string t219, .int .i64 t220] 23 (0, 0)) (by (with_reducible repeat (first | refine blk_drewN ?_ _ | refine blk_drew ?_ | refine blk_alloc ?_ _)); refine blk_put (cs := #[.string t219, .int .i64 0]) ?_ 1 _ rfl; (with_reducible repeat (first | refine blk_drewN ?_ _ | refine blk_drew ?_ | refine blk_alloc ?_ _)); refine blk_put (cs := #[.string (⟨#[]⟩ : ByteArray), .int .i64 0]) ?_ 0 _ rfl; (with_reducible repeat (first | refine blk_drewN ?_ _ | refine blk_drew ?_ | refine blk_alloc ?_ _)); exact BK222.out) hb); have n2_ := Aside0.mk (below_step (hg2_ GE218 GE222) hb); clear BK218; clear BK222; clear HB; have BK218 := n0_; have BK222 := n1_; have HB := n2_; clear n0_ n1_ n2_; (try clear hb); (try clear hb2); (try clear hk); (try clear hi)))
    go_ret
    exact ⟨ew_, (hg2_ GE218 GE222)⟩
  ·replace c6 := Bool.eq_false_iff.mpr c6
   subst c6
   have H1 : (some false) = some r := by rw [if_neg (show ¬ (false = true) by decide)] at H; exact H
   clear H
   have H := H1
   clear H1
   obtain rfl := Option.some.inj H
   go_enter Tryd.func3, Tryd.ntmps3
   go_wp2_with (first | ((with_reducible refine gate_callee (f := 8) rfl ?_); refine goesL_ (some 12) rfl rfl Tryd.func8 (by kernel_rfl) rfl #[.string a0] rfl ln_ ?_; (with_reducible refine (spec_ReadCoil.calls k a0 t215 t216 t217 _ A3.out).mono ?_); rintro e w26 ⟨rfl, hb⟩; refine ⟨_, rfl, ?_⟩; have n0_ := Aside0.mk (below_step hb_ hb); clear HB; have HB := n0_; clear n0_; (try clear hb); (try clear hb2); (try clear hk); (try clear hi)) | ((with_reducible refine gate_dst (N := 3) rfl ?_); refine box_event ?hg (N := 3) ?hd (cs := #[.string (⟨#[]⟩ : ByteArray), .int .i64 0]) (t := 23) ?hr ?_; (case hd => rfl); (case hg => rfl); (case hr => first | (go_simp; done) | (go_simp; rfl)); intro gb218 hg w27 hbox hb; have n0_ := Aside0.mk (below_step hb_ hb); have n1_ := Aside0.mk (hbox); have n2_ := Aside0.mk ((by rw [hg]; exact (below_size hb_) : w.heap.size ≤ gb218)); have n3_ := Aside0.mk ((by rw [hg]; exact (below_size hb_) : w.heap.size ≤ gb218)); clear HB; have HB := n0_; have BK218 := n1_; have GW218 := n2_; have GE218 := n3_; clear n0_ n1_ n2_ n3_; clear hb hbox hg; have hcz28_0 : w27.cell? ⟨gb218, 0, none⟩ = some (.string (⟨#[]⟩ : ByteArray)) := (blk_cell BK218.out 0).trans rfl; have hcz28_1 : w27.cell? ⟨gb218, 1, none⟩ = some (.int .i64 0) := (blk_cell BK218.out 1).trans rfl; have hfz28_0 := blk_frozen BK218.out 0; have hfz28_1 := blk_frozen BK218.out 1) | ((with_reducible refine gate_callee (f := 9) rfl ?_); refine goesL_ (some 17) rfl rfl Tryd.func9 (by kernel_rfl) rfl #[.string a0] rfl ln_ ?_; (with_reducible refine (impl_ReadCoil.calls k a0 t219 t220 t221 _ ?side1 ?side2 A4.out).mono ?_); (case side1 => first | exact HT.out | exact TB.below HT.out HB.out | ((repeat (first | exact HT.out | exact TB.below HT.out HB.out | apply TB.drewN | apply TB.drew)); done) | exact TB.below HT.out (by repeat (first | exact HB.out | apply below_alloc | apply pw_below_drewN | apply below_drew1 | refine below_set ?_ (Aside0.out (by assumption))))); (case side2 => first | exact HU.out | exact TU.below HU.out HB.out | ((repeat (first | exact HU.out | exact TU.below HU.out HB.out | apply TU.drewN | apply TU.drew)); done) | exact TU.below HU.out (by repeat (first | exact HB.out | apply below_alloc | apply pw_below_drewN | apply below_drew1 | refine below_set ?_ (Aside0.out (by assumption))))); rintro e w29 ⟨rfl, hb⟩; refine ⟨_, rfl, ?_⟩; have n0_ := Aside0.mk (blk_below (g := gb218) (o := .cells #[.string t215, .int .i64 t216] 23 (0, 0)) (by (with_reducible repeat (first | refine blk_drewN ?_ _ | refine blk_drew ?_ | refine blk_alloc ?_ _)); refine blk_put (cs := #[.string t215, .int .i64 0]) ?_ 1 _ rfl; (with_reducible repeat (first | refine blk_drewN ?_ _ | refine blk_drew ?_ | refine blk_alloc ?_ _)); refine blk_put (cs := #[.string (⟨#[]⟩ : ByteArray), .int .i64 0]) ?_ 0 _ rfl; (with_reducible repeat (first | refine blk_drewN ?_ _ | refine blk_drew ?_ | refine blk_alloc ?_ _)); exact BK218.out) hb); have n1_ := Aside0.mk (below_step (hg_ GE218) hb); clear BK218; clear HB; have BK218 := n0_; have HB := n1_; clear n0_ n1_; (try clear hb); (try clear hb2); (try clear hk); (try clear hi)) | ((with_reducible refine gate_dst (N := 5) rfl ?_); refine box_event ?hg (N := 5) ?hd (cs := #[.string (⟨#[]⟩ : ByteArray), .int .i64 0]) (t := 23) ?hr ?_; (case hd => rfl); (case hg => rfl); (case hr => first | (go_simp; done) | (go_simp; rfl)); intro gb222 hg w30 hbox hb; have n0_ := Aside0.mk (blk_below (g := gb218) (o := .cells #[.string t215, .int .i64 t216] 23 (0, 0)) (bk_ BK218) hb); have n1_ := Aside0.mk (below_step (hg_ GE218) hb); have n2_ := Aside0.mk (hbox); have n3_ := Aside0.mk ((by rw [hg]; exact (below_size (hg_ GE218)) : w.heap.size ≤ gb222)); have n4_ := Aside0.mk ((by rw [hg]; exact (below_size (hg_ GE218)) : w.heap.size ≤ gb222)); have n5_ := Aside0.mk ((by rw [hg]; exact Nat.ne_of_lt (blk_lt (g := gb218) (o := .cells #[.string t215, .int .i64 t216] 23 (0, 0)) (bk_ BK218)) : gb218 ≠ gb222)); have n6_ := Aside0.mk ((by rw [hg]; exact Nat.ne_of_gt (blk_lt (g := gb218) (o := .cells #[.string t215, .int .i64 t216] 23 (0, 0)) (bk_ BK218)) : gb222 ≠ gb218)); clear BK218; clear HB; have BK218 := n0_; have HB := n1_; have BK222 := n2_; have GW222 := n3_; have GE222 := n4_; have NB218_222 := n5_; have NB222_218 := n6_; clear n0_ n1_ n2_ n3_ n4_ n5_ n6_; clear hb hbox hg; have hnb31 := NB222_218.out; have hnc31 := NB218_222.out; have hcz32_0 : w30.cell? ⟨gb222, 0, none⟩ = some (.string (⟨#[]⟩ : ByteArray)) := (blk_cell BK222.out 0).trans rfl; have hcz32_1 : w30.cell? ⟨gb222, 1, none⟩ = some (.int .i64 0) := (blk_cell BK222.out 1).trans rfl; have hfz32_0 := blk_frozen BK222.out 0; have hfz32_1 := blk_frozen BK222.out 1; have hcz33_0 : w30.cell? ⟨gb218, 0, none⟩ = some (.string t215) := (blk_cell BK218.out 0).trans rfl; have hcz33_1 : w30.cell? ⟨gb218, 1, none⟩ = some (.int .i64 t216) := (blk_cell BK218.out 1).trans rfl; have hfz33_0 := blk_frozen BK218.out 0; have hfz33_1 := blk_frozen BK218.out 1) | ((with_reducible refine gate_callee (f := 10) rfl ?_); refine goesL_ (some 22) rfl rfl Tryd.func10 (by kernel_rfl) rfl #[.agg #[.string t219, .int .i64 t220], .agg #[.string t215, .int .i64 t216]] rfl ln_ ?_; (with_reducible refine (laws_eqCoil.calls t219 t220 t215 t216 false _ A5.out).mono ?_); rintro e w34 ⟨rfl, hb⟩; refine ⟨_, rfl, ?_⟩; have n0_ := Aside0.mk (blk_below (g := gb218) (o := .cells #[.string t215, .int .i64 t216] 23 (0, 0)) (by (with_reducible repeat (first | refine blk_drewN ?_ _ | refine blk_drew ?_ | refine blk_alloc ?_ _)); refine blk_far ?_ NB218_222.out _; (with_reducible repeat (first | refine blk_drewN ?_ _ | refine blk_drew ?_ | refine blk_alloc ?_ _)); refine blk_far ?_ NB218_222.out _; (with_reducible repeat (first | refine blk_drewN ?_ _ | refine blk_drew ?_ | refine blk_alloc ?_ _)); exact BK218.out) hb); have n1_ := Aside0.mk (blk_below (g := gb222) (o := .cells #[.string t219, .int .i64 t220] 23 (0, 0)) (by (with_reducible repeat (first | refine blk_drewN ?_ _ | refine blk_drew ?_ | refine blk_alloc ?_ _)); refine blk_put (cs := #[.string t219, .int .i64 0]) ?_ 1 _ rfl; (with_reducible repeat (first | refine blk_drewN ?_ _ | refine blk_drew ?_ | refine blk_alloc ?_ _)); refine blk_put (cs := #[.string (⟨#[]⟩ : ByteArray), .int .i64 0]) ?_ 0 _ rfl; (with_reducible repeat (first | refine blk_drewN ?_ _ | refine blk_drew ?_ | refine blk_alloc ?_ _)); exact BK222.out) hb); have n2_ := Aside0.mk (below_step (hg2_ GE218 GE222) hb); clear BK218; clear BK222; clear HB; have BK218 := n0_; have BK222 := n1_; have HB := n2_; clear n0_ n1_ n2_; (try clear hb); (try clear hb2); (try clear hk); (try clear hi)))
   go_ret
   exact ⟨ew_, (hg2_ GE218 GE222)⟩

/-- THE ONE PURE STATEMENT of laws_FnExactReadCoil: yours. -/
def laws_FnExactReadCoil.Pure : Prop := ∀ (a0 : ByteArray), a0.size ≤ 140737488351232 → ∃ k, laws_FnExactReadCoil.f k a0 = some true
theorem laws_FnExactReadCoil.walk (P : laws_FnExactReadCoil.Pure) (a0 : ByteArray) (w : World) (w0 : a0.size ≤ 140737488351232) (hT : TB w) (hU : TU w) :
  Calls Tryd.prog 3 #[.string a0] w fun e w' => e = .returned (.bool true) ∧ Below w.heap.size w w' := by
 obtain ⟨k, h⟩ := P a0 w0
 refine (laws_FnExactReadCoil.calls k a0 true w hT hU h).mono ?_
 rintro e w' ⟨rfl, hd⟩
 exact ⟨rfl, hd⟩

end Go.Proofs.YtfenjlkopofopaaDoor.P
end

section
/- Plain words for the laws' statements over lists: an answer with enough rounds (Ev), step by step; one loop's round over a list that is told as what lies behind and what lies ahead. -/
namespace Go.Proofs.YtfenjlkopofopaaDoorB
open Go.RowKit Go.Proofs.YtfenjlkopofopaaDoorW.PrintWords Go.Proofs.YtfenjlkopofopaaDoorW.PrintLast

theorem ev_pos {α : Type} {c : Prop} [Decidable c] {A B : Nat → Option α} {r : α} (h : c) (e : Ev A r) : Ev (fun k => if c then A k else B k) r := by
  simpa only [if_pos h] using e
theorem ev_neg {α : Type} {c : Prop} [Decidable c] {A B : Nat → Option α} {r : α} (h : ¬ c) (e : Ev B r) : Ev (fun k => if c then A k else B k) r := by
  simpa only [if_neg h] using e
theorem ev_ite {α : Type} {c : Prop} [Decidable c] {A B : Nat → Option α} {r : α} (h : c → Ev A r) (h2 : ¬ c → Ev B r) : Ev (fun k => if c then A k else B k) r := by
  by_cases hc : c
  · exact ev_pos hc (h hc)
  · exact ev_neg hc (h2 hc)
theorem ev_bind0 {α β : Type} {g : Option α} {f : Nat → α → Option β} {a : α} {r : β} (h : g = some a) (k : Ev (fun n => f n a) r) : Ev (fun n => g.bind (f n)) r := by
  subst h
  exact k
theorem ev_of {α : Type} {g : Nat → Option α} {a r : α} (h : Ev g a) (e : a = r) : Ev g r := e ▸ h

theorem wrap_small {i : Int} (h0 : -9223372036854775808 ≤ i) (h1 : i ≤ 9223372036854775807) : wrap64 i = i := by
  unfold wrap64
  omega
theorem wrap_next {α : Type} (p : List α) (x : α) (h : p.length ≤ 4611686018427387904) : wrap64 ((p.length : Int) + 1) = ((p ++ [x]).length : Int) := by
  rw [wrap_small (by omega) (by omega), List.length_append]
  simp
theorem getD_at {α : Type} (p : List α) (x : α) (xs : List α) (z : α) : (p ++ x :: xs).getD ((p.length : Int)).toNat z = x := by
  simp
theorem rd_mid (p : List Int) (x : Int) (xs : List Int) : rd (p ++ x :: xs) (p.length : Int) = x := by
  unfold rd
  exact getD_at p x xs 0
theorem bt_rd (s : ByteArray) (i : Int) : bt s i = rd (bytesOf s) i := by
  unfold bt rd bytesOf
  by_cases h : i.toNat < s.size
  · rw [dif_pos h]
    have h2 : i.toNat < s.data.toList.length := by rw [data_length]; exact h
    rw [List.getD_eq_getElem?_getD, List.getElem?_map, List.getElem?_eq_getElem h2]
    rfl
  · rw [dif_neg h]
    have h2 : ¬ i.toNat < s.data.toList.length := by rw [data_length]; exact h
    rw [List.getD_eq_getElem?_getD, List.getElem?_map, List.getElem?_eq_none (by omega)]
    rfl
theorem bytes_length (s : ByteArray) : (bytesOf s).length = s.size := by
  unfold bytesOf
  rw [List.length_map, data_length]
theorem bytes_nil (s : ByteArray) : s.toList = [] ↔ bytesOf s = [] := by
  unfold bytesOf
  rw [Lib.toList_data]
  simp
theorem bytes_inj {a b : ByteArray} (h : bytesOf a = bytesOf b) : a = b := by
  unfold bytesOf at h
  have h2 : a.data.toList = b.data.toList := by
    refine (List.map_inj_right ?_).1 h
    intro x y hxy
    exact UInt8.toNat_inj.1 (by omega)
  cases a
  cases b
  congr
  exact Array.toList_inj.1 h2
theorem toList_inj {a b : ByteArray} (h : a.toList = b.toList) : a = b := by
  rw [Lib.toList_data, Lib.toList_data] at h
  cases a
  cases b
  congr
  exact Array.toList_inj.1 h
theorem toList_iff {a b : ByteArray} : a.toList = b.toList ↔ a = b := ⟨toList_inj, fun h => by rw [h]⟩

/-- Two readings come to one answer, of which P holds. -/
def Both {α : Type} (P : α → Prop) (A B : Nat → Option α) : Prop := ∃ r, Ev A r ∧ Ev B r ∧ P r
section
variable {α β : Type} {P : α → Prop} {Q : β → Prop} {A B A2 B2 C : Nat → Option α}
theorem both_now (r : α) (h : P r) : Both P (fun _ => some r) (fun _ => some r) := ⟨r, Ev.now r, Ev.now r, h⟩
theorem both_step (hA : ∀ k, A (k + 1) = A2 k) (hB : ∀ k, B (k + 1) = B2 k) (h : Both P A2 B2) : Both P A B := by
  obtain ⟨r, h1, h2, hp⟩ := h
  exact ⟨r, Ev.step hA h1, Ev.step hB h2, hp⟩
theorem both_stepL (hA : ∀ k, A (k + 1) = A2 k) (h : Both P A2 B) : Both P A B := by
  obtain ⟨r, h1, h2, hp⟩ := h
  exact ⟨r, Ev.step hA h1, h2, hp⟩
theorem both_ite {c : Prop} [Decidable c] (h : c → Both P A A2) (h2 : ¬ c → Both P B B2) : Both P (fun k => if c then A k else B k) (fun k => if c then A2 k else B2 k) := by
  by_cases hc : c
  · obtain ⟨r, h3, h4, hp⟩ := h hc
    exact ⟨r, ev_pos hc h3, ev_pos hc h4, hp⟩
  · obtain ⟨r, h3, h4, hp⟩ := h2 hc
    exact ⟨r, ev_neg hc h3, ev_neg hc h4, hp⟩
theorem both_posL {c : Prop} [Decidable c] (hc : c) (h : Both P A C) : Both P (fun k => if c then A k else B k) C := by
  obtain ⟨r, h3, h4, hp⟩ := h
  exact ⟨r, ev_pos hc h3, h4, hp⟩
theorem both_negL {c : Prop} [Decidable c] (hc : ¬ c) (h : Both P B C) : Both P (fun k => if c then A k else B k) C := by
  obtain ⟨r, h3, h4, hp⟩ := h
  exact ⟨r, ev_neg hc h3, h4, hp⟩
theorem both_posR {c : Prop} [Decidable c] (hc : c) (h : Both P C A) : Both P C (fun k => if c then A k else B k) := by
  obtain ⟨r, h3, h4, hp⟩ := h
  exact ⟨r, h3, ev_pos hc h4, hp⟩
theorem both_negR {c : Prop} [Decidable c] (hc : ¬ c) (h : Both P C B) : Both P C (fun k => if c then A k else B k) := by
  obtain ⟨r, h3, h4, hp⟩ := h
  exact ⟨r, h3, ev_neg hc h4, hp⟩
theorem both_bind {F G : Nat → α → Option β} (h : Both P A B) (h2 : ∀ r, P r → Both Q (fun k => F k r) (fun k => G k r)) : Both Q (fun k => (A k).bind (F k)) (fun k => (B k).bind (G k)) := by
  obtain ⟨r, h3, h4, hp⟩ := h
  obtain ⟨q, h5, h6, hq⟩ := h2 r hp
  exact ⟨q, Ev.bind h3 h5, Ev.bind h4 h6, hq⟩
theorem both_bindL {D : Nat → Option β} {F : Nat → α → Option β} {a : α} (h : Ev A a) (h2 : Both Q (fun k => F k a) D) : Both Q (fun k => (A k).bind (F k)) D := by
  obtain ⟨r, h3, h4, hq⟩ := h2
  exact ⟨r, Ev.bind h h3, h4, hq⟩
theorem both_bindR {D : Nat → Option β} {F : Nat → α → Option β} {a : α} (h : Ev A a) (h2 : Both Q D (fun k => F k a)) : Both Q D (fun k => (A k).bind (F k)) := by
  obtain ⟨r, h3, h4, hq⟩ := h2
  exact ⟨r, h3, Ev.bind h h4, hq⟩
theorem both_bind0L {D : Nat → Option β} {F : Nat → α → Option β} {g : Option α} {a : α} (h : g = some a) (h2 : Both Q (fun k => F k a) D) : Both Q (fun k => g.bind (F k)) D := by
  subst h
  exact h2
theorem both_bind0R {D : Nat → Option β} {F : Nat → α → Option β} {g : Option α} {a : α} (h : g = some a) (h2 : Both Q D (fun k => F k a)) : Both Q D (fun k => g.bind (F k)) := by
  subst h
  exact h2
theorem both_imp {P2 : α → Prop} (h : Both P A B) (hi : ∀ r, P r → P2 r) : Both P2 A B := by
  obtain ⟨r, h1, h2, hp⟩ := h
  exact ⟨r, h1, h2, hi r hp⟩
end

def rangeB (n : Int) : Bool := decide (1 ≤ n) && decide (n ≤ 100000)
/-- A name, as the document has it, over its bytes. -/
def smallB (c : Int) : Bool := decide (97 ≤ c) && decide (c ≤ 122)
def partB (c : Int) : Bool := smallB c || (decide (48 ≤ c) && decide (c ≤ 57)) || decide (c = 45)
def nameL (l : List Int) : Bool := match l with
  | [] => false
  | c :: cs => decide ((c :: cs).length ≤ 12) && smallB c && (c :: cs).all partB
def nameB (s : ByteArray) : Bool := nameL (bytesOf s)
end Go.Proofs.YtfenjlkopofopaaDoorB
end

section
/- IsName, within and their kin: the reference's and the program's functions, as one plain function of the bytes. -/
namespace Go.Proofs.YtfenjlkopofopaaDoorB
open Go.RowKit Go.Proofs.YtfenjlkopofopaaDoorW.PrintWords Go.Proofs.YtfenjlkopofopaaDoorW.PrintLast Go.Proofs.YtfenjlkopofopaaDoor.P

theorem in_some (a b c : Int) : spec_l00In.f a b c = some (decide (b ≤ a) && decide (a ≤ c)) := by
  unfold spec_l00In.f
  by_cases h : a ≥ b
  · rw [if_pos h, decide_eq_true (show b ≤ a from h)]
    simp
  · rw [if_neg h, decide_eq_false (show ¬ b ≤ a from h)]
    simp
theorem within_some (a b c : Int) : impl_within.f a b c = some (decide (b ≤ a) && decide (a ≤ c)) := by
  unfold impl_within.f
  by_cases h : a ≥ b
  · rw [if_pos h, decide_eq_true (show b ≤ a from h)]
    simp
  · rw [if_neg h, decide_eq_false (show ¬ b ≤ a from h)]
    simp
theorem small_some (a : Int) : spec_l01Small.f a = some (smallB a) := by
  unfold spec_l01Small.f smallB
  by_cases h : a ≥ 97
  · rw [if_pos h, decide_eq_true (show 97 ≤ a from h)]
    simp
  · rw [if_neg h, decide_eq_false (show ¬ 97 ≤ a from h)]
    simp
theorem digit_some (a : Int) : spec_l01Digit.f a = some (decide (48 ≤ a) && decide (a ≤ 57)) := by
  unfold spec_l01Digit.f
  by_cases h : a ≥ 48
  · rw [if_pos h, decide_eq_true (show 48 ≤ a from h)]
    simp
  · rw [if_neg h, decide_eq_false (show ¬ 48 ≤ a from h)]
    simp

theorem spec_name_loop (s : ByteArray) (hs : s.size ≤ 1048576) : ∀ (xs p : List Int), bytesOf s = p ++ xs → Ev (fun k => spec_IsName.l0 k s (p.length : Int)) (xs.all partB) := by
  intro xs
  induction xs with
  | nil =>
    intro p hp
    have hz : (s.size : Int) = p.length := by rw [← bytes_length, hp]; simp
    refine Ev.step (fun k => by rw [spec_IsName.l0]) ?_
    exact ev_neg (by omega) (Ev.now _)
  | cons x xs ih =>
    intro p hp
    have hz : (s.size : Int) = p.length + (xs.length + 1) := by rw [← bytes_length, hp]; simp
    have hb : bt s (p.length : Int) = x := by rw [bt_rd, hp]; exact rd_mid p x xs
    have hw : wrap64 ((p.length : Int) + 1) = ((p ++ [x]).length : Int) := wrap_next p x (by omega)
    have hi := ih (p ++ [x]) (by rw [hp]; simp)
    refine Ev.step (fun k => by rw [spec_IsName.l0]) ?_
    refine ev_pos (by omega) (ev_pos (by omega) ?_)
    rw [hb, hw]
    refine ev_bind0 (small_some x) ?_
    refine ev_ite (fun h => ?_) (fun h => ?_)
    · refine ev_of hi ?_
      simp [partB, h]
    · refine ev_bind0 (digit_some x) (ev_ite (fun h2 => ?_) (fun h2 => ?_))
      · refine ev_of hi ?_
        simp [partB, h2]
      · refine ev_ite (fun h3 => ?_) (fun h3 => ?_)
        · refine ev_of hi ?_
          simp [partB, h3]
        · refine ev_of (Ev.now _) ?_
          simp only [Bool.not_eq_true] at h h2
          simp [partB, h, h2, h3]

theorem impl_name_loop (s : ByteArray) (hs : s.size ≤ 1048576) : ∀ (xs p : List Int), bytesOf s = p ++ xs → Ev (fun k => impl_IsName.l0 k s (p.length : Int)) (xs.all partB) := by
  intro xs
  induction xs with
  | nil =>
    intro p hp
    have hz : (s.size : Int) = p.length := by rw [← bytes_length, hp]; simp
    refine Ev.step (fun k => by rw [impl_IsName.l0]) ?_
    exact ev_neg (by omega) (Ev.now _)
  | cons x xs ih =>
    intro p hp
    have hz : (s.size : Int) = p.length + (xs.length + 1) := by rw [← bytes_length, hp]; simp
    have hb : bt s (p.length : Int) = x := by rw [bt_rd, hp]; exact rd_mid p x xs
    have hw : wrap64 ((p.length : Int) + 1) = ((p ++ [x]).length : Int) := wrap_next p x (by omega)
    have hi := ih (p ++ [x]) (by rw [hp]; simp)
    have hy : partB x = true → Ev (fun k => impl_IsName.l0 k s ((p ++ [x]).length : Int)) ((x :: xs).all partB) := fun h => ev_of hi (by simp [h])
    have hn : partB x = false → Ev (fun _ => some false) ((x :: xs).all partB) := fun h => ev_of (Ev.now _) (by simp [h])
    refine Ev.step (fun k => by rw [impl_IsName.l0]) ?_
    refine ev_pos (by omega) (ev_pos (by omega) ?_)
    rw [hb, hw]
    have tail : (¬ smallB x = true) → Ev (fun k => if x < 48 then if x = 45 then impl_IsName.l0 k s ((p ++ [x]).length : Int) else some false else if x > 57 then if x = 45 then impl_IsName.l0 k s ((p ++ [x]).length : Int) else some false else impl_IsName.l0 k s ((p ++ [x]).length : Int)) ((x :: xs).all partB) := by
      intro hsm
      refine ev_ite (fun h => ?_) (fun h => ?_)
      · refine ev_ite (fun h2 => hy ?_) (fun h2 => hn ?_)
        · simp [partB, h2]
        · simp only [Bool.not_eq_true] at hsm
          simp [partB, hsm, h2]; omega
      · refine ev_ite (fun h2 => ?_) (fun h2 => hy ?_)
        · refine ev_ite (fun h3 => hy ?_) (fun h3 => hn ?_)
          · simp [partB, h3]
          · simp only [Bool.not_eq_true] at hsm
            simp [partB, hsm, h3]; omega
        · simp [partB]; omega
    refine ev_ite (fun h => tail (by simp [smallB]; omega)) (fun h => ?_)
    refine ev_ite (fun h2 => tail (by simp [smallB]; omega)) (fun h2 => hy ?_)
    simp [partB, smallB]; omega

theorem spec_name (s : ByteArray) (_hs : s.size ≤ maxLen) : Ev (fun k => spec_IsName.f k s) (nameB s) := by
  have hl := bytes_length s
  unfold spec_IsName.f nameB nameL
  refine ev_ite (fun h => ?_) (fun h => ?_)
  · rw [bytes_nil] at h
    rw [h]
    refine Ev.step (fun k => by rw [spec_IsName.j0]) ?_
    exact ev_pos rfl (Ev.now _)
  · rw [bytes_nil] at h
    cases hb : bytesOf s with
    | nil => exact absurd hb h
    | cons c cs =>
      rw [hb] at hl
      have hl2 : (s.size : Int) = cs.length + 1 := by rw [← hl]; simp
      have hc : bt s 0 = c := by rw [bt_rd, hb]; rfl
      refine ev_ite (fun h1 => ?_) (fun h1 => ?_)
      · refine Ev.step (fun k => by rw [spec_IsName.j0]) ?_
        refine ev_pos rfl (ev_of (Ev.now _) ?_)
        simp; omega
      · refine ev_pos (by omega) ?_
        rw [hc]
        refine ev_bind0 (small_some c) ?_
        refine Ev.step (fun k => by rw [spec_IsName.j0]) ?_
        refine ev_ite (fun h2 => ?_) (fun h2 => ?_)
        · refine ev_of (Ev.now _) ?_
          simp at h2
          simp [h2]
        · simp at h2
          refine ev_of (spec_name_loop s (by omega) (c :: cs) [] hb) ?_
          simp [h2]; omega
theorem impl_name (s : ByteArray) (_hs : s.size ≤ maxLen) : Ev (fun k => impl_IsName.f k s) (nameB s) := by
  have hl := bytes_length s
  unfold impl_IsName.f nameB nameL
  have no : ∀ v : Bool, v = false → Ev (fun k => impl_IsName.j0 k s true) v := fun v h => Ev.step (fun k => by rw [impl_IsName.j0]) (ev_pos rfl (ev_of (Ev.now _) h.symm))
  cases hb : bytesOf s with
  | nil =>
    rw [hb] at hl
    exact ev_pos (by simp at hl; omega) (no _ rfl)
  | cons c cs =>
    rw [hb] at hl
    have hl2 : (s.size : Int) = cs.length + 1 := by rw [← hl]; simp
    have hc : bt s 0 = c := by rw [bt_rd, hb]; rfl
    refine ev_neg (by omega) (ev_ite (fun h1 => no _ ?_) (fun h1 => ?_))
    · simp; omega
    · refine ev_pos (by omega) ?_
      rw [hc]
      refine ev_ite (fun h2 => no _ ?_) (fun h2 => ?_)
      · simp [smallB]; omega
      · refine Ev.step (fun k => by rw [impl_IsName.j0]) ?_
        refine ev_ite (fun h3 => ?_) (fun h3 => ?_)
        · refine ev_of (Ev.now _) ?_
          simp at h3
          simp [smallB]; omega
        · simp at h3
          refine ev_of (impl_name_loop s (by omega) (c :: cs) [] hb) ?_
          simp [smallB]; omega
end Go.Proofs.YtfenjlkopofopaaDoorB
end

section
/- A number's text: the reference's digits are the library's. -/
namespace Go.Proofs.YtfenjlkopofopaaDoorB
open Go.RowKit Go.Proofs.YtfenjlkopofopaaDoorW.PrintWords Go.Proofs.YtfenjlkopofopaaDoorW.PrintLast Go.Proofs.YtfenjlkopofopaaDoor.P

def numsOf (l : List UInt8) : List Int := l.map fun b => (b.toNat : Int)
theorem str_nums (l : List UInt8) : strOfNums (numsOf l) = ⟨l.toArray⟩ := by
  simp [strOfNums, numsOf, Function.comp_def]
def decL (u : Nat) : List Int := if u = 0 then [] else numsOf (Lib.decDigits u)
theorem decL_step {u : Nat} (h : 0 < u) (ds : List Int) : decL u ++ ds = decL (u / 10) ++ ((48 + ((u % 10 : Nat) : Int)) :: ds) := by
  have hd : ∀ d : Nat, d < 10 → ((UInt8.ofNat (48 + d)).toNat : Int) = 48 + (d : Int) := by
    intro d hd
    rw [UInt8.toNat_ofNat']
    omega
  unfold decL
  rw [if_neg (by omega)]
  by_cases h1 : u < 10
  · rw [if_pos (by omega), Lib.decDigits, dif_pos h1]
    simp only [numsOf, List.map_cons, List.map_nil, List.cons_append, List.nil_append]
    rw [hd u h1, Nat.mod_eq_of_lt h1]
  · rw [if_neg (by omega), Lib.decDigits, dif_neg h1]
    simp only [numsOf, List.map_append, List.map_cons, List.map_nil, List.append_assoc, List.cons_append, List.nil_append]
    rw [hd (u % 10) (by omega)]
theorem dec_fin (x0 : Int) (ds : List Int) (hb : ds.length ≤ 1000) (hne : ds ≠ []) : Ev (fun k => spec_l01Dec.l0 k x0 ds 0) (if x0 < 0 then (⟨#[45]⟩ : ByteArray) ++ strOfNums ds else strOfNums ds) := by
  refine Ev.step (fun k => by rw [spec_l01Dec.l0]) ?_
  refine ev_pos rfl (ev_neg ?_ ?_)
  · intro h
    exact hne (List.length_eq_zero_iff.1 (by omega))
  · by_cases hx : x0 < 0
    · refine ev_pos hx (ev_pos (by rw [strOfNums_size]; omega) (ev_of (Ev.now _) ?_))
      rw [if_pos hx]
    · exact ev_neg hx (ev_of (Ev.now _) (by rw [if_neg hx]))
theorem spec_dec_loop : ∀ (m u : Nat) (x0 v : Int) (ds : List Int), u ≤ m → u ≤ 9223372036854775808 → (v = u ∨ v = -u) → (decL u ++ ds).length ≤ 1000 → (0 < u ∨ ds ≠ []) →
    Ev (fun k => spec_l01Dec.l0 k x0 ds v) (if x0 < 0 then (⟨#[45]⟩ : ByteArray) ++ strOfNums (decL u ++ ds) else strOfNums (decL u ++ ds)) := by
  intro m
  induction m with
  | zero =>
    intro u x0 v ds hu _ hv hb hn
    obtain rfl : u = 0 := by omega
    obtain rfl : v = 0 := by omega
    exact dec_fin x0 ds hb (hn.resolve_left (by omega))
  | succ m ih =>
    intro u x0 v ds hu hU hv hb hn
    by_cases h0 : u = 0
    · subst h0
      obtain rfl : v = 0 := by omega
      exact dec_fin x0 ds hb (hn.resolve_left (by omega))
    · have hm0 : Int.tmod (u : Int) 10 = ((u % 10 : Nat) : Int) := by rw [Int.tmod_eq_emod_of_nonneg (by omega)]; omega
      have hd0 : Int.tdiv (u : Int) 10 = ((u / 10 : Nat) : Int) := by rw [Int.tdiv_eq_ediv_of_nonneg (by omega)]; omega
      have hw2 : wrap64 (48 + ((u % 10 : Nat) : Int)) % 256 = 48 + ((u % 10 : Nat) : Int) := by rw [wrap_small (by omega) (by omega)]; omega
      have hq : u / 10 ≤ m := by omega
      have hqU : u / 10 ≤ 9223372036854775808 := Nat.le_trans (Nat.div_le_self _ _) hU
      have hw : wrap64 ((u / 10 : Nat) : Int) = ((u / 10 : Nat) : Int) := wrap_small (by omega) (by omega)
      have hwn : wrap64 (-((u / 10 : Nat) : Int)) = -((u / 10 : Nat) : Int) := wrap_small (by omega) (by omega)
      have hwp : wrap64 (- -((u % 10 : Nat) : Int)) = ((u % 10 : Nat) : Int) := by rw [Int.neg_neg]; exact wrap_small (by omega) (by omega)
      have hp : 0 < u := by omega
      have hv0 : v ≠ 0 := by omega
      have hr : u % 10 < 10 := by omega
      clear hU hu h0
      rw [decL_step hp ds] at hb ⊢
      have hl1 : ∀ z : Int, [z].length + ds.length < 140737488355328 := by
        intro z
        simp at hb ⊢
        omega
      generalize u % 10 = d at *
      generalize u / 10 = q at *
      rcases hv with hv | hv
      · refine Ev.step (fun k => by rw [spec_l01Dec.l0]) ?_
        refine ev_neg hv0 ?_
        rw [hv, hm0, hd0, hw, hw2]
        refine ev_neg (Int.not_lt.2 (Int.natCast_nonneg _)) (ev_bind0 rfl (ev_pos (hl1 _) ?_))
        exact ih q x0 _ ((48 + (d : Int)) :: ds) hq hqU (.inl rfl) hb (.inr (List.cons_ne_nil _ _))
      · have hm : Int.tmod (-(u : Int)) 10 = -(d : Int) := by rw [Int.neg_tmod, hm0]
        have hd : Int.tdiv (-(u : Int)) 10 = -(q : Int) := by rw [Int.neg_tdiv, hd0]
        refine Ev.step (fun k => by rw [spec_l01Dec.l0]) ?_
        refine ev_neg hv0 ?_
        rw [hv, hm, hd, hwn]
        refine ev_ite (fun h => ?_) (fun h => ?_)
        · rw [hwp, hw2]
          refine ev_bind0 rfl (ev_pos (hl1 _) ?_)
          exact ih q x0 _ ((48 + (d : Int)) :: ds) hq hqU (.inr rfl) hb (.inr (List.cons_ne_nil _ _))
        · obtain rfl : d = 0 := by omega
          rw [show (48 : Int) + -((0 : Nat) : Int) = 48 + ((0 : Nat) : Int) by simp, hw2]
          refine ev_bind0 rfl (ev_pos (hl1 _) ?_)
          exact ih q x0 _ ((48 + ((0 : Nat) : Int)) :: ds) hq hqU (.inr rfl) hb (.inr (List.cons_ne_nil _ _))
theorem decDigits_len : ∀ (j u : Nat), u < 10 ^ (j + 1) → (Lib.decDigits u).length ≤ j + 1 := by
  intro j
  induction j with
  | zero =>
    intro u hu
    rw [Lib.decDigits, dif_pos (by simpa using hu)]
    simp
  | succ j ih =>
    intro u hu
    by_cases h1 : u < 10
    · rw [Lib.decDigits, dif_pos h1]
      simp
    · rw [Lib.decDigits, dif_neg h1]
      have hq : u / 10 < 10 ^ (j + 1) := by rw [Nat.pow_succ] at hu; omega
      have := ih (u / 10) hq
      simp
      omega
theorem spec_dec (n : Int) (h0 : -9223372036854775808 ≤ n) (h1 : n ≤ 9223372036854775807) : Ev (fun k => spec_l01Dec.f k n) (⟨(Lib.itoa n).toArray⟩ : ByteArray) := by
  unfold spec_l01Dec.f
  by_cases hz : n = 0
  · subst hz
    refine Ev.step (fun k => by rw [spec_l01Dec.l0]) ?_
    refine ev_pos rfl (ev_pos rfl (ev_of (Ev.now _) ?_))
    rw [Lib.itoa, if_neg (by omega), show (0 : Int).toNat = 0 from rfl, Lib.decDigits, dif_pos (by omega)]
    rfl
  · have hl : (Lib.decDigits n.natAbs).length ≤ 20 := decDigits_len 19 n.natAbs (by omega)
    have hL : decL n.natAbs = numsOf (Lib.decDigits n.natAbs) := by rw [decL, if_neg (by omega)]
    have h := spec_dec_loop n.natAbs n.natAbs n n [] (Nat.le_refl _) (by omega) (by omega) (by rw [hL, List.append_nil, numsOf, List.length_map]; omega) (.inl (by omega))
    refine ev_of h ?_
    rw [List.append_nil, hL, str_nums]
    by_cases hn : n < 0
    · rw [if_pos hn, Lib.itoa, if_pos hn]
      apply bytes_inj
      simp [bytesOf]
    · rw [if_neg hn, Lib.itoa, if_neg hn, show n.natAbs = n.toNat by omega]
theorem impl_dec (n : Int) (h0 : -9223372036854775808 ≤ n) (h1 : n ≤ 9223372036854775807) : impl_Decimal.f n = some (⟨(Lib.itoa n).toArray⟩ : ByteArray) := by
  unfold impl_Decimal.f
  rw [if_pos (by omega), if_pos (by omega)]
end Go.Proofs.YtfenjlkopofopaaDoorB
end
