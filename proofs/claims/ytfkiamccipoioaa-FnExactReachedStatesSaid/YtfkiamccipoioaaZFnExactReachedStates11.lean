/- Texts of this claim, packed: Px25, H7, Open, Base, KdDeck, TyInt64, ToInt64, TyDeck. -/
import Derived.Deep.Slices
import Derived.Deep.Fields
import Derived.ChangeSame
import Derived.WideShapes
import Derived.Lib.Bytes
import Derived.Test.YtfkiamccipoioaaZFnExactReachedStates10
section
-- Written by gprint.py (own program, over the printer of the kit) out of the translation. Lean checks it.
namespace Go.Proofs.Ytfkiamccipoioaa.P
open Go.RowKit Go.Proofs.YtfkiamccipoioaaW.PrintWords Go.Proofs.YtfkiamccipoioaaW.PrintLast Go.Proofs.YtfkiamccipoioaaW.PrintMore Go.Proofs.YtfkiamccipoioaaW.Pk
open Bool renaming true → T_, false → F_
open List renaming setIfInBounds_toArray → sT_, set_cons_zero → s0_, set_cons_succ → sS_
attribute [local go_sem] max2_int min2_int max_two min_two max_three min_three max_four min_four   -- for this text's walks alone
set_option linter.unusedVariables false
set_option linter.unusedSimpArgs false

/-! ### spec_ReachedStates: function 37 -/
def spec_ReachedStates.f (k : Nat) (l0_0 : List Int) (l0_1 : List (List Int)) (a1 : ByteArray) : Option (Int × Int) := (spec_l20Code.f k l0_0 l0_1 a1).bind fun t550 => (if t550 = 0 then ((spec_l20All.f k l0_0 l0_1 a1).bind fun bt551 => (some ((bt551.1.length : Int), 0))) else (some (0, t550)))
set_option maxHeartbeats 8000000 in
set_option maxRecDepth 100000 in
theorem spec_ReachedStates.calls (k : Nat) (A0_0 : Option Addr) (c0_0 : Nat) (l0_0 : List Int) (A0_1 : Option Addr) (c0_1 : Nat) (l0_1 : List (List Int)) (a1 : ByteArray) (r1 : Int) (r2 : Int) (w : World) (hr0_0 : Kd.C (Kd.int .i64) w A0_0 l0_0.length l0_0) (hc0_0 : l0_0.length ≤ c0_0) (hr0_1 : Kd.C (Kd.slice 2 (Kd.int .i64)) w A0_1 l0_1.length l0_1) (hc0_1 : l0_1.length ≤ c0_1) (h : spec_ReachedStates.f k l0_0 l0_1 a1 = some (r1, r2)) :
  Calls Try.prog 37 #[.agg #[.slice A0_0 l0_0.length c0_0, .slice A0_1 l0_1.length c0_1], .string a1] w fun e w' => e = .returned (.tuple #[.int .i64 r1, .int .i64 r2]) ∧ Below w.heap.size w w' := by
 have hu28 := Try.underlying28
 have HR0_0 := Aside0.mk hr0_0
 have HC0_0 := Aside0.mk hc0_0
 clear hr0_0 hc0_0
 have HR0_1 := Aside0.mk hr0_1
 have HC0_1 := Aside0.mk hc0_1
 clear hr0_1 hc0_1
 have HB := Aside0.mk (Below.refl w.heap.size w)
 have H : ((spec_l20Code.f k l0_0 l0_1 a1).bind fun t550 => (if t550 = 0 then ((spec_l20All.f k l0_0 l0_1 a1).bind fun bt551 => (some ((bt551.1.length : Int), 0))) else (some (0, t550)))) = some (r1, r2) := h
 clear h
 replace H := Option.bind_eq_some_iff.mp H
 obtain ⟨t550, A30, H⟩ := H
 replace H : (if t550 = 0 then ((spec_l20All.f k l0_0 l0_1 a1).bind fun bt551 => (some ((bt551.1.length : Int), 0))) else (some (0, t550))) = some (r1, r2) := H
 have A3 := Aside0.mk A30
 clear A30
 by_cases c4 : t550 = 0
 ·rw [if_pos c4] at H
  have c4b0 : (t550 == 0) = true := beq_iff_eq.mpr c4
  have c4b1 : (t550 != 0) = false := bne_eq_false_iff_eq.mpr c4
  clear c4
  replace H := Option.bind_eq_some_iff.mp H
  obtain ⟨⟨t551, t554, t557⟩, A50, H⟩ := H
  replace H : (some ((t551.length : Int), 0)) = some (r1, r2) := H
  have A5 := Aside0.mk A50
  clear A50
  simp only [Option.some.injEq, Prod.mk.injEq] at H
  obtain ⟨rfl, rfl⟩ := H
  go_enter Try.func37, Try.ntmps37
  go_wp2_with (first | ((with_reducible refine gate_dst (N := 2) rfl ?_); refine box_event ?hg (N := 2) ?hd (cs := #[.slice A0_0 l0_0.length c0_0, .slice A0_1 l0_1.length c0_1]) (t := 28) ?hr ?_; (case hd => rfl); (case hg => rfl); (case hr => first | (go_simp; done) | (go_simp; rfl)); intro gb549 hg w6 hbox hb; have n0_ := Aside0.mk (below_step hb_ hb); have n1_ := Aside0.mk ((show IsS28 w _ gb549 l0_0 l0_1 from ⟨_, _, _, _, hbox, (by rw [hg]; exact (below_size hb_) : w.heap.size ≤ gb549), HR0_0.out, HR0_1.out⟩)); have n2_ := Aside0.mk ((by rw [hg]; exact (below_size hb_) : w.heap.size ≤ gb549)); have n3_ := Aside0.mk ((by rw [hg]; exact (below_size hb_) : w.heap.size ≤ gb549)); clear HB; have HB := n0_; have HI549 := n1_; have GW549 := n2_; have GE549 := n3_; clear n0_ n1_ n2_ n3_; clear hb hbox hg) | ((with_reducible refine gate_callee (f := 56) rfl ?_); refine goesL_ (some 11) rfl rfl Try.func56 (by kernel_rfl) rfl #[.pointer (some ⟨gb549, 0, none⟩), .string a1] rfl ln_ ?_; (with_reducible refine (spec_l20Code.calls k gb549 l0_0 l0_1 a1 t550 w _ ?side1 ?side2 A3.out).mono ?_); (case side1 => repeat (first | (with_reducible first | exact HI549.out | apply IsS28.alloc | apply IsS28.drewN | apply IsS28.drew) | exact HI549.out)); (case side2 => repeat (first | (with_reducible first | exact HB.out | apply below_alloc | apply pw_below_drewN | apply below_drew1 | refine below_set ?_ (IsS28.ge HI549.out)) | exact HB.out)); rintro e w7 ⟨rfl, hi, hb, hk⟩; refine ⟨_, rfl, ?_⟩; have n0_ := Aside0.mk (hb); have n1_ := Aside0.mk (hi); clear HB; clear HI549; have HB := n0_; have HI549 := n1_; clear n0_ n1_; (try clear hb); (try clear hb2); (try clear hk); (try clear hi)) | ((with_reducible refine gate_callee (f := 68) rfl ?_); refine goesL_ (some 17) rfl rfl Try.func68 (by kernel_rfl) rfl #[.pointer (some ⟨gb549, 0, none⟩), .string a1] rfl ln_ ?_; (with_reducible refine (spec_l20All.calls k gb549 l0_0 l0_1 a1 t551 t554 t557 w _ ?side1 ?side2 A5.out).mono ?_); (case side1 => repeat (first | (with_reducible first | exact HI549.out | apply IsS28.alloc | apply IsS28.drewN | apply IsS28.drew) | exact HI549.out)); (case side2 => repeat (first | (with_reducible first | exact HB.out | apply below_alloc | apply pw_below_drewN | apply below_drew1 | refine below_set ?_ (IsS28.ge HI549.out)) | exact HB.out)); rintro e w8 ⟨v552, v555, v558, rfl, ho0, ho1, ho2, hi, hb, hk⟩; refine ⟨_, rfl, ?_⟩; have n0_ := Aside0.mk (Kd.R_lower ho0 (below_size (by repeat (first | (with_reducible first | exact HB.out | apply below_alloc | apply pw_below_drewN | apply below_drew1 | refine below_set ?_ (IsS28.ge HI549.out)) | exact HB.out)))); have n1_ := Aside0.mk (Kd.R_lower ho1 (below_size (by repeat (first | (with_reducible first | exact HB.out | apply below_alloc | apply pw_below_drewN | apply below_drew1 | refine below_set ?_ (IsS28.ge HI549.out)) | exact HB.out)))); have n2_ := Aside0.mk (Kd.R_lower ho2 (below_size (by repeat (first | (with_reducible first | exact HB.out | apply below_alloc | apply pw_below_drewN | apply below_drew1 | refine below_set ?_ (IsS28.ge HI549.out)) | exact HB.out)))); have n3_ := Aside0.mk (hb); have n4_ := Aside0.mk (hi); clear HB; clear HI549; have HO553 := n0_; have HO556 := n1_; have HO559 := n2_; have HB := n3_; have HI549 := n4_; clear n0_ n1_ n2_ n3_ n4_; (try clear hb); (try clear hb2); (try clear hk); (try clear hi); (try clear ho0); (try clear ho1); (try clear ho2); obtain ⟨Ao9, co9, eo9⟩ := Kd.R_slice HO553.out; subst eo9))
  go_ret2
  exact ⟨ew_, by repeat (first | (with_reducible first | exact HB.out | apply below_alloc | apply pw_below_drewN | apply below_drew1 | refine below_set ?_ (IsS28.ge HI549.out)) | exact HB.out)⟩
 ·rw [if_neg c4] at H
  have c4b0 : (t550 == 0) = false := beq_eq_false_iff_ne.mpr c4
  have c4b1 : (t550 != 0) = true := bne_iff_ne.mpr c4
  simp only [Option.some.injEq, Prod.mk.injEq] at H
  obtain ⟨rfl, rfl⟩ := H
  go_enter Try.func37, Try.ntmps37
  go_wp2_with (first | ((with_reducible refine gate_dst (N := 2) rfl ?_); refine box_event ?hg (N := 2) ?hd (cs := #[.slice A0_0 l0_0.length c0_0, .slice A0_1 l0_1.length c0_1]) (t := 28) ?hr ?_; (case hd => rfl); (case hg => rfl); (case hr => first | (go_simp; done) | (go_simp; rfl)); intro gb549 hg w10 hbox hb; have n0_ := Aside0.mk (below_step hb_ hb); have n1_ := Aside0.mk ((show IsS28 w _ gb549 l0_0 l0_1 from ⟨_, _, _, _, hbox, (by rw [hg]; exact (below_size hb_) : w.heap.size ≤ gb549), HR0_0.out, HR0_1.out⟩)); have n2_ := Aside0.mk ((by rw [hg]; exact (below_size hb_) : w.heap.size ≤ gb549)); have n3_ := Aside0.mk ((by rw [hg]; exact (below_size hb_) : w.heap.size ≤ gb549)); clear HB; have HB := n0_; have HI549 := n1_; have GW549 := n2_; have GE549 := n3_; clear n0_ n1_ n2_ n3_; clear hb hbox hg) | ((with_reducible refine gate_callee (f := 56) rfl ?_); refine goesL_ (some 11) rfl rfl Try.func56 (by kernel_rfl) rfl #[.pointer (some ⟨gb549, 0, none⟩), .string a1] rfl ln_ ?_; (with_reducible refine (spec_l20Code.calls k gb549 l0_0 l0_1 a1 t550 w _ ?side1 ?side2 A3.out).mono ?_); (case side1 => repeat (first | (with_reducible first | exact HI549.out | apply IsS28.alloc | apply IsS28.drewN | apply IsS28.drew) | exact HI549.out)); (case side2 => repeat (first | (with_reducible first | exact HB.out | apply below_alloc | apply pw_below_drewN | apply below_drew1 | refine below_set ?_ (IsS28.ge HI549.out)) | exact HB.out)); rintro e w11 ⟨rfl, hi, hb, hk⟩; refine ⟨_, rfl, ?_⟩; have n0_ := Aside0.mk (hb); have n1_ := Aside0.mk (hi); clear HB; clear HI549; have HB := n0_; have HI549 := n1_; clear n0_ n1_; (try clear hb); (try clear hb2); (try clear hk); (try clear hi)))
  go_ret2
  exact ⟨ew_, by repeat (first | (with_reducible first | exact HB.out | apply below_alloc | apply pw_below_drewN | apply below_drew1 | refine below_set ?_ (IsS28.ge HI549.out)) | exact HB.out)⟩

end Go.Proofs.Ytfkiamccipoioaa.P
end

section
namespace Go.Proofs.Ytfkiamccipoioaa.P
open Go.RowKit Go.Proofs.YtfkiamccipoioaaW.Hand Go.Proofs.YtfkiamccipoioaaW.PrintWords Go.Proofs.YtfkiamccipoioaaW.PrintLast Go.Proofs.YtfkiamccipoioaaW.PrintMore Go.Proofs.YtfkiamccipoioaaW.Pk
set_option linter.unusedVariables false
set_option linter.unusedSimpArgs false

def deck10.T12 : Bool × List (List Nat × List Nat) := (true, [([], []), ([], []), ([1], [1]), ([0, 2, 2], [0, 2]), ([3], [3])])
def deck10.B12 : List Nat := [0, 0, 2, 7, 15]
theorem deck10.tab12 : rtab .any (opsOf Try.f10 12) = deck10.T12 := by kernel_rfl
theorem deck10.bits12 : waitsOk deck10.T12.2 deck10.B12 = true := by kernel_rfl
def laws_FnExactReachedStates.f (k : Nat) (l0_0 : List Int) (l0_1 : List (List Int)) (a1 : ByteArray) : Option Bool := if (a1.size : Int) > 1048576 then some true else ((laws_szDeck.f k l0_0 l0_1 1048576).bind fun t => if t < 0 then some true else (laws_toDeck.f k l0_0 l0_1).bind fun x => (spec_ReachedStates.f k x.1 x.2 a1).bind fun s => (impl_ReachedStates.f k x.1 x.2 a1).bind fun g => if g.1 = s.1 then (if g.2 = s.2 then ((laws_eqDeck.f k x.1 x.2 x.1 x.2).bind fun e2 => if e2 = true then some true else none) else none) else none)
set_option maxRecDepth 100000 in
set_option maxHeartbeats 8000000 in
theorem laws_FnExactReachedStates.calls (k : Nat) (A0_0 : Option Addr) (c0_0 : Nat) (l0_0 : List Int) (A0_1 : Option Addr) (c0_1 : Nat) (l0_1 : List (List Int)) (a1 : ByteArray) (r : Bool) (w : World) (hr0_0 : Kd.C (Kd.int .i64) w A0_0 l0_0.length l0_0) (hc0_0 : l0_0.length ≤ c0_0) (hr0_1 : Kd.C (Kd.slice 2 (Kd.int .i64)) w A0_1 l0_1.length l0_1) (hc0_1 : l0_1.length ≤ c0_1) (h : laws_FnExactReachedStates.f k l0_0 l0_1 a1 = some r) :
    Calls Try.prog 10 #[.agg #[.slice A0_0 l0_0.length c0_0, .slice A0_1 l0_1.length c0_1], .string a1] w fun e w' => e = .returned (.bool r) ∧ Below w.heap.size w w' := by
  have hu25 := Try.underlying25
  have hu28 := Try.underlying28
  have HR0_0 := Aside0.mk hr0_0
  have HC0_0 := Aside0.mk hc0_0
  have HR0_1 := Aside0.mk hr0_1
  have HC0_1 := Aside0.mk hc0_1
  clear hr0_0 hc0_0 hr0_1 hc0_1
  unfold laws_FnExactReachedStates.f at h
  by_cases s0 : (a1.size : Int) > 1048576
  · rw [if_pos s0] at h
    obtain rfl := Option.some.inj h
    have s0b : decide (1048576 < (a1.size : Int)) = true := decide_eq_true s0
    have s0c : decide (1048576 < a1.size) = true := decide_eq_true (by omega)
    clear s0 h
    go_enter Try.func10, Try.ntmps10
    go_wp2_with (first | ((with_reducible refine gate_dst (N := 2) rfl ?_); refine box_event ?hg (N := 2) ?hd (cs := #[.slice A0_0 l0_0.length c0_0, .slice A0_1 l0_1.length c0_1]) (t := 25) ?hr ?_; (case hd => rfl); (case hg => rfl); (case hr => first | (go_simp; done) | (go_simp; rfl)); intro gb hg w1 hbox hb; have M1 : Aside0 (MI w w1 gb #[.slice A0_0 l0_0.length c0_0, .slice A0_1 l0_1.length c0_1]) := ⟨⟨hb, hbox, by rw [hg]; exact Nat.le_refl _⟩⟩; clear hb hbox hg; have hzgb_0 : w1.cell? ⟨gb, 0, none⟩ = some (.slice A0_0 l0_0.length c0_0) := (blk_cell M1.out.box 0).trans rfl; have hzgb_1 : w1.cell? ⟨gb, 1, none⟩ = some (.slice A0_1 l0_1.length c0_1) := (blk_cell M1.out.box 1).trans rfl))
    go_ret
    exact ⟨rfl, M1.out.below⟩
  rw [if_neg s0] at h
  have s0b : decide (1048576 < (a1.size : Int)) = false := decide_eq_false s0
  have s0c : decide (1048576 < a1.size) = false := decide_eq_false (by omega)
  clear s0
  replace h := Option.bind_eq_some_iff.mp h
  obtain ⟨t, a_, h⟩ := h
  try dsimp only at h a_
  have AT := Aside0.mk a_
  clear a_
  by_cases ct : t < 0
  · rw [if_pos ct] at h
    obtain rfl := Option.some.inj h
    have ctb : decide (t < 0) = true := decide_eq_true ct
    clear ct h
    go_enter Try.func10, Try.ntmps10
    go_wp2_with (first | ((with_reducible refine gate_dst (N := 2) rfl ?_); refine box_event ?hg (N := 2) ?hd (cs := #[.slice A0_0 l0_0.length c0_0, .slice A0_1 l0_1.length c0_1]) (t := 25) ?hr ?_; (case hd => rfl); (case hg => rfl); (case hr => first | (go_simp; done) | (go_simp; rfl)); intro gb hg w1 hbox hb; have M1 : Aside0 (MI w w1 gb #[.slice A0_0 l0_0.length c0_0, .slice A0_1 l0_1.length c0_1]) := ⟨⟨hb, hbox, by rw [hg]; exact Nat.le_refl _⟩⟩; clear hb hbox hg; have hzgb_0 : w1.cell? ⟨gb, 0, none⟩ = some (.slice A0_0 l0_0.length c0_0) := (blk_cell M1.out.box 0).trans rfl; have hzgb_1 : w1.cell? ⟨gb, 1, none⟩ = some (.slice A0_1 l0_1.length c0_1) := (blk_cell M1.out.box 1).trans rfl) | ((with_reducible refine gate_callee (f := 15) rfl ?_); refine goesL_ (some 16) rfl rfl Try.func15 (by kernel_rfl) rfl #[.agg #[.slice A0_0 l0_0.length c0_0, .slice A0_1 l0_1.length c0_1], .int .i64 1048576] rfl ln_ ?_; refine (laws_szDeck.calls k _ _ l0_0 _ _ l0_1 1048576 t _ (Kd.C_below HR0_0.out M1.out.below) HC0_0.out (Kd.C_below HR0_1.out M1.out.below) HC0_1.out AT.out).mono ?_; rintro e w2 ⟨rfl, hb⟩; refine ⟨_, rfl, ?_⟩; have M2 := Aside0.mk (M1.out.step hb); clear hb hzgb_0 hzgb_1; have hzgb_0 : w2.cell? ⟨gb, 0, none⟩ = some (.slice A0_0 l0_0.length c0_0) := (blk_cell M2.out.box 0).trans rfl; have hzgb_1 : w2.cell? ⟨gb, 1, none⟩ = some (.slice A0_1 l0_1.length c0_1) := (blk_cell M2.out.box 1).trans rfl))
    go_ret
    exact ⟨rfl, M2.out.below⟩
  rw [if_neg ct] at h
  have ctb : decide (t < 0) = false := decide_eq_false ct
  clear ct
  replace h := Option.bind_eq_some_iff.mp h
  obtain ⟨⟨x0, x1⟩, a_, h⟩ := h
  try dsimp only at h a_
  have AX := Aside0.mk a_
  clear a_
  replace h := Option.bind_eq_some_iff.mp h
  obtain ⟨⟨s0, s1⟩, a_, h⟩ := h
  try dsimp only at h a_
  have AS := Aside0.mk a_
  clear a_
  replace h := Option.bind_eq_some_iff.mp h
  obtain ⟨⟨g0, g1⟩, a_, h⟩ := h
  try dsimp only at h a_
  have AG := Aside0.mk a_
  clear a_
  by_cases c_ : g0 = s0
  rotate_left
  · rw [if_neg c_] at h; exact absurd h (by simp)
  rw [if_pos c_] at h
  subst c_
  by_cases c_ : g1 = s1
  rotate_left
  · rw [if_neg c_] at h; exact absurd h (by simp)
  rw [if_pos c_] at h
  subst c_
  replace h := Option.bind_eq_some_iff.mp h
  obtain ⟨e2, a_, h⟩ := h
  try dsimp only at h a_
  have AE2 := Aside0.mk a_
  clear a_
  by_cases c_ : e2 = true
  rotate_left
  · rw [if_neg c_] at h; exact absurd h (by simp)
  rw [if_pos c_] at h
  subst c_
  obtain rfl := Option.some.inj h
  clear h
  have hne1 : (g1 != g1) = false := bne_self_eq_false g1
  have hne2 : (g0 != g0) = false := bne_self_eq_false g0
  go_enter Try.func10, Try.ntmps10
  go_wp2_with (first
    | ((with_reducible refine gate_dst (N := 2) rfl ?_); refine box_event ?hg (N := 2) ?hd (cs := #[.slice A0_0 l0_0.length c0_0, .slice A0_1 l0_1.length c0_1]) (t := 25) ?hr ?_; (case hd => rfl); (case hg => rfl); (case hr => first | (go_simp; done) | (go_simp; rfl)); intro gb hg w1 hbox hb; have M1 : Aside0 (MI w w1 gb #[.slice A0_0 l0_0.length c0_0, .slice A0_1 l0_1.length c0_1]) := ⟨⟨hb, hbox, by rw [hg]; exact Nat.le_refl _⟩⟩; clear hb hbox hg; have hzgb_0 : w1.cell? ⟨gb, 0, none⟩ = some (.slice A0_0 l0_0.length c0_0) := (blk_cell M1.out.box 0).trans rfl; have hzgb_1 : w1.cell? ⟨gb, 1, none⟩ = some (.slice A0_1 l0_1.length c0_1) := (blk_cell M1.out.box 1).trans rfl)
    | ((with_reducible refine gate_callee (f := 15) rfl ?_); refine goesL_ (some 16) rfl rfl Try.func15 (by kernel_rfl) rfl #[.agg #[.slice A0_0 l0_0.length c0_0, .slice A0_1 l0_1.length c0_1], .int .i64 1048576] rfl ln_ ?_; refine (laws_szDeck.calls k _ _ l0_0 _ _ l0_1 1048576 t _ (Kd.C_below HR0_0.out M1.out.below) HC0_0.out (Kd.C_below HR0_1.out M1.out.below) HC0_1.out AT.out).mono ?_; rintro e w2 ⟨rfl, hb⟩; refine ⟨_, rfl, ?_⟩; have M2 := Aside0.mk (M1.out.step hb); clear hb hzgb_0 hzgb_1; have hzgb_0 : w2.cell? ⟨gb, 0, none⟩ = some (.slice A0_0 l0_0.length c0_0) := (blk_cell M2.out.box 0).trans rfl; have hzgb_1 : w2.cell? ⟨gb, 1, none⟩ = some (.slice A0_1 l0_1.length c0_1) := (blk_cell M2.out.box 1).trans rfl)
    | ((with_reducible refine gate_callee (f := 17) rfl ?_); refine goesL_ (some 21) rfl rfl Try.func17 (by kernel_rfl) rfl #[.agg #[.slice A0_0 l0_0.length c0_0, .slice A0_1 l0_1.length c0_1]] rfl ln_ ?_; refine (laws_toDeck.calls k _ _ l0_0 _ _ l0_1 x0 x1 _ (Kd.C_below HR0_0.out M2.out.below) HC0_0.out (Kd.C_below HR0_1.out M2.out.below) HC0_1.out AX.out).mono ?_; rintro e w3 ⟨v0, v1, rfl, hr0, hr1, hb⟩; refine ⟨_, rfl, ?_⟩; have M3 := Aside0.mk (M2.out.step hb); obtain ⟨Ax, cx, ex⟩ := Kd.R_slice hr0; subst ex; obtain ⟨Ay, cy, ey⟩ := Kd.S_slice hr1; subst ey; have X0 := Aside0.mk hr0; have X1 := Aside0.mk (Kd.S_R hr1); clear hb hr0 hr1 hzgb_0 hzgb_1)
    | ((with_reducible refine gate_callee (f := 37) rfl ?_); refine goesL_ (some 23) rfl rfl Try.func37 (by kernel_rfl) rfl #[.agg #[.slice Ax x0.length cx, .slice Ay x1.length cy], .string a1] rfl ln_ ?_; refine (spec_ReachedStates.calls k _ _ x0 _ _ x1 a1 g0 g1 _ (Kd.R_reads' X0.out).2.2 (Kd.R_reads' X0.out).2.1 (Kd.R_reads' X1.out).2.2 (Kd.R_reads' X1.out).2.1 AS.out).mono ?_; rintro e w4 ⟨rfl, hb⟩; refine ⟨_, rfl, ?_⟩; have M4 := Aside0.mk (M3.out.step hb); clear hb X0 X1; have hzgb_0 : w4.cell? ⟨gb, 0, none⟩ = some (.slice A0_0 l0_0.length c0_0) := (blk_cell M4.out.box 0).trans rfl; have hzgb_1 : w4.cell? ⟨gb, 1, none⟩ = some (.slice A0_1 l0_1.length c0_1) := (blk_cell M4.out.box 1).trans rfl)
    | ((with_reducible refine gate_callee (f := 17) rfl ?_); refine goesL_ (some 27) rfl rfl Try.func17 (by kernel_rfl) rfl #[.agg #[.slice A0_0 l0_0.length c0_0, .slice A0_1 l0_1.length c0_1]] rfl ln_ ?_; refine (laws_toDeck.calls k _ _ l0_0 _ _ l0_1 x0 x1 _ (Kd.C_below HR0_0.out M4.out.below) HC0_0.out (Kd.C_below HR0_1.out M4.out.below) HC0_1.out AX.out).mono ?_; rintro e w5 ⟨v0, v1, rfl, hr0, hr1, hb⟩; refine ⟨_, rfl, ?_⟩; have M5 := Aside0.mk (M4.out.step hb); have Y0 := Aside0.mk (R_self hr0); have Y1 := Aside0.mk (Kd.R_bound (Kd.S_R hr1)); clear hb hr0 hr1 hzgb_0 hzgb_1; obtain ⟨Ap, cp, ep⟩ := Kd.R_slice Y0.out; subst ep; obtain ⟨Aq, cq, eq_⟩ := Kd.R_slice Y1.out; subst eq_)
    | ((with_reducible refine gate_dst (N := 8) rfl ?_); refine box_event ?hg (N := 8) ?hd (cs := #[.slice none 0 0, .slice none 0 0]) (t := 28) ?hr ?_; (case hd => rfl); (case hg => rfl); (case hr => first | (go_simp; done) | (go_simp; rfl)); intro gc hg w6 hbox hb; have B6 := Aside0.mk (⟨hb, hbox, hg⟩ : Below w5.heap.size w5 w6 ∧ w6.heap[gc]? = some (.cells #[.slice none 0 0, .slice none 0 0] 28 (0, 0)) ∧ gc = w5.heap.size); clear hb hbox hg)
    | (refine hand_store (fun W_ => Below w5.heap.size w5 W_ ∧ W_.heap[gc]? = some (.cells #[.slice Ap x0.length cp, .slice Aq x1.length cq] 28 (0, 0))) (t := 28) (p := 8) (v := .tmp 27) (w1 := (w6.setCell ⟨gc, 0, none⟩ (.slice Ap x0.length cp)).setCell ⟨gc, 1, none⟩ (.slice Aq x1.length cq)) ?hg rfl ?hN ?hr ?hF ?_; (case hg => rfl); (case hN => rfl); (case hr => have hz0 : w6.cell? ⟨gc, 0, none⟩ = some (.slice none 0 0) := (blk_cell B6.out.2.1 0).trans rfl; have hz1 : w6.cell? ⟨gc, 1, none⟩ = some (.slice none 0 0) := (blk_cell B6.out.2.1 1).trans rfl; have hf0 := blk_frozen B6.out.2.1 0; have hf1 := blk_frozen B6.out.2.1 1; first | (go_simp; done) | (go_simp; rfl)); (case hF => exact ⟨(B6.out.1.setCell (p := ⟨gc, 0, none⟩) (Nat.le_of_eq B6.out.2.2.symm) _).setCell (p := ⟨gc, 1, none⟩) (Nat.le_of_eq B6.out.2.2.symm) _, blk_put (cs := #[.slice Ap x0.length cp, .slice none 0 0]) (blk_put (cs := #[.slice none 0 0, .slice none 0 0]) B6.out.2.1 0 _ rfl) 1 _ rfl⟩); intro w7 h7; have B7 := Aside0.mk h7.2; have M7 := Aside0.mk (M5.out.step h7.1); have P0 := Aside0.mk (Kd.R_below Y0.out h7.1); have P1 := Aside0.mk (Kd.R_below Y1.out h7.1); clear h7 B6 Y0 Y1; have hzgc_0 : w7.cell? ⟨gc, 0, none⟩ = some (.slice Ap x0.length cp) := (blk_cell B7.out 0).trans rfl; have hzgc_1 : w7.cell? ⟨gc, 1, none⟩ = some (.slice Aq x1.length cq) := (blk_cell B7.out 1).trans rfl)
    | ((with_reducible refine gate_callee (f := 38) rfl ?_); refine goesL_ (some 31) rfl rfl Try.func38 (by kernel_rfl) rfl #[.agg #[.slice Ap x0.length cp, .slice Aq x1.length cq], .string a1] rfl ln_ ?_; refine (impl_ReachedStates.calls k _ _ x0 _ _ x1 a1 g0 g1 _ (Kd.R_reads' P0.out).2.2 (Kd.R_reads' P0.out).2.1 (Kd.R_reads' P1.out).2.2 (Kd.R_reads' P1.out).2.1 AG.out).mono ?_; rintro e w8 ⟨rfl, hb⟩; refine ⟨_, rfl, ?_⟩; have M9 := Aside0.mk (M7.out.step hb); have B9 := Aside0.mk (blk_below B7.out hb); have P09 := Aside0.mk (Kd.R_below P0.out hb); have P19 := Aside0.mk (Kd.R_below P1.out hb); clear hb hzgc_0 hzgc_1 P0 P1 B7))
  have hdr := below_drew (Below.refl w8.heap.size w8)
  have M9d := Aside0.mk (M9.out.step hdr)
  have B9d := Aside0.mk (blk_below B9.out hdr)
  have P09d := Aside0.mk (Kd.R_below P09.out hdr)
  have P19d := Aside0.mk (Kd.R_below P19.out hdr)
  clear hdr M9 B9 P09 P19
  have M9 := M9d
  have B9 := B9d
  have P09 := P09d
  have P19 := P19d
  clear M9d B9d P09d P19d
  refine start_ (n := 5) (S := fun w' => w'.cell? ⟨gc, 0, none⟩ = some (.slice Ap x0.length cp) ∧ w'.cell? ⟨gc, 1, none⟩ = some (.slice Aq x1.length cq) ∧ w'.cell? ⟨gb, 0, none⟩ = some (.slice A0_0 l0_0.length c0_0) ∧ w'.cell? ⟨gb, 1, none⟩ = some (.slice A0_1 l0_1.length c0_1)) (ds := []) #[false, false, false, false, false] (by kernel_rfl) rfl rfl ⟨(blk_cell B9.out 0).trans rfl, (blk_cell B9.out 1).trans rfl, (blk_cell M9.out.box 0).trans rfl, (blk_cell M9.out.box 1).trans rfl⟩ (fun hHeld => ?_); refine with_tabW deck10.tab12 deck10.bits12 (fun HT_ HW_ => ?_)
  generalize w8.drew = w9d at M9 B9 P09 P19 hHeld ⊢
  refine take_ (i := 0) (N := some 42) (v := ?_) (a' := ?_) #[true, false, false, false, false] rfl rfl (take_ofW HT_.out HW_.out (by kernel_rfl)) (fun _ _ _ h => h) (Or.inl ⟨by rfl, ?_⟩) hHeld ?_ ?_
  rotate_left
  · rintro w' ⟨s0, s1, s2, s3⟩
    go_simp
    with_reducible rfl
  rotate_left
  · simp only [Act.put, List.setIfInBounds_toArray, List.set_cons_zero, List.set_cons_succ, i64_w, i32_w]
    rfl
  refine take_ (i := 1) (N := some 43) (v := ?_) (a' := ?_) #[true, true, false, false, false] rfl rfl (take_ofW HT_.out HW_.out (by kernel_rfl)) (fun _ _ _ h => h) (Or.inl ⟨by rfl, ?_⟩) hHeld ?_ ?_
  rotate_left
  · rintro w' ⟨s0, s1, s2, s3⟩
    go_simp
    with_reducible rfl
  rotate_left
  · simp only [Act.put, List.setIfInBounds_toArray, List.set_cons_zero, List.set_cons_succ, i64_w, i32_w]
    rfl
  refine one_ (i := 2) (N := (some 44)) #[true, true, true, false, false] rfl rfl (one_of HT_.out (by kernel_rfl)) (by decide) (fun K hK => ?_)
  refine goes_ Try.func17 (by kernel_rfl) rfl #[.agg #[.slice A0_0 l0_0.length c0_0, .slice A0_1 l0_1.length c0_1]] (by rfl) rfl rfl ln_ ?_
  refine (laws_toDeck.calls k _ _ l0_0 _ _ l0_1 x0 x1 _ (Kd.C_below HR0_0.out M9.out.below) HC0_0.out (Kd.C_below HR0_1.out M9.out.below) HC0_1.out AX.out).mono ?_
  rintro e w10 ⟨v0, v1, rfl, hr0, hr1, hb⟩
  refine ⟨_, rfl, ?_⟩
  have M10 := Aside0.mk (M9.out.step hb)
  have B10 := Aside0.mk (blk_below B9.out hb)
  have P010 := Aside0.mk (Kd.R_below P09.out hb)
  have P110 := Aside0.mk (Kd.R_below P19.out hb)
  obtain ⟨Ax, cx, ex⟩ := Kd.R_slice hr0
  subst ex
  obtain ⟨Ay, cy, ey⟩ := Kd.S_slice hr1
  subst ey
  have X0 := Aside0.mk hr0
  have X1 := Aside0.mk (Kd.S_R hr1)
  clear hb hr0 hr1 P09 P19 B9
  refine hK.out _ _ ⟨(blk_cell B10.out 0).trans rfl, (blk_cell B10.out 1).trans rfl, (blk_cell M10.out.box 0).trans rfl, (blk_cell M10.out.box 1).trans rfl⟩ (fun hHeld => ?_)
  clear hK K
  refine norm_ (a' := ?_) ?_ ?_
  rotate_left
  · show Act.put _ (some 44) _ = _
    simp only [Act.put, List.setIfInBounds_toArray, List.set_cons_zero, List.set_cons_succ, i64_w, i32_w]
    rfl
  refine one_ (i := 3) (N := (some 45)) #[true, true, true, true, false] rfl rfl (one_of HT_.out (by kernel_rfl)) (by decide) (fun K hK => ?_)
  refine goes_ Try.func19 (by kernel_rfl) rfl #[.agg #[.slice Ap x0.length cp, .slice Aq x1.length cq], .agg #[.slice Ax x0.length cx, .slice Ay x1.length cy]] (by rfl) rfl rfl ln_ ?_
  refine (laws_eqDeck.calls k _ _ x0 _ _ x1 _ _ x0 _ _ x1 true _ (Kd.R_reads' P010.out).2.2 (Kd.R_reads' P010.out).2.1 (Kd.R_reads' P110.out).2.2 (Kd.R_reads' P110.out).2.1 (Kd.R_reads' X0.out).2.2 (Kd.R_reads' X0.out).2.1 (Kd.R_reads' X1.out).2.2 (Kd.R_reads' X1.out).2.1 AE2.out).mono ?_
  rintro e w11 ⟨rfl, hb⟩
  refine ⟨_, rfl, ?_⟩
  have M11 := Aside0.mk (M10.out.step hb)
  have B11 := Aside0.mk (blk_below B10.out hb)
  clear hb X0 X1 P010 P110 B10
  refine hK.out _ _ ⟨(blk_cell B11.out 0).trans rfl, (blk_cell B11.out 1).trans rfl, (blk_cell M11.out.box 0).trans rfl, (blk_cell M11.out.box 1).trans rfl⟩ (fun hHeld => ?_)
  clear hK K
  refine norm_ (a' := ?_) ?_ ?_
  rotate_left
  · show Act.put _ (some 45) _ = _
    simp only [Act.put, List.setIfInBounds_toArray, List.set_cons_zero, List.set_cons_succ, i64_w, i32_w]
    rfl
  refine pu (i := 4) (N := some 46) #[true, true, true, true, true] HT_ ?_
  refine done_ (done_of HT_.out (by kernel_rfl)) ?_
  go_wp2_with fail
  go_ret
  exact ⟨rfl, M11.out.below⟩
end Go.Proofs.Ytfkiamccipoioaa.P
end

section
/- How an argument of a law reads: out of the form's reading (trod) of a value comes the list or structure that the printed contracts speak of. -/
namespace Go.Proofs.YtfkiamccipoioaaOp
open Go.RowKit Go.ChangeShapes Go.WideShapes Go.Deep Go.Proofs.YtfkiamccipoioaaW.PrintWords

/-- Every reading of cells at type t gives a value of this kind with the property Q. -/
structure Opens (P : Program) (t : TypeId) {α : Type} (d : Kd α) (Q : α → Prop) : Prop where
  mk ::
  out : ∀ {H : Type} (enc : TypeId × Value → H) (w : World) (base : Nat) (spare : Nat → Bool) (held : Bool) (fuel : Nat) (cs : List Value) (x : DataW H × List MemPlace), DataW.trod enc P w base spare held fuel t cs = some x → ∃ a, d.K w a cs ∧ Q a

theorem opens_int {P : Program} {t : TypeId} {k : IntKind} (ht : P.underlying t = some (.int k)) : Opens P t (Kd.int k) (fun n => (Lit.int k n).wf = true) :=
  ⟨fun enc w base spare held fuel cs x h => by
    obtain ⟨n, rfl, _, hw⟩ := DataW.trod_int ht h
    exact ⟨n, rfl, hw⟩⟩
theorem list_of_index {α : Type} (p : Nat → α → Prop) : ∀ n : Nat, (∀ i, i < n → ∃ x, p i x) → ∃ xs : List α, xs.length = n ∧ ∀ i x, xs[i]? = some x → p i x := by
  intro n
  induction n with
  | zero => intro _; exact ⟨[], rfl, fun i x h => by simp at h⟩
  | succ n ih =>
    intro h
    obtain ⟨xs, hl, hx⟩ := ih (fun i hi => h i (Nat.lt_succ_of_lt hi))
    obtain ⟨y, hy⟩ := h n (Nat.lt_succ_self n)
    refine ⟨xs ++ [y], by simp [hl], fun i x hi => ?_⟩
    rcases Nat.lt_or_ge i xs.length with h1 | h1
    · rw [List.getElem?_append_left h1] at hi
      exact hx i x hi
    · have h2 : i < (xs ++ [y]).length := (List.getElem?_eq_some_iff.1 hi).1
      have h3 : i = n := by simp at h2; omega
      subst h3
      rw [← hl, List.getElem?_append_right (Nat.le_refl _)] at hi
      simp at hi
      subst hi
      exact hy

theorem opens_slice {P : Program} {t e : TypeId} {α : Type} {d : Kd α} {Q : α → Prop} (ht : P.underlying t = some (.slice e)) (hd : Opens P e d Q) (hc : P.cellsOf e = d.sz) (e' : Nat) :
    Opens P t (Kd.slice e' d) (fun xs => xs.length ≤ maxLen ∧ ∀ x ∈ xs, Q x) :=
  ⟨fun enc w base spare held fuel cs x h => by
    rcases open_slice ht h with ⟨rfl, _⟩ | ⟨a, len, cap, m, n, D, Pl, rfl, hb, hl, hm, hmm, _, hx⟩
    · exact ⟨[], ⟨none, 0, rfl, Nat.le_refl _, rfl, by simp, fun h0 => absurd h0 (by simp)⟩, by simp [maxLen], fun y hy => by simp at hy⟩
    · have hlm : len ≤ m := by rw [hmm]; split <;> omega
      obtain ⟨xs, hxl, hxs⟩ := list_of_index (fun i (y : α) => Q y ∧ ∃ c, d.K w y c ∧ c.length = d.sz ∧ ∀ j u, c[j]? = some u → w.cell? (a.add (i * d.sz + j)) = some u) len (fun i hi => by
        obtain ⟨cs', h1, h2⟩ := hx i (by omega)
        obtain ⟨y, hK, hQ⟩ := hd.out enc w base spare held n cs' _ h2
        refine ⟨y, hQ, cs', hK, d.K_len hK, fun j u hj => ?_⟩
        rw [hc] at h1
        obtain ⟨_, hcl, hat⟩ := World.cells?_some h1
        have hjl : j < d.sz := by
          have := (List.getElem?_eq_some_iff.1 hj).1
          rw [hcl] at this
          exact this
        rw [← Go.Deep.add_add, hat j hjl]
        exact hj)
      subst hxl
      have hmax : xs.length ≤ maxLen := Nat.le_trans hl hm
      refine ⟨xs, ⟨some a, cap, rfl, hl, rfl, by unfold maxLen at hmax; omega, fun _ => ⟨a, rfl, fun j p hj => ?_⟩⟩, hmax, fun y hy => ?_⟩
      · obtain ⟨_, c, h1, h2, h3⟩ := hxs j p hj
        exact ⟨c, h2, h1, h3⟩
      · obtain ⟨i, hi⟩ := List.mem_iff_getElem?.1 hy
        exact (hxs i y hi).1⟩

theorem opens_iso {P : Program} {t : TypeId} {α β : Type} {d : Kd α} {Q : α → Prop} (h : Opens P t d Q) (f : β → α) (g : α → β) (hfg : ∀ x, f (g x) = x) : Opens P t (Kd.iso d f) (fun y => Q (f y)) :=
  ⟨fun enc w base spare held fuel cs x hx => by
    obtain ⟨a, hK, hQ⟩ := h.out enc w base spare held fuel cs x hx
    exact ⟨g a, by show d.K w (f (g a)) cs; rw [hfg]; exact hK, by rw [hfg]; exact hQ⟩⟩

/-- The cells from 'off' on are read field by field. -/
structure OpensFs (P : Program) (fs : List Field) (off : Nat) {α : Type} (d : Kd α) (Q : α → Prop) : Prop where
  mk ::
  out : ∀ {H : Type} (enc : TypeId × Value → H) (w : World) (base : Nat) (spare : Nat → Bool) (held : Bool) (n : Nat) (cs : List Value), cs.length = off + d.sz →
    (∀ f ∈ fs, ∃ y, DataW.trod enc P w base spare held n f.type ((cs.drop f.offset).take (P.cellsOf f.type)) = some y) → ∃ a, d.K w a (cs.drop off) ∧ Q a
theorem opens_last {P : Program} {f : Field} {off : Nat} {α : Type} {d : Kd α} {Q : α → Prop} (h : Opens P f.type d Q) (ho : f.offset = off) (hs : P.cellsOf f.type = d.sz) : OpensFs P [f] off d Q :=
  ⟨fun enc w base spare held n cs hl hf => by
    obtain ⟨y, hy⟩ := hf f (List.mem_singleton.2 rfl)
    rw [ho, hs, List.take_of_length_le (by rw [List.length_drop]; omega)] at hy
    exact h.out enc w base spare held n _ y hy⟩
theorem opens_cons {P : Program} {f : Field} {fs : List Field} {off : Nat} {α β : Type} {d : Kd α} {d2 : Kd β} {Q : α → Prop} {Q2 : β → Prop} (h : Opens P f.type d Q) (ho : f.offset = off) (hs : P.cellsOf f.type = d.sz) (h2 : OpensFs P fs (off + d.sz) d2 Q2) :
    OpensFs P (f :: fs) off (Kd.pair d d2) (fun x => Q x.1 ∧ Q2 x.2) :=
  ⟨fun enc w base spare held n cs hl hf => by
    have hl' : cs.length = off + (d.sz + d2.sz) := hl
    obtain ⟨y, hy⟩ := hf f List.mem_cons_self
    rw [ho, hs] at hy
    obtain ⟨a, hK, hQ⟩ := h.out enc w base spare held n _ y hy
    obtain ⟨b, hK2, hQ2⟩ := h2.out enc w base spare held n cs (by omega) (fun g hg => hf g (List.mem_cons_of_mem _ hg))
    refine ⟨(a, b), ⟨(cs.drop off).take d.sz, cs.drop (off + d.sz), ?_, hK, hK2⟩, hQ, hQ2⟩
    rw [← List.drop_drop, List.take_append_drop]⟩
theorem opens_struct {P : Program} {t : TypeId} {fs : List Field} {α : Type} {d : Kd α} {Q : α → Prop} (ht : P.underlying t = some (.struct fs.toArray)) (hs : P.cellsOf t = d.sz) (h : OpensFs P fs 0 d Q) : Opens P t d Q :=
  ⟨fun enc w base spare held fuel cs x hx => by
    obtain ⟨xs, n, _, _, hl, hlen, hf⟩ := DataW.trod_struct ht hx
    have := h.out enc w base spare held n cs (by rw [hl, hs]; omega) (fun f hmem => by
      obtain ⟨i, hi⟩ := List.mem_iff_getElem?.1 hmem
      have h1 : fs.toArray[i]? = some f := by simpa using hi
      have h2 := hf i f h1
      have h3 : i < fs.length := (List.getElem?_eq_some_iff.1 hi).1
      have h4 : i < xs.length := by rw [hlen]; simpa using h3
      exact ⟨_, h2.trans (List.getElem?_eq_getElem h4)⟩)
    simpa using this⟩

/-- A struct by value, as an argument. -/
theorem arg_struct {H : Type} {enc : TypeId × Value → H} {P : Program} {w : World} {base : Nat} {spare : Nat → Bool} {held : Bool} {t : TypeId} {α : Type} {d : Kd α} {Q : α → Prop} {cs : Array Value} {y : DataW H} {p : List MemPlace}
    (ho : Opens P t d Q) (h : DataW.Trod enc P w base spare held t (.agg cs) y p) : ∃ x : α, d.K w x cs.toList ∧ Q x := by
  obtain ⟨fuel, hf⟩ := h
  exact ho.out enc w base spare held fuel _ _ (by simpa [Value.cells] using hf)
end Go.Proofs.YtfkiamccipoioaaOp
end

section
/- Plain words for the laws' statements over lists: an answer with enough rounds (Ev), step by step; one loop's round over a list that is told as what lies behind and what lies ahead. -/
namespace Go.Proofs.YtfkiamccipoioaaB
open Go.RowKit Go.Proofs.YtfkiamccipoioaaW.PrintWords Go.Proofs.YtfkiamccipoioaaW.PrintLast

theorem ev_pos {α : Type} {c : Prop} [Decidable c] {A B : Nat → Option α} {r : α} (h : c) (e : Ev A r) : Ev (fun k => if c then A k else B k) r := by
  simpa only [if_pos h] using e
theorem ev_neg {α : Type} {c : Prop} [Decidable c] {A B : Nat → Option α} {r : α} (h : ¬ c) (e : Ev B r) : Ev (fun k => if c then A k else B k) r := by
  simpa only [if_neg h] using e
theorem ev_ite {α : Type} {c : Prop} [Decidable c] {A B : Nat → Option α} {r : α} (h : c → Ev A r) (h2 : ¬ c → Ev B r) : Ev (fun k => if c then A k else B k) r := by
  by_cases hc : c
  · exact ev_pos hc (h hc)
  · exact ev_neg hc (h2 hc)
theorem ev_bind0 {α β : Type} {g : Option α} {f : Nat → α → Option β} {a : α} {r : β} (h : g = some a) (k : Ev (fun n => f n a) r) : Ev (fun n => g.bind (f n)) r := by
  subst h
  exact k
theorem ev_of {α : Type} {g : Nat → Option α} {a r : α} (h : Ev g a) (e : a = r) : Ev g r := e ▸ h

theorem wrap_small {i : Int} (h0 : -9223372036854775808 ≤ i) (h1 : i ≤ 9223372036854775807) : wrap64 i = i := by
  unfold wrap64
  omega
theorem wrap_next {α : Type} (p : List α) (x : α) (h : p.length ≤ 4611686018427387904) : wrap64 ((p.length : Int) + 1) = ((p ++ [x]).length : Int) := by
  rw [wrap_small (by omega) (by omega), List.length_append]
  simp
theorem getD_at {α : Type} (p : List α) (x : α) (xs : List α) (z : α) : (p ++ x :: xs).getD ((p.length : Int)).toNat z = x := by
  simp
theorem rd_mid (p : List Int) (x : Int) (xs : List Int) : rd (p ++ x :: xs) (p.length : Int) = x := by
  unfold rd
  exact getD_at p x xs 0
theorem set_mid {α : Type} (p : List α) (x y : α) (xs : List α) : (p ++ x :: xs).set ((p.length : Int)).toNat y = p ++ y :: xs := by
  simp
theorem push_mid {α : Type} (p : List α) (x : α) (xs : List α) : p ++ x :: xs = (p ++ [x]) ++ xs := by simp
theorem lt_mid {α : Type} (p : List α) (x : α) (xs : List α) : (p.length : Int) < ((p ++ x :: xs).length : Int) := by
  simp
  omega
theorem not_lt_end {α : Type} (p : List α) : ¬ (p.length : Int) < ((p ++ []).length : Int) := by simp

theorem bt_rd (s : ByteArray) (i : Int) : bt s i = rd (bytesOf s) i := by
  unfold bt rd bytesOf
  by_cases h : i.toNat < s.size
  · rw [dif_pos h]
    have h2 : i.toNat < s.data.toList.length := by rw [data_length]; exact h
    rw [List.getD_eq_getElem?_getD, List.getElem?_map, List.getElem?_eq_getElem h2]
    rfl
  · rw [dif_neg h]
    have h2 : ¬ i.toNat < s.data.toList.length := by rw [data_length]; exact h
    rw [List.getD_eq_getElem?_getD, List.getElem?_map, List.getElem?_eq_none (by omega)]
    rfl
theorem bytes_length (s : ByteArray) : (bytesOf s).length = s.size := by
  unfold bytesOf
  rw [List.length_map, data_length]
theorem bytes_inj {a b : ByteArray} (h : bytesOf a = bytesOf b) : a = b := by
  unfold bytesOf at h
  have h2 : a.data.toList = b.data.toList := by
    refine (List.map_inj_right ?_).1 h
    intro x y hxy
    exact UInt8.toNat_inj.1 (by omega)
  cases a
  cases b
  congr
  exact Array.toList_inj.1 h2
theorem toList_inj {a b : ByteArray} (h : a.toList = b.toList) : a = b := by
  rw [Lib.toList_data, Lib.toList_data] at h
  cases a
  cases b
  congr
  exact Array.toList_inj.1 h
/-- A number of 64 bits. -/
def I64 (n : Int) : Prop := -9223372036854775808 ≤ n ∧ n ≤ 9223372036854775807
theorem i64_of_wf {n : Int} (h : (Lit.int .i64 n).wf = true) : I64 n := by
  simp [Lit.wf, IntKind.min, IntKind.max, IntKind.signed, IntKind.bits] at h
  unfold I64
  omega

/-- Two readings come to one answer, of which P holds. -/
def Both {α : Type} (P : α → Prop) (A B : Nat → Option α) : Prop := ∃ r, Ev A r ∧ Ev B r ∧ P r
section
variable {α β : Type} {P : α → Prop} {Q : β → Prop} {A B A2 B2 C : Nat → Option α}
theorem both_now (r : α) (h : P r) : Both P (fun _ => some r) (fun _ => some r) := ⟨r, Ev.now r, Ev.now r, h⟩
theorem both_posL {c : Prop} [Decidable c] (hc : c) (h : Both P A C) : Both P (fun k => if c then A k else B k) C := by
  obtain ⟨r, h3, h4, hp⟩ := h
  exact ⟨r, ev_pos hc h3, h4, hp⟩
theorem both_negL {c : Prop} [Decidable c] (hc : ¬ c) (h : Both P B C) : Both P (fun k => if c then A k else B k) C := by
  obtain ⟨r, h3, h4, hp⟩ := h
  exact ⟨r, ev_neg hc h3, h4, hp⟩
theorem both_posR {c : Prop} [Decidable c] (hc : c) (h : Both P C A) : Both P C (fun k => if c then A k else B k) := by
  obtain ⟨r, h3, h4, hp⟩ := h
  exact ⟨r, h3, ev_pos hc h4, hp⟩
theorem both_negR {c : Prop} [Decidable c] (hc : ¬ c) (h : Both P C B) : Both P C (fun k => if c then A k else B k) := by
  obtain ⟨r, h3, h4, hp⟩ := h
  exact ⟨r, h3, ev_neg hc h4, hp⟩
theorem both_bindL {D : Nat → Option β} {F : Nat → α → Option β} {a : α} (h : Ev A a) (h2 : Both Q (fun k => F k a) D) : Both Q (fun k => (A k).bind (F k)) D := by
  obtain ⟨r, h3, h4, hq⟩ := h2
  exact ⟨r, Ev.bind h h3, h4, hq⟩
theorem both_bindR {D : Nat → Option β} {F : Nat → α → Option β} {a : α} (h : Ev A a) (h2 : Both Q D (fun k => F k a)) : Both Q D (fun k => (A k).bind (F k)) := by
  obtain ⟨r, h3, h4, hq⟩ := h2
  exact ⟨r, h3, Ev.bind h h4, hq⟩
theorem both_of {r : α} (h : Ev A r) (h2 : Ev B r) (hp : P r) : Both P A B := ⟨r, h, h2, hp⟩
end

end Go.Proofs.YtfkiamccipoioaaB
end

section
/- A deck by value, as an argument. -/
namespace Go.Proofs.Ytfkiamccipoioaa.P
open Go.RowKit Go.Proofs.YtfkiamccipoioaaW.PrintWords Go.Proofs.YtfkiamccipoioaaW.PrintLast

structure S25 where
  f0 : List Int
  f1 : List (List Int)
def k25 : Kd S25 := Kd.iso (Kd.pair (Kd.slice 2 (Kd.int .i64)) (Kd.slice 22 (Kd.slice 2 (Kd.int .i64)))) (fun x : S25 => (x.f0, x.f1))
theorem k25_open {w : World} {x : S25} {cs : List Value} (h : k25.K w x cs) : ∃ A0 c0 A1 c1, cs = [.slice A0 x.f0.length c0, .slice A1 x.f1.length c1] ∧ x.f0.length ≤ c0 ∧ Kd.C (Kd.int .i64) w A0 x.f0.length x.f0 ∧ x.f1.length ≤ c1 ∧ Kd.C (Kd.slice 2 (Kd.int .i64)) w A1 x.f1.length x.f1 := by
  obtain ⟨_, _, rfl, ⟨A0, c0, rfl, hl0, h0⟩, ⟨A1, c1, rfl, hl1, h1⟩⟩ := h
  exact ⟨A0, c0, A1, c1, rfl, hl0, h0, hl1, h1⟩
end Go.Proofs.Ytfkiamccipoioaa.P
end

section
/- Lists of whole numbers: their copy, their comparison. -/
namespace Go.Proofs.YtfkiamccipoioaaB
open Go.RowKit Go.Proofs.YtfkiamccipoioaaW.PrintWords Go.Proofs.YtfkiamccipoioaaW.PrintLast Go.Proofs.Ytfkiamccipoioaa.P

theorem eqInt64S_loop : ∀ (xs p : List Int), p.length + xs.length ≤ 4611686018427387904 → Ev (fun k => laws_eqInt64S.l0 k (p ++ xs) (p ++ xs) (p.length : Int)) true := by
  intro xs
  induction xs with
  | nil =>
    intro p _
    refine Ev.step (fun k => by rw [laws_eqInt64S.l0]) ?_
    exact ev_neg (not_lt_end p) (Ev.now _)
  | cons x xs ih =>
    intro p hl
    rw [List.length_cons] at hl
    have hw : wrap64 ((p.length : Int) + 1) = ((p ++ [x]).length : Int) := wrap_next p x (by omega)
    have hi := ih (p ++ [x]) (by rw [List.length_append]; simp; omega)
    refine Ev.step (fun k => by rw [laws_eqInt64S.l0]) ?_
    refine ev_pos (lt_mid p x xs) (ev_pos (Int.natCast_nonneg _) (ev_pos (lt_mid p x xs) ?_))
    rw [hw, push_mid p x xs]
    exact ev_pos rfl hi
theorem eqInt64S_refl (l : List Int) (hl : l.length ≤ 4611686018427387904) : Ev (fun k => laws_eqInt64S.f k l l) true := by
  unfold laws_eqInt64S.f
  exact ev_pos rfl (eqInt64S_loop l [] (by simp; omega))
end Go.Proofs.YtfkiamccipoioaaB
end

section
/- The copy of a list of whole numbers that came in. -/
namespace Go.Proofs.YtfkiamccipoioaaB
open Go.RowKit Go.Proofs.YtfkiamccipoioaaW.PrintWords Go.Proofs.YtfkiamccipoioaaW.PrintLast Go.Proofs.Ytfkiamccipoioaa.P

theorem toInt64S_loop : ∀ (xs p : List Int), p.length + xs.length ≤ 1048576 → Ev (fun k => laws_toInt64S.l0 k (p ++ xs) (p ++ List.replicate xs.length 0) (p.length : Int)) (p ++ xs) := by
  intro xs
  induction xs with
  | nil =>
    intro p _
    refine Ev.step (fun k => by rw [laws_toInt64S.l0]) ?_
    exact ev_neg (not_lt_end p) (ev_of (Ev.now _) (by simp))
  | cons x xs ih =>
    intro p hl
    rw [List.length_cons] at hl
    have hw : wrap64 ((p.length : Int) + 1) = ((p ++ [x]).length : Int) := wrap_next p x (by omega)
    have hi := ih (p ++ [x]) (by rw [List.length_append]; simp; omega)
    refine Ev.step (fun k => by rw [laws_toInt64S.l0]) ?_
    refine ev_pos (lt_mid p x xs) (ev_pos (Int.natCast_nonneg _) ?_)
    rw [rd_mid, hw]
    refine ev_pos (by simp; omega) ?_
    rw [List.length_cons, List.replicate_succ, set_mid, push_mid p x xs]
    rw [push_mid p x (List.replicate xs.length 0)]
    exact hi
theorem toInt64S_ev (l : List Int) (hl : l.length ≤ 1048576) : Ev (fun k => laws_toInt64S.f k l) l := by
  have h := toInt64S_loop l [] (by simp; omega)
  unfold laws_toInt64S.f
  refine ev_pos (Int.natCast_nonneg _) (ev_pos (by simp; omega) ?_)
  simpa using h
abbrev GoodInts (l : List Int) : Prop := l.length ≤ 1048576 ∧ ∀ x ∈ l, I64 x
end Go.Proofs.YtfkiamccipoioaaB
end

section
/- Deck: what it weighs, its copy, its comparison. -/
namespace Go.Proofs.YtfkiamccipoioaaB
open Go.RowKit Go.Proofs.YtfkiamccipoioaaW.PrintWords Go.Proofs.YtfkiamccipoioaaW.PrintLast Go.Proofs.Ytfkiamccipoioaa.P

abbrev GoodDeck (a : List Int) (b : List (List Int)) : Prop := GoodInts a ∧ b.length ≤ 1048576 ∧ ∀ r ∈ b, GoodInts r
theorem rdL_mid (p : List (List Int)) (x : List Int) (xs : List (List Int)) : rd_L1 (p ++ x :: xs) (p.length : Int) = x := by
  unfold rd_L1
  exact getD_at p x xs _
theorem szRow_some (l : List Int) (left : Int) (h0 : 0 ≤ left) (h1 : left ≤ 1048576) (hl : l.length ≤ maxLen) : ∃ r, laws_szInt64S.f l left = some r ∧ r ≤ left ∧ (0 ≤ r → (l.length : Int) ≤ 1048576) := by
  unfold maxLen at hl
  unfold laws_szInt64S.f
  rw [wrap_small (i := left - (l.length : Int)) (by omega) (by omega)]
  by_cases c : left - (l.length : Int) < 0
  · rw [if_pos c]
    exact ⟨_, rfl, by omega, fun h => absurd h (by decide)⟩
  · rw [if_neg c]
    exact ⟨_, rfl, by omega, fun _ => by omega⟩
theorem szRows_loop : ∀ (xs p : List (List Int)) (left : Int), p.length + xs.length ≤ 4611686018427387904 → 0 ≤ left → left ≤ 1048576 → (∀ x ∈ xs, x.length ≤ maxLen) →
    ∃ r, Ev (fun k => laws_szInt64SS.l0 k (p ++ xs) left (p.length : Int)) r ∧ r ≤ left ∧ (0 ≤ r → ∀ x ∈ xs, (x.length : Int) ≤ 1048576) := by
  intro xs
  induction xs with
  | nil =>
    intro p left _ h0 h1 _
    exact ⟨left, Ev.step (fun k => by rw [laws_szInt64SS.l0]) (ev_neg (not_lt_end p) (Ev.now _)), Int.le_refl _, fun _ x hx => by simp at hx⟩
  | cons x xs ih =>
    intro p left hl h0 h1 hs
    have hx := hs x List.mem_cons_self
    rw [List.length_cons] at hl
    have hw : wrap64 ((p.length : Int) + 1) = ((p ++ [x]).length : Int) := wrap_next p x (by omega)
    obtain ⟨r, e, hr, b0⟩ := szRow_some x left h0 h1 hx
    by_cases hn : r < 0
    · refine ⟨-1, Ev.step (fun k => by rw [laws_szInt64SS.l0]) (ev_pos (lt_mid p x xs) (ev_pos (Int.natCast_nonneg _) ?_)), by omega, fun h => absurd h (by decide)⟩
      rw [rdL_mid]
      exact ev_bind0 e (ev_pos hn (Ev.now _))
    · obtain ⟨q, h2, h3, h4⟩ := ih (p ++ [x]) r (by rw [List.length_append]; simp; omega) (by omega) (by omega) (fun y hy => hs y (List.mem_cons_of_mem _ hy))
      refine ⟨q, Ev.step (fun k => by rw [laws_szInt64SS.l0]) (ev_pos (lt_mid p x xs) (ev_pos (Int.natCast_nonneg _) ?_)), by omega, fun h y hy => ?_⟩
      · rw [rdL_mid, hw, push_mid p x xs]
        exact ev_bind0 e (ev_neg hn h2)
      · rcases List.mem_cons.1 hy with rfl | hy
        · exact b0 (by omega)
        · exact h4 h y hy
theorem szDeck_ev (a : List Int) (b : List (List Int)) (ha : a.length ≤ maxLen ∧ ∀ x ∈ a, (Lit.int .i64 x).wf = true) (hb : b.length ≤ maxLen ∧ ∀ r ∈ b, r.length ≤ maxLen ∧ ∀ x ∈ r, (Lit.int .i64 x).wf = true) :
    ∃ r, Ev (fun k => laws_szDeck.f k a b 1048576) r ∧ (0 ≤ r → GoodDeck a b) := by
  unfold laws_szDeck.f
  obtain ⟨r, e, hr, h2⟩ := szRow_some a 1048576 (by decide) (by decide) ha.1
  by_cases hn : r < 0
  · exact ⟨-1, ev_bind0 e (ev_pos hn (Ev.now _)), fun h => absurd h (by decide)⟩
  · have hbl := hb.1
    unfold maxLen at hbl
    have hs : ∃ q, Ev (fun k => laws_szInt64SS.f k b r) q ∧ (0 ≤ q → (b.length : Int) ≤ 1048576 ∧ ∀ x ∈ b, (x.length : Int) ≤ 1048576) := by
      unfold laws_szInt64SS.f
      rw [wrap_small (i := r - (b.length : Int)) (by omega) (by omega)]
      by_cases c : r - (b.length : Int) < 0
      · exact ⟨-1, ev_pos c (Ev.now _), fun h => absurd h (by decide)⟩
      · obtain ⟨q, h3, h4, h5⟩ := szRows_loop b [] (r - (b.length : Int)) (by simp; omega) (by omega) (by omega) (fun x hx => (hb.2 x hx).1)
        exact ⟨q, ev_neg c h3, fun h => ⟨by omega, h5 h⟩⟩
    obtain ⟨q, h3, h4⟩ := hs
    by_cases hq : q < 0
    · exact ⟨-1, ev_bind0 e (ev_neg hn (Ev.bind h3 (ev_pos hq (Ev.now _)))), fun h => absurd h (by decide)⟩
    · obtain ⟨h5, h6⟩ := h4 (by omega)
      have h7 := h2 (by omega)
      refine ⟨q, ev_bind0 e (ev_neg hn (Ev.bind h3 (ev_neg hq (Ev.now _)))), fun _ => ⟨⟨by omega, fun x hx => i64_of_wf (ha.2 x hx)⟩, by omega, fun x hx => ⟨by have := h6 x hx; omega, fun y hy => i64_of_wf ((hb.2 x hx).2 y hy)⟩⟩⟩
theorem toRows_loop : ∀ (xs p : List (List Int)), p.length + xs.length ≤ 1048576 → (∀ x ∈ xs, x.length ≤ 1048576) → Ev (fun k => laws_toInt64SS.l0 k (p ++ xs) (p ++ List.replicate xs.length []) (p.length : Int)) (p ++ xs) := by
  intro xs
  induction xs with
  | nil =>
    intro p _ _
    refine Ev.step (fun k => by rw [laws_toInt64SS.l0]) ?_
    exact ev_neg (not_lt_end p) (ev_of (Ev.now _) (by simp))
  | cons x xs ih =>
    intro p hl hs
    rw [List.length_cons] at hl
    have hw : wrap64 ((p.length : Int) + 1) = ((p ++ [x]).length : Int) := wrap_next p x (by omega)
    have hi := ih (p ++ [x]) (by rw [List.length_append]; simp; omega) (fun y hy => hs y (List.mem_cons_of_mem _ hy))
    refine Ev.step (fun k => by rw [laws_toInt64SS.l0]) ?_
    refine ev_pos (lt_mid p x xs) (ev_pos (Int.natCast_nonneg _) ?_)
    rw [rdL_mid, hw]
    refine Ev.bind (toInt64S_ev x (hs x List.mem_cons_self)) (ev_pos (by simp; omega) ?_)
    rw [List.length_cons, List.replicate_succ, set_mid, push_mid p x xs]
    rw [push_mid p x (List.replicate xs.length [])]
    exact hi
theorem toDeck_ev (a : List Int) (b : List (List Int)) (h : GoodDeck a b) : Ev (fun k => laws_toDeck.f k a b) (a, b) := by
  unfold laws_toDeck.f laws_toInt64SS.f
  refine Ev.bind (toInt64S_ev a h.1.1) (Ev.bind (a := b) ?_ (Ev.now _))
  have h2 := toRows_loop b [] (by have := h.2.1; simp; omega) (fun x hx => (h.2.2 x hx).1)
  have hl := h.2.1
  refine ev_pos (Int.natCast_nonneg _) (ev_pos (by omega) ?_)
  simpa using h2
theorem eqRows_loop : ∀ (xs p : List (List Int)), p.length + xs.length ≤ 1048576 → (∀ x ∈ xs, x.length ≤ 1048576) → Ev (fun k => laws_eqInt64SS.l0 k (p ++ xs) (p ++ xs) (p.length : Int)) true := by
  intro xs
  induction xs with
  | nil =>
    intro p _ _
    refine Ev.step (fun k => by rw [laws_eqInt64SS.l0]) ?_
    exact ev_neg (not_lt_end p) (Ev.now _)
  | cons x xs ih =>
    intro p hl hs
    rw [List.length_cons] at hl
    have hw : wrap64 ((p.length : Int) + 1) = ((p ++ [x]).length : Int) := wrap_next p x (by omega)
    have hi := ih (p ++ [x]) (by rw [List.length_append]; simp; omega) (fun y hy => hs y (List.mem_cons_of_mem _ hy))
    refine Ev.step (fun k => by rw [laws_eqInt64SS.l0]) ?_
    refine ev_pos (lt_mid p x xs) (ev_pos (Int.natCast_nonneg _) (ev_pos (lt_mid p x xs) ?_))
    rw [rdL_mid, hw]
    refine Ev.bind (eqInt64S_refl x (by have := hs x List.mem_cons_self; omega)) (ev_pos rfl ?_)
    rw [push_mid p x xs]
    exact hi
theorem eqDeck_refl (a : List Int) (b : List (List Int)) (h : GoodDeck a b) : Ev (fun k => laws_eqDeck.f k a b a b) true := by
  unfold laws_eqDeck.f laws_eqInt64SS.f
  refine Ev.bind (eqInt64S_refl a (by have := h.1.1; omega)) (ev_pos rfl (Ev.bind (a := true) (ev_pos rfl ?_) (ev_pos rfl (Ev.now _))))
  exact eqRows_loop b [] (by have := h.2.1; simp; omega) (fun x hx => (h.2.2 x hx).1)
end Go.Proofs.YtfkiamccipoioaaB
end
