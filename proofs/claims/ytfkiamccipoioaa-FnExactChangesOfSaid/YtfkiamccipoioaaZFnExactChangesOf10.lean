/- Texts of this claim, packed: H3ChangesOf, Open, Base, KdDeck, TyInt64, ToInt64, TyDeck, MkInt64. -/
import Derived.Deep.Slices
import Derived.Deep.Fields
import Derived.ChangeSame
import Derived.WideShapes
import Derived.Lib.Bytes
import Derived.Test.YtfkiamccipoioaaZFnExactChangesOf9
section
namespace Go.Proofs.Ytfkiamccipoioaa.P
open Go.RowKit Go.Proofs.YtfkiamccipoioaaW.Hand Go.Proofs.YtfkiamccipoioaaW.PrintWords Go.Proofs.YtfkiamccipoioaaW.PrintLast Go.Proofs.YtfkiamccipoioaaW.PrintMore Go.Proofs.YtfkiamccipoioaaW.Pk
set_option linter.unusedVariables false
set_option linter.unusedSimpArgs false

def deck9.T12 : Bool × List (List Nat × List Nat) := (true, [([], []), ([], []), ([1], [1]), ([0, 2, 2], [0, 2]), ([3], [3])])
def deck9.B12 : List Nat := [0, 0, 2, 7, 15]
theorem deck9.tab12 : rtab .any (opsOf Try.f9 12) = deck9.T12 := by kernel_rfl
theorem deck9.bits12 : waitsOk deck9.T12.2 deck9.B12 = true := by kernel_rfl
def laws_FnExactChangesOf.f (k : Nat) (l0_0 : List Int) (l0_1 : List (List Int)) (a1 : ByteArray) : Option Bool := if (a1.size : Int) > 1048576 then some true else ((laws_szDeck.f k l0_0 l0_1 1048576).bind fun t => if t < 0 then some true else (laws_toDeck.f k l0_0 l0_1).bind fun x => (spec_ChangesOf.f k x.1 x.2 a1).bind fun s => (impl_ChangesOf.f k x.1 x.2 a1).bind fun g => (laws_eqInt64S.f k g.1 s.1).bind fun e1 => if e1 = true then (if g.2 = s.2 then ((laws_eqDeck.f k x.1 x.2 x.1 x.2).bind fun e2 => if e2 = true then ((laws_markDeck.f x.1 x.2 1).bind fun m1 => if m1 < 0 then none else (laws_markInt64S.f k g.1 1).bind fun m => (laws_heldInt64S.f k m.2 1).bind fun q => if q < 0 then none else if q = m.1 then some true else none) else none) else none) else none)
set_option maxRecDepth 100000 in
set_option maxHeartbeats 8000000 in
theorem laws_FnExactChangesOf.calls (k : Nat) (A0_0 : Option Addr) (c0_0 : Nat) (l0_0 : List Int) (A0_1 : Option Addr) (c0_1 : Nat) (l0_1 : List (List Int)) (a1 : ByteArray) (r : Bool) (w : World) (hr0_0 : Kd.C (Kd.int .i64) w A0_0 l0_0.length l0_0) (hc0_0 : l0_0.length ≤ c0_0) (hr0_1 : Kd.C (Kd.slice 2 (Kd.int .i64)) w A0_1 l0_1.length l0_1) (hc0_1 : l0_1.length ≤ c0_1) (h : laws_FnExactChangesOf.f k l0_0 l0_1 a1 = some r) :
    Calls Try.prog 9 #[.agg #[.slice A0_0 l0_0.length c0_0, .slice A0_1 l0_1.length c0_1], .string a1] w fun e w' => e = .returned (.bool r) ∧ Below w.heap.size w w' := by
  have hu25 := Try.underlying25
  have hu28 := Try.underlying28
  have HR0_0 := Aside0.mk hr0_0
  have HC0_0 := Aside0.mk hc0_0
  have HR0_1 := Aside0.mk hr0_1
  have HC0_1 := Aside0.mk hc0_1
  clear hr0_0 hc0_0 hr0_1 hc0_1
  unfold laws_FnExactChangesOf.f at h
  by_cases s0 : (a1.size : Int) > 1048576
  · rw [if_pos s0] at h
    obtain rfl := Option.some.inj h
    have s0b : decide (1048576 < (a1.size : Int)) = true := decide_eq_true s0
    have s0c : decide (1048576 < a1.size) = true := decide_eq_true (by omega)
    clear s0 h
    go_enter Try.func9, Try.ntmps9
    go_wp2_with (first | ((with_reducible refine gate_dst (N := 2) rfl ?_); refine box_event ?hg (N := 2) ?hd (cs := #[.slice A0_0 l0_0.length c0_0, .slice A0_1 l0_1.length c0_1]) (t := 25) ?hr ?_; (case hd => rfl); (case hg => rfl); (case hr => first | (go_simp; done) | (go_simp; rfl)); intro gb hg w1 hbox hb; have M1 : Aside0 (MI w w1 gb #[.slice A0_0 l0_0.length c0_0, .slice A0_1 l0_1.length c0_1]) := ⟨⟨hb, hbox, by rw [hg]; exact Nat.le_refl _⟩⟩; clear hb hbox hg; have hzgb_0 : w1.cell? ⟨gb, 0, none⟩ = some (.slice A0_0 l0_0.length c0_0) := (blk_cell M1.out.box 0).trans rfl; have hzgb_1 : w1.cell? ⟨gb, 1, none⟩ = some (.slice A0_1 l0_1.length c0_1) := (blk_cell M1.out.box 1).trans rfl))
    go_ret
    exact ⟨rfl, M1.out.below⟩
  rw [if_neg s0] at h
  have s0b : decide (1048576 < (a1.size : Int)) = false := decide_eq_false s0
  have s0c : decide (1048576 < a1.size) = false := decide_eq_false (by omega)
  clear s0
  replace h := Option.bind_eq_some_iff.mp h
  obtain ⟨t, at_, h⟩ := h
  have AT := Aside0.mk at_
  clear at_
  by_cases ct : t < 0
  · rw [if_pos ct] at h
    obtain rfl := Option.some.inj h
    have ctb : decide (t < 0) = true := decide_eq_true ct
    clear ct h
    go_enter Try.func9, Try.ntmps9
    go_wp2_with (first | ((with_reducible refine gate_dst (N := 2) rfl ?_); refine box_event ?hg (N := 2) ?hd (cs := #[.slice A0_0 l0_0.length c0_0, .slice A0_1 l0_1.length c0_1]) (t := 25) ?hr ?_; (case hd => rfl); (case hg => rfl); (case hr => first | (go_simp; done) | (go_simp; rfl)); intro gb hg w1 hbox hb; have M1 : Aside0 (MI w w1 gb #[.slice A0_0 l0_0.length c0_0, .slice A0_1 l0_1.length c0_1]) := ⟨⟨hb, hbox, by rw [hg]; exact Nat.le_refl _⟩⟩; clear hb hbox hg; have hzgb_0 : w1.cell? ⟨gb, 0, none⟩ = some (.slice A0_0 l0_0.length c0_0) := (blk_cell M1.out.box 0).trans rfl; have hzgb_1 : w1.cell? ⟨gb, 1, none⟩ = some (.slice A0_1 l0_1.length c0_1) := (blk_cell M1.out.box 1).trans rfl) | ((with_reducible refine gate_callee (f := 15) rfl ?_); refine goesL_ (some 21) rfl rfl Try.func15 (by kernel_rfl) rfl #[.agg #[.slice A0_0 l0_0.length c0_0, .slice A0_1 l0_1.length c0_1], .int .i64 1048576] rfl ln_ ?_; refine (laws_szDeck.calls k _ _ l0_0 _ _ l0_1 1048576 t _ (Kd.C_below HR0_0.out M1.out.below) HC0_0.out (Kd.C_below HR0_1.out M1.out.below) HC0_1.out AT.out).mono ?_; rintro e w2 ⟨rfl, hb⟩; refine ⟨_, rfl, ?_⟩; have M2 := Aside0.mk (M1.out.step hb); clear hb hzgb_0 hzgb_1; have hzgb_0 : w2.cell? ⟨gb, 0, none⟩ = some (.slice A0_0 l0_0.length c0_0) := (blk_cell M2.out.box 0).trans rfl; have hzgb_1 : w2.cell? ⟨gb, 1, none⟩ = some (.slice A0_1 l0_1.length c0_1) := (blk_cell M2.out.box 1).trans rfl))
    go_ret
    exact ⟨rfl, M2.out.below⟩
  rw [if_neg ct] at h
  have ctb : decide (t < 0) = false := decide_eq_false ct
  clear ct
  replace h := Option.bind_eq_some_iff.mp h
  obtain ⟨⟨x0, x1⟩, a_, h⟩ := h
  try dsimp only at h a_
  have AX := Aside0.mk a_
  clear a_
  replace h := Option.bind_eq_some_iff.mp h
  obtain ⟨⟨s0, s1⟩, a_, h⟩ := h
  try dsimp only at h a_
  have AS := Aside0.mk a_
  clear a_
  replace h := Option.bind_eq_some_iff.mp h
  obtain ⟨⟨g0, g1⟩, a_, h⟩ := h
  try dsimp only at h a_
  have AG := Aside0.mk a_
  clear a_
  replace h := Option.bind_eq_some_iff.mp h
  obtain ⟨e1, a_, h⟩ := h
  try dsimp only at h a_
  have AE1 := Aside0.mk a_
  clear a_
  by_cases c_ : e1 = true
  rotate_left
  · rw [if_neg c_] at h; exact absurd h (by simp)
  rw [if_pos c_] at h
  subst c_
  by_cases c_ : g1 = s1
  rotate_left
  · rw [if_neg c_] at h; exact absurd h (by simp)
  rw [if_pos c_] at h
  subst c_
  replace h := Option.bind_eq_some_iff.mp h
  obtain ⟨e2, a_, h⟩ := h
  try dsimp only at h a_
  have AE2 := Aside0.mk a_
  clear a_
  by_cases c_ : e2 = true
  rotate_left
  · rw [if_neg c_] at h; exact absurd h (by simp)
  rw [if_pos c_] at h
  subst c_
  replace h := Option.bind_eq_some_iff.mp h
  obtain ⟨m1, a_, h⟩ := h
  try dsimp only at h a_
  have AM1 := Aside0.mk a_
  clear a_
  by_cases c_ : m1 < 0
  · rw [if_pos c_] at h; exact absurd h (by simp)
  rw [if_neg c_] at h
  have cmb : decide (m1 < 0) = false := decide_eq_false c_
  clear c_
  replace h := Option.bind_eq_some_iff.mp h
  obtain ⟨⟨m, mr⟩, a_, h⟩ := h
  try dsimp only at h a_
  have AM := Aside0.mk a_
  clear a_
  replace h := Option.bind_eq_some_iff.mp h
  obtain ⟨q, a_, h⟩ := h
  try dsimp only at h a_
  have AQ := Aside0.mk a_
  clear a_
  by_cases c_ : q < 0
  · rw [if_pos c_] at h; exact absurd h (by simp)
  rw [if_neg c_] at h
  have cqb : decide (q < 0) = false := decide_eq_false c_
  clear c_
  by_cases c_ : q = m
  rotate_left
  · rw [if_neg c_] at h; exact absurd h (by simp)
  rw [if_pos c_] at h
  subst c_
  obtain rfl := Option.some.inj h
  clear h
  have hne1 : (g1 != g1) = false := bne_self_eq_false g1
  have hne2 : (q != q) = false := bne_self_eq_false q
  go_enter Try.func9, Try.ntmps9
  go_wp2_with (first
    | ((with_reducible refine gate_dst (N := 2) rfl ?_); refine box_event ?hg (N := 2) ?hd (cs := #[.slice A0_0 l0_0.length c0_0, .slice A0_1 l0_1.length c0_1]) (t := 25) ?hr ?_; (case hd => rfl); (case hg => rfl); (case hr => first | (go_simp; done) | (go_simp; rfl)); intro gb hg w1 hbox hb; have M1 : Aside0 (MI w w1 gb #[.slice A0_0 l0_0.length c0_0, .slice A0_1 l0_1.length c0_1]) := ⟨⟨hb, hbox, by rw [hg]; exact Nat.le_refl _⟩⟩; clear hb hbox hg; have hzgb_0 : w1.cell? ⟨gb, 0, none⟩ = some (.slice A0_0 l0_0.length c0_0) := (blk_cell M1.out.box 0).trans rfl; have hzgb_1 : w1.cell? ⟨gb, 1, none⟩ = some (.slice A0_1 l0_1.length c0_1) := (blk_cell M1.out.box 1).trans rfl)
    | ((with_reducible refine gate_callee (f := 15) rfl ?_); refine goesL_ (some 21) rfl rfl Try.func15 (by kernel_rfl) rfl #[.agg #[.slice A0_0 l0_0.length c0_0, .slice A0_1 l0_1.length c0_1], .int .i64 1048576] rfl ln_ ?_; refine (laws_szDeck.calls k _ _ l0_0 _ _ l0_1 1048576 t _ (Kd.C_below HR0_0.out M1.out.below) HC0_0.out (Kd.C_below HR0_1.out M1.out.below) HC0_1.out AT.out).mono ?_; rintro e w2 ⟨rfl, hb⟩; refine ⟨_, rfl, ?_⟩; have M2 := Aside0.mk (M1.out.step hb); clear hb hzgb_0 hzgb_1; have hzgb_0 : w2.cell? ⟨gb, 0, none⟩ = some (.slice A0_0 l0_0.length c0_0) := (blk_cell M2.out.box 0).trans rfl; have hzgb_1 : w2.cell? ⟨gb, 1, none⟩ = some (.slice A0_1 l0_1.length c0_1) := (blk_cell M2.out.box 1).trans rfl)
    | ((with_reducible refine gate_callee (f := 17) rfl ?_); refine goesL_ (some 26) rfl rfl Try.func17 (by kernel_rfl) rfl #[.agg #[.slice A0_0 l0_0.length c0_0, .slice A0_1 l0_1.length c0_1]] rfl ln_ ?_; refine (laws_toDeck.calls k _ _ l0_0 _ _ l0_1 x0 x1 _ (Kd.C_below HR0_0.out M2.out.below) HC0_0.out (Kd.C_below HR0_1.out M2.out.below) HC0_1.out AX.out).mono ?_; rintro e w3 ⟨v0, v1, rfl, hr0, hr1, hb⟩; refine ⟨_, rfl, ?_⟩; have M3 := Aside0.mk (M2.out.step hb); obtain ⟨Ax, cx, ex⟩ := Kd.R_slice hr0; subst ex; obtain ⟨Ay, cy, ey⟩ := Kd.S_slice hr1; subst ey; have X0 := Aside0.mk hr0; have X1 := Aside0.mk (Kd.S_R hr1); clear hb hr0 hr1 hzgb_0 hzgb_1)
    | ((with_reducible refine gate_callee (f := 35) rfl ?_); refine goesL_ (some 28) rfl rfl Try.func35 (by kernel_rfl) rfl #[.agg #[.slice Ax x0.length cx, .slice Ay x1.length cy], .string a1] rfl ln_ ?_; refine (spec_ChangesOf.calls k _ _ x0 _ _ x1 a1 s0 g1 _ (Kd.R_reads' X0.out).2.2 (Kd.R_reads' X0.out).2.1 (Kd.R_reads' X1.out).2.2 (Kd.R_reads' X1.out).2.1 AS.out).mono ?_; rintro e w4 ⟨v, rfl, hr, hb⟩; refine ⟨_, rfl, ?_⟩; have M4 := Aside0.mk (M3.out.step hb); obtain ⟨As, cs_, es⟩ := Kd.R_slice hr; subst es; have S4 := Aside0.mk (Kd.R_lower (R_lt_of hr) M3.out.below.size); clear hb hr X0 X1; have hzgb_0 : w4.cell? ⟨gb, 0, none⟩ = some (.slice A0_0 l0_0.length c0_0) := (blk_cell M4.out.box 0).trans rfl; have hzgb_1 : w4.cell? ⟨gb, 1, none⟩ = some (.slice A0_1 l0_1.length c0_1) := (blk_cell M4.out.box 1).trans rfl)
    | ((with_reducible refine gate_callee (f := 17) rfl ?_); refine goesL_ (some 32) rfl rfl Try.func17 (by kernel_rfl) rfl #[.agg #[.slice A0_0 l0_0.length c0_0, .slice A0_1 l0_1.length c0_1]] rfl ln_ ?_; refine (laws_toDeck.calls k _ _ l0_0 _ _ l0_1 x0 x1 _ (Kd.C_below HR0_0.out M4.out.below) HC0_0.out (Kd.C_below HR0_1.out M4.out.below) HC0_1.out AX.out).mono ?_; rintro e w5 ⟨v0, v1, rfl, hr0, hr1, hb⟩; refine ⟨_, rfl, ?_⟩; have M5 := Aside0.mk (M4.out.step hb); have S5 := Aside0.mk (Kd.R_below S4.out hb); have Y0 := Aside0.mk (R_self hr0); have Y1 := Aside0.mk (Kd.R_bound (Kd.S_R hr1)); have N45 := Aside0.mk hb.size; clear hb hr0 hr1 hzgb_0 hzgb_1; obtain ⟨Ap, cp, ep⟩ := Kd.R_slice Y0.out; subst ep; obtain ⟨Aq, cq, eq_⟩ := Kd.R_slice Y1.out; subst eq_)
    | ((with_reducible refine gate_dst (N := 8) rfl ?_); refine box_event ?hg (N := 8) ?hd (cs := #[.slice none 0 0, .slice none 0 0]) (t := 28) ?hr ?_; (case hd => rfl); (case hg => rfl); (case hr => first | (go_simp; done) | (go_simp; rfl)); intro gc hg w6 hbox hb; have B6 := Aside0.mk (⟨hb, hbox, hg⟩ : Below w5.heap.size w5 w6 ∧ w6.heap[gc]? = some (.cells #[.slice none 0 0, .slice none 0 0] 28 (0, 0)) ∧ gc = w5.heap.size); clear hb hbox hg)
    | (refine hand_store (fun W_ => Below w5.heap.size w5 W_ ∧ W_.heap[gc]? = some (.cells #[.slice Ap x0.length cp, .slice Aq x1.length cq] 28 (0, 0))) (t := 28) (p := 8) (v := .tmp 32) (w1 := (w6.setCell ⟨gc, 0, none⟩ (.slice Ap x0.length cp)).setCell ⟨gc, 1, none⟩ (.slice Aq x1.length cq)) ?hg rfl ?hN ?hr ?hF ?_; (case hg => rfl); (case hN => rfl); (case hr => have hz0 : w6.cell? ⟨gc, 0, none⟩ = some (.slice none 0 0) := (blk_cell B6.out.2.1 0).trans rfl; have hz1 : w6.cell? ⟨gc, 1, none⟩ = some (.slice none 0 0) := (blk_cell B6.out.2.1 1).trans rfl; have hf0 := blk_frozen B6.out.2.1 0; have hf1 := blk_frozen B6.out.2.1 1; first | (go_simp; done) | (go_simp; rfl)); (case hF => exact ⟨(B6.out.1.setCell (p := ⟨gc, 0, none⟩) (Nat.le_of_eq B6.out.2.2.symm) _).setCell (p := ⟨gc, 1, none⟩) (Nat.le_of_eq B6.out.2.2.symm) _, blk_put (cs := #[.slice Ap x0.length cp, .slice none 0 0]) (blk_put (cs := #[.slice none 0 0, .slice none 0 0]) B6.out.2.1 0 _ rfl) 1 _ rfl⟩); intro w7 h7; have B7 := Aside0.mk h7.2; have M7 := Aside0.mk (M5.out.step h7.1); have S7 := Aside0.mk (Kd.R_below S5.out h7.1); have P0 := Aside0.mk (Kd.R_below Y0.out h7.1); have P1 := Aside0.mk (Kd.R_below Y1.out h7.1); have N57 := Aside0.mk h7.1.size; clear h7 B6 Y0 Y1; have hzgc_0 : w7.cell? ⟨gc, 0, none⟩ = some (.slice Ap x0.length cp) := (blk_cell B7.out 0).trans rfl; have hzgc_1 : w7.cell? ⟨gc, 1, none⟩ = some (.slice Aq x1.length cq) := (blk_cell B7.out 1).trans rfl)
    | ((with_reducible refine gate_callee (f := 36) rfl ?_); refine goesL_ (some 36) rfl rfl Try.func36 (by kernel_rfl) rfl #[.agg #[.slice Ap x0.length cp, .slice Aq x1.length cq], .string a1] rfl ln_ ?_; refine (impl_ChangesOf.calls k _ _ x0 _ _ x1 a1 g0 g1 _ (Kd.R_reads' P0.out).2.2 (Kd.R_reads' P0.out).2.1 (Kd.R_reads' P1.out).2.2 (Kd.R_reads' P1.out).2.1 AG.out).mono ?_; rintro e w8 ⟨v, rfl, hr, hb⟩; refine ⟨_, rfl, ?_⟩; obtain ⟨Ag, cg, eg⟩ := Kd.R_slice hr; subst eg; have M8 := Aside0.mk (M7.out.step hb); have B8 := Aside0.mk (blk_below B7.out hb); have S8 := Aside0.mk (Kd.R_below S7.out hb); have P08 := Aside0.mk (Kd.R_below P0.out hb); have P18 := Aside0.mk (Kd.R_below P1.out hb); have G8 := Aside0.mk (Kd.R_lower (R_ge_of hr) M7.out.below.size); clear hb hr hzgc_0 hzgc_1 P0 P1 B7)
    | ((with_reducible refine gate_callee (f := 24) rfl ?_); refine goesL_ (some 41) rfl rfl Try.func24 (by kernel_rfl) rfl #[.slice Ag g0.length cg, .slice As s0.length cs_] rfl ln_ ?_; refine (laws_eqInt64S.calls k _ _ g0 _ _ s0 true _ (Kd.R_reads' G8.out).2.2 (Kd.R_reads' G8.out).2.1 (Kd.R_reads' S8.out).2.2 (Kd.R_reads' S8.out).2.1 AE1.out).mono ?_; rintro e w9 ⟨rfl, hd⟩; refine ⟨_, rfl, ?_⟩; have hb := hd.below; clear hd; have M9 := Aside0.mk (M8.out.step hb); have B9 := Aside0.mk (blk_below B8.out hb); have S9 := Aside0.mk (Kd.R_below S8.out hb); have P09 := Aside0.mk (Kd.R_below P08.out hb); have P19 := Aside0.mk (Kd.R_below P18.out hb); have G9 := Aside0.mk (Kd.R_below G8.out hb); clear hb G8 S8 P08 P18 B8; have hzgb_0 : w9.cell? ⟨gb, 0, none⟩ = some (.slice A0_0 l0_0.length c0_0) := (blk_cell M9.out.box 0).trans rfl; have hzgb_1 : w9.cell? ⟨gb, 1, none⟩ = some (.slice A0_1 l0_1.length c0_1) := (blk_cell M9.out.box 1).trans rfl; have hzgc_0 : w9.cell? ⟨gc, 0, none⟩ = some (.slice Ap x0.length cp) := (blk_cell B9.out 0).trans rfl; have hzgc_1 : w9.cell? ⟨gc, 1, none⟩ = some (.slice Aq x1.length cq) := (blk_cell B9.out 1).trans rfl))
  have hdr := below_drew (Below.refl w9.heap.size w9)
  have M9d := Aside0.mk (M9.out.step hdr)
  have B9d := Aside0.mk (blk_below B9.out hdr)
  have S9d := Aside0.mk (Kd.R_below S9.out hdr)
  have P09d := Aside0.mk (Kd.R_below P09.out hdr)
  have P19d := Aside0.mk (Kd.R_below P19.out hdr)
  have G9d := Aside0.mk (Kd.R_below G9.out hdr)
  clear hdr M9 B9 S9 P09 P19 G9 hzgb_0 hzgb_1 hzgc_0 hzgc_1
  have M9 := M9d
  have B9 := B9d
  have S9 := S9d
  have P09 := P09d
  have P19 := P19d
  have G9 := G9d
  clear M9d B9d S9d P09d P19d G9d
  refine start_ (n := 5) (S := fun w' => w'.cell? ⟨gc, 0, none⟩ = some (.slice Ap x0.length cp) ∧ w'.cell? ⟨gc, 1, none⟩ = some (.slice Aq x1.length cq) ∧ w'.cell? ⟨gb, 0, none⟩ = some (.slice A0_0 l0_0.length c0_0) ∧ w'.cell? ⟨gb, 1, none⟩ = some (.slice A0_1 l0_1.length c0_1)) (ds := []) #[false, false, false, false, false] (by kernel_rfl) rfl rfl ⟨(blk_cell B9.out 0).trans rfl, (blk_cell B9.out 1).trans rfl, (blk_cell M9.out.box 0).trans rfl, (blk_cell M9.out.box 1).trans rfl⟩ (fun hHeld => ?_); refine with_tabW deck9.tab12 deck9.bits12 (fun HT_ HW_ => ?_)
  generalize w9.drew = w9d at M9 B9 S9 P09 P19 G9 hHeld ⊢
  refine take_ (i := 0) (N := some 48) (v := ?_) (a' := ?_) #[true, false, false, false, false] rfl rfl (take_ofW HT_.out HW_.out (by kernel_rfl)) (fun _ _ _ h => h) (Or.inl ⟨by rfl, ?_⟩) hHeld ?_ ?_
  rotate_left
  · rintro w' ⟨s0, s1, s2, s3⟩
    go_simp
    with_reducible rfl
  rotate_left
  · simp only [Act.put, List.setIfInBounds_toArray, List.set_cons_zero, List.set_cons_succ, i64_w, i32_w]
    rfl
  refine take_ (i := 1) (N := some 49) (v := ?_) (a' := ?_) #[true, true, false, false, false] rfl rfl (take_ofW HT_.out HW_.out (by kernel_rfl)) (fun _ _ _ h => h) (Or.inl ⟨by rfl, ?_⟩) hHeld ?_ ?_
  rotate_left
  · rintro w' ⟨s0, s1, s2, s3⟩
    go_simp
    with_reducible rfl
  rotate_left
  · simp only [Act.put, List.setIfInBounds_toArray, List.set_cons_zero, List.set_cons_succ, i64_w, i32_w]
    rfl
  refine one_ (i := 2) (N := (some 50)) #[true, true, true, false, false] rfl rfl (one_of HT_.out (by kernel_rfl)) (by decide) (fun K hK => ?_)
  refine goes_ Try.func17 (by kernel_rfl) rfl #[.agg #[.slice A0_0 l0_0.length c0_0, .slice A0_1 l0_1.length c0_1]] (by rfl) rfl rfl ln_ ?_
  refine (laws_toDeck.calls k _ _ l0_0 _ _ l0_1 x0 x1 _ (Kd.C_below HR0_0.out M9.out.below) HC0_0.out (Kd.C_below HR0_1.out M9.out.below) HC0_1.out AX.out).mono ?_
  rintro e w10 ⟨v0, v1, rfl, hr0, hr1, hb⟩
  refine ⟨_, rfl, ?_⟩
  have M10 := Aside0.mk (M9.out.step hb)
  have B10 := Aside0.mk (blk_below B9.out hb)
  have S10 := Aside0.mk (Kd.R_below S9.out hb)
  have P010 := Aside0.mk (Kd.R_below P09.out hb)
  have P110 := Aside0.mk (Kd.R_below P19.out hb)
  have G10 := Aside0.mk (Kd.R_below G9.out hb)
  obtain ⟨Ax, cx, ex⟩ := Kd.R_slice hr0
  subst ex
  obtain ⟨Ay, cy, ey⟩ := Kd.S_slice hr1
  subst ey
  have X0 := Aside0.mk hr0
  have X1 := Aside0.mk (Kd.S_R hr1)
  clear hb hr0 hr1 S9 P09 P19 G9 B9
  refine hK.out _ _ ⟨(blk_cell B10.out 0).trans rfl, (blk_cell B10.out 1).trans rfl, (blk_cell M10.out.box 0).trans rfl, (blk_cell M10.out.box 1).trans rfl⟩ (fun hHeld => ?_)
  clear hK K
  refine norm_ (a' := ?_) ?_ ?_
  rotate_left
  · show Act.put _ (some 50) _ = _
    simp only [Act.put, List.setIfInBounds_toArray, List.set_cons_zero, List.set_cons_succ, i64_w, i32_w]
    rfl
  refine one_ (i := 3) (N := (some 51)) #[true, true, true, true, false] rfl rfl (one_of HT_.out (by kernel_rfl)) (by decide) (fun K hK => ?_)
  refine goes_ Try.func19 (by kernel_rfl) rfl #[.agg #[.slice Ap x0.length cp, .slice Aq x1.length cq], .agg #[.slice Ax x0.length cx, .slice Ay x1.length cy]] (by rfl) rfl rfl ln_ ?_
  refine (laws_eqDeck.calls k _ _ x0 _ _ x1 _ _ x0 _ _ x1 true _ (Kd.R_reads' P010.out).2.2 (Kd.R_reads' P010.out).2.1 (Kd.R_reads' P110.out).2.2 (Kd.R_reads' P110.out).2.1 (Kd.R_reads' X0.out).2.2 (Kd.R_reads' X0.out).2.1 (Kd.R_reads' X1.out).2.2 (Kd.R_reads' X1.out).2.1 AE2.out).mono ?_
  rintro e w11 ⟨rfl, hb⟩
  refine ⟨_, rfl, ?_⟩
  have M11 := Aside0.mk (M10.out.step hb)
  have B11 := Aside0.mk (blk_below B10.out hb)
  have S11 := Aside0.mk (Kd.R_below S10.out hb)
  have P011 := Aside0.mk (Kd.R_below P010.out hb)
  have P111 := Aside0.mk (Kd.R_below P110.out hb)
  have G11 := Aside0.mk (Kd.R_below G10.out hb)
  clear hb X0 X1 S10 P010 P110 G10 B10
  refine hK.out _ _ ⟨(blk_cell B11.out 0).trans rfl, (blk_cell B11.out 1).trans rfl, (blk_cell M11.out.box 0).trans rfl, (blk_cell M11.out.box 1).trans rfl⟩ (fun hHeld => ?_)
  clear hK K
  refine norm_ (a' := ?_) ?_ ?_
  rotate_left
  · show Act.put _ (some 51) _ = _
    simp only [Act.put, List.setIfInBounds_toArray, List.set_cons_zero, List.set_cons_succ, i64_w, i32_w]
    rfl
  refine pu (i := 4) (N := some 52) #[true, true, true, true, true] HT_ ?_
  refine done_ (done_of HT_.out (by kernel_rfl)) ?_
  have hzgc_0 : w11.cell? ⟨gc, 0, none⟩ = some (.slice Ap x0.length cp) := (blk_cell B11.out 0).trans rfl
  have hzgc_1 : w11.cell? ⟨gc, 1, none⟩ = some (.slice Aq x1.length cq) := (blk_cell B11.out 1).trans rfl
  go_wp2_with (first
    | ((with_reducible refine gate_callee (f := 25) rfl ?_); refine goesL_ (some 55) rfl rfl Try.func25 (by kernel_rfl) rfl #[.agg #[.slice Ap x0.length cp, .slice Aq x1.length cq], .int .i64 1] rfl ln_ ?_; refine (laws_markDeck.calls _ _ _ _ x0 x1 1 m1 w w11 M11.out.below (Kd.R_lower P011.out M4.out.below.size) (Kd.R_lower P111.out M4.out.below.size) (fun k h0 h1 => h1.1 h0.1) AM1.out).mono ?_; rintro e w12 ⟨rfl, hb, hk⟩; refine ⟨_, rfl, ?_⟩; have M12 := Aside0.mk (M11.out.kept hb hk (fun h => by have := M4.out.lt; rcases h with h | h <;> omega)); have S12 := Aside0.mk (Kd.R_step S11.out (fun k hk1 hlt => hk.2 k hlt (fun h => by rcases h with h | h <;> omega))); have G12 := Aside0.mk (Kd.R_step G11.out (fun k hk1 hlt => hk.2 k hlt (fun h => by have := N57.out; rcases h with h | h <;> omega))); clear hb hk hzgc_0 hzgc_1 S11 G11 P011 P111)
    | (go_at_call 24; refine (laws_eqInt64S.calls k _ _ g0 _ _ s0 true _ (Kd.R_reads' G12.out).2.2 (Kd.R_reads' G12.out).2.1 (Kd.R_reads' S12.out).2.2 (Kd.R_reads' S12.out).2.1 AE1.out).mono ?_; rintro e w13 ⟨rfl, hd⟩; have hb := hd.below; clear hd; have M13 := Aside0.mk (M12.out.step hb); have S13 := Aside0.mk (Kd.R_below S12.out hb); have G13 := Aside0.mk (Kd.R_below G12.out hb); clear hb S12 G12)
    | ((with_reducible refine gate_callee (f := 26) rfl ?_); refine goesL_ (some 71) rfl rfl Try.func26 (by kernel_rfl) rfl #[.slice Ag g0.length cg, .int .i64 1] rfl ln_ ?_; refine (laws_markInt64S.calls k _ _ g0 1 q mr w w13 M13.out.below G13.out AM.out).mono ?_; rintro e w14 ⟨rfl, hr, hb, hk⟩; refine ⟨_, rfl, ?_⟩; have hlt7 := M7.out.lt; have M14 := Aside0.mk (M13.out.kept hb hk (fun h => by omega)); have S14 := Aside0.mk (Kd.R_step S13.out (fun k hk1 hlt => hk.2 k hlt (fun h => by have := N45.out; have := N57.out; omega))); have HL := Aside0.mk (Kd.R_reads' hr).1; rw [(Kd.R_reads' hr).1] at hr; have G14 := Aside0.mk hr; clear hlt7 hb hk hr S13 G13)
    | ((with_reducible refine gate_callee (f := 27) rfl ?_); refine goesL_ (some 74) rfl rfl Try.func27 (by kernel_rfl) rfl #[.slice Ag g0.length cg, .int .i64 1] rfl ln_ ?_; have hcall := laws_heldInt64S.calls k Ag cg mr 1 q w14 (Kd.R_reads' G14.out).2.2 (by have := (Kd.R_reads' G14.out).2.1; omega) AQ.out; rw [← HL.out] at hcall; refine hcall.mono ?_; clear hcall; rintro e w15 ⟨rfl, hd⟩; refine ⟨_, rfl, ?_⟩; have hb := hd.below; clear hd; have M15 := Aside0.mk (M14.out.step hb); have S15 := Aside0.mk (Kd.R_below S14.out hb); have G15 := Aside0.mk (Kd.R_below G14.out hb); clear hb S14 G14; have hzgb_0 : w15.cell? ⟨gb, 0, none⟩ = some (.slice A0_0 l0_0.length c0_0) := (blk_cell M15.out.box 0).trans rfl; have hzgb_1 : w15.cell? ⟨gb, 1, none⟩ = some (.slice A0_1 l0_1.length c0_1) := (blk_cell M15.out.box 1).trans rfl)
    | ((with_reducible refine gate_callee (f := 17) rfl ?_); refine goesL_ (some 82) rfl rfl Try.func17 (by kernel_rfl) rfl #[.agg #[.slice A0_0 l0_0.length c0_0, .slice A0_1 l0_1.length c0_1]] rfl ln_ ?_; refine (laws_toDeck.calls k _ _ l0_0 _ _ l0_1 x0 x1 _ (Kd.C_below HR0_0.out M15.out.below) HC0_0.out (Kd.C_below HR0_1.out M15.out.below) HC0_1.out AX.out).mono ?_; rintro e w16 ⟨v0, v1, rfl, hr0, hr1, hb⟩; refine ⟨_, rfl, ?_⟩; have M16 := Aside0.mk (M15.out.step hb); have S16 := Aside0.mk (Kd.R_below S15.out hb); have G16 := Aside0.mk (Kd.R_below G15.out hb); obtain ⟨Ax, cx, ex⟩ := Kd.R_slice hr0; subst ex; obtain ⟨Ay, cy, ey⟩ := Kd.S_slice hr1; subst ey; have X0 := Aside0.mk hr0; have X1 := Aside0.mk (Kd.S_R hr1); clear hb hr0 hr1 hzgb_0 hzgb_1 S15 G15)
    | ((with_reducible refine gate_callee (f := 36) rfl ?_); refine goesL_ (some 84) rfl rfl Try.func36 (by kernel_rfl) rfl #[.agg #[.slice Ax x0.length cx, .slice Ay x1.length cy], .string a1] rfl ln_ ?_; refine (impl_ChangesOf.calls k _ _ x0 _ _ x1 a1 g0 g1 _ (Kd.R_reads' X0.out).2.2 (Kd.R_reads' X0.out).2.1 (Kd.R_reads' X1.out).2.2 (Kd.R_reads' X1.out).2.1 AG.out).mono ?_; rintro e w17 ⟨v, rfl, hr, hb⟩; refine ⟨_, rfl, ?_⟩; obtain ⟨Ah, ch, eh⟩ := Kd.R_slice hr; subst eh; have M17 := Aside0.mk (M16.out.step hb); have S17 := Aside0.mk (Kd.R_below S16.out hb); have G17 := Aside0.mk (Kd.R_below G16.out hb); have H17 := Aside0.mk hr; clear hb hr X0 X1 S16 G16)
    | ((with_reducible refine gate_callee (f := 24) rfl ?_); refine goesL_ (some 89) rfl rfl Try.func24 (by kernel_rfl) rfl #[.slice Ah g0.length ch, .slice As s0.length cs_] rfl ln_ ?_; refine (laws_eqInt64S.calls k _ _ g0 _ _ s0 true _ (Kd.R_reads' H17.out).2.2 (Kd.R_reads' H17.out).2.1 (Kd.R_reads' S17.out).2.2 (Kd.R_reads' S17.out).2.1 AE1.out).mono ?_; rintro e w18 ⟨rfl, hd⟩; refine ⟨_, rfl, ?_⟩; have hb := hd.below; clear hd; have M18 := Aside0.mk (M17.out.step hb); have G18 := Aside0.mk (Kd.R_below G17.out hb); clear hb S17 G17)
    | ((with_reducible refine gate_callee (f := 27) rfl ?_); refine goesL_ (some 98) rfl rfl Try.func27 (by kernel_rfl) rfl #[.slice Ag g0.length cg, .int .i64 1] rfl ln_ ?_; have hcall := laws_heldInt64S.calls k Ag cg mr 1 q w18 (Kd.R_reads' G18.out).2.2 (by have := (Kd.R_reads' G18.out).2.1; omega) AQ.out; rw [← HL.out] at hcall; refine hcall.mono ?_; clear hcall; rintro e w19 ⟨rfl, hd⟩; refine ⟨_, rfl, ?_⟩; have hb := hd.below; clear hd; have M19 := Aside0.mk (M18.out.step hb); clear hb G18))
  go_ret
  exact ⟨rfl, M19.out.below⟩
end Go.Proofs.Ytfkiamccipoioaa.P
end

section
/- How an argument of a law reads: out of the form's reading (trod) of a value comes the list or structure that the printed contracts speak of. -/
namespace Go.Proofs.YtfkiamccipoioaaOp
open Go.RowKit Go.ChangeShapes Go.WideShapes Go.Deep Go.Proofs.YtfkiamccipoioaaW.PrintWords

/-- Every reading of cells at type t gives a value of this kind with the property Q. -/
structure Opens (P : Program) (t : TypeId) {α : Type} (d : Kd α) (Q : α → Prop) : Prop where
  mk ::
  out : ∀ {H : Type} (enc : TypeId × Value → H) (w : World) (base : Nat) (spare : Nat → Bool) (held : Bool) (fuel : Nat) (cs : List Value) (x : DataW H × List MemPlace), DataW.trod enc P w base spare held fuel t cs = some x → ∃ a, d.K w a cs ∧ Q a

theorem opens_int {P : Program} {t : TypeId} {k : IntKind} (ht : P.underlying t = some (.int k)) : Opens P t (Kd.int k) (fun n => (Lit.int k n).wf = true) :=
  ⟨fun enc w base spare held fuel cs x h => by
    obtain ⟨n, rfl, _, hw⟩ := DataW.trod_int ht h
    exact ⟨n, rfl, hw⟩⟩
theorem list_of_index {α : Type} (p : Nat → α → Prop) : ∀ n : Nat, (∀ i, i < n → ∃ x, p i x) → ∃ xs : List α, xs.length = n ∧ ∀ i x, xs[i]? = some x → p i x := by
  intro n
  induction n with
  | zero => intro _; exact ⟨[], rfl, fun i x h => by simp at h⟩
  | succ n ih =>
    intro h
    obtain ⟨xs, hl, hx⟩ := ih (fun i hi => h i (Nat.lt_succ_of_lt hi))
    obtain ⟨y, hy⟩ := h n (Nat.lt_succ_self n)
    refine ⟨xs ++ [y], by simp [hl], fun i x hi => ?_⟩
    rcases Nat.lt_or_ge i xs.length with h1 | h1
    · rw [List.getElem?_append_left h1] at hi
      exact hx i x hi
    · have h2 : i < (xs ++ [y]).length := (List.getElem?_eq_some_iff.1 hi).1
      have h3 : i = n := by simp at h2; omega
      subst h3
      rw [← hl, List.getElem?_append_right (Nat.le_refl _)] at hi
      simp at hi
      subst hi
      exact hy

theorem opens_slice {P : Program} {t e : TypeId} {α : Type} {d : Kd α} {Q : α → Prop} (ht : P.underlying t = some (.slice e)) (hd : Opens P e d Q) (hc : P.cellsOf e = d.sz) (e' : Nat) :
    Opens P t (Kd.slice e' d) (fun xs => xs.length ≤ maxLen ∧ ∀ x ∈ xs, Q x) :=
  ⟨fun enc w base spare held fuel cs x h => by
    rcases open_slice ht h with ⟨rfl, _⟩ | ⟨a, len, cap, m, n, D, Pl, rfl, hb, hl, hm, hmm, _, hx⟩
    · exact ⟨[], ⟨none, 0, rfl, Nat.le_refl _, rfl, by simp, fun h0 => absurd h0 (by simp)⟩, by simp [maxLen], fun y hy => by simp at hy⟩
    · have hlm : len ≤ m := by rw [hmm]; split <;> omega
      obtain ⟨xs, hxl, hxs⟩ := list_of_index (fun i (y : α) => Q y ∧ ∃ c, d.K w y c ∧ c.length = d.sz ∧ ∀ j u, c[j]? = some u → w.cell? (a.add (i * d.sz + j)) = some u) len (fun i hi => by
        obtain ⟨cs', h1, h2⟩ := hx i (by omega)
        obtain ⟨y, hK, hQ⟩ := hd.out enc w base spare held n cs' _ h2
        refine ⟨y, hQ, cs', hK, d.K_len hK, fun j u hj => ?_⟩
        rw [hc] at h1
        obtain ⟨_, hcl, hat⟩ := World.cells?_some h1
        have hjl : j < d.sz := by
          have := (List.getElem?_eq_some_iff.1 hj).1
          rw [hcl] at this
          exact this
        rw [← Go.Deep.add_add, hat j hjl]
        exact hj)
      subst hxl
      have hmax : xs.length ≤ maxLen := Nat.le_trans hl hm
      refine ⟨xs, ⟨some a, cap, rfl, hl, rfl, by unfold maxLen at hmax; omega, fun _ => ⟨a, rfl, fun j p hj => ?_⟩⟩, hmax, fun y hy => ?_⟩
      · obtain ⟨_, c, h1, h2, h3⟩ := hxs j p hj
        exact ⟨c, h2, h1, h3⟩
      · obtain ⟨i, hi⟩ := List.mem_iff_getElem?.1 hy
        exact (hxs i y hi).1⟩

theorem opens_iso {P : Program} {t : TypeId} {α β : Type} {d : Kd α} {Q : α → Prop} (h : Opens P t d Q) (f : β → α) (g : α → β) (hfg : ∀ x, f (g x) = x) : Opens P t (Kd.iso d f) (fun y => Q (f y)) :=
  ⟨fun enc w base spare held fuel cs x hx => by
    obtain ⟨a, hK, hQ⟩ := h.out enc w base spare held fuel cs x hx
    exact ⟨g a, by show d.K w (f (g a)) cs; rw [hfg]; exact hK, by rw [hfg]; exact hQ⟩⟩

/-- The cells from 'off' on are read field by field. -/
structure OpensFs (P : Program) (fs : List Field) (off : Nat) {α : Type} (d : Kd α) (Q : α → Prop) : Prop where
  mk ::
  out : ∀ {H : Type} (enc : TypeId × Value → H) (w : World) (base : Nat) (spare : Nat → Bool) (held : Bool) (n : Nat) (cs : List Value), cs.length = off + d.sz →
    (∀ f ∈ fs, ∃ y, DataW.trod enc P w base spare held n f.type ((cs.drop f.offset).take (P.cellsOf f.type)) = some y) → ∃ a, d.K w a (cs.drop off) ∧ Q a
theorem opens_last {P : Program} {f : Field} {off : Nat} {α : Type} {d : Kd α} {Q : α → Prop} (h : Opens P f.type d Q) (ho : f.offset = off) (hs : P.cellsOf f.type = d.sz) : OpensFs P [f] off d Q :=
  ⟨fun enc w base spare held n cs hl hf => by
    obtain ⟨y, hy⟩ := hf f (List.mem_singleton.2 rfl)
    rw [ho, hs, List.take_of_length_le (by rw [List.length_drop]; omega)] at hy
    exact h.out enc w base spare held n _ y hy⟩
theorem opens_cons {P : Program} {f : Field} {fs : List Field} {off : Nat} {α β : Type} {d : Kd α} {d2 : Kd β} {Q : α → Prop} {Q2 : β → Prop} (h : Opens P f.type d Q) (ho : f.offset = off) (hs : P.cellsOf f.type = d.sz) (h2 : OpensFs P fs (off + d.sz) d2 Q2) :
    OpensFs P (f :: fs) off (Kd.pair d d2) (fun x => Q x.1 ∧ Q2 x.2) :=
  ⟨fun enc w base spare held n cs hl hf => by
    have hl' : cs.length = off + (d.sz + d2.sz) := hl
    obtain ⟨y, hy⟩ := hf f List.mem_cons_self
    rw [ho, hs] at hy
    obtain ⟨a, hK, hQ⟩ := h.out enc w base spare held n _ y hy
    obtain ⟨b, hK2, hQ2⟩ := h2.out enc w base spare held n cs (by omega) (fun g hg => hf g (List.mem_cons_of_mem _ hg))
    refine ⟨(a, b), ⟨(cs.drop off).take d.sz, cs.drop (off + d.sz), ?_, hK, hK2⟩, hQ, hQ2⟩
    rw [← List.drop_drop, List.take_append_drop]⟩
theorem opens_struct {P : Program} {t : TypeId} {fs : List Field} {α : Type} {d : Kd α} {Q : α → Prop} (ht : P.underlying t = some (.struct fs.toArray)) (hs : P.cellsOf t = d.sz) (h : OpensFs P fs 0 d Q) : Opens P t d Q :=
  ⟨fun enc w base spare held fuel cs x hx => by
    obtain ⟨xs, n, _, _, hl, hlen, hf⟩ := DataW.trod_struct ht hx
    have := h.out enc w base spare held n cs (by rw [hl, hs]; omega) (fun f hmem => by
      obtain ⟨i, hi⟩ := List.mem_iff_getElem?.1 hmem
      have h1 : fs.toArray[i]? = some f := by simpa using hi
      have h2 := hf i f h1
      have h3 : i < fs.length := (List.getElem?_eq_some_iff.1 hi).1
      have h4 : i < xs.length := by rw [hlen]; simpa using h3
      exact ⟨_, h2.trans (List.getElem?_eq_getElem h4)⟩)
    simpa using this⟩

/-- A struct by value, as an argument. -/
theorem arg_struct {H : Type} {enc : TypeId × Value → H} {P : Program} {w : World} {base : Nat} {spare : Nat → Bool} {held : Bool} {t : TypeId} {α : Type} {d : Kd α} {Q : α → Prop} {cs : Array Value} {y : DataW H} {p : List MemPlace}
    (ho : Opens P t d Q) (h : DataW.Trod enc P w base spare held t (.agg cs) y p) : ∃ x : α, d.K w x cs.toList ∧ Q x := by
  obtain ⟨fuel, hf⟩ := h
  exact ho.out enc w base spare held fuel _ _ (by simpa [Value.cells] using hf)
end Go.Proofs.YtfkiamccipoioaaOp
end

section
/- Plain words for the laws' statements over lists: an answer with enough rounds (Ev), step by step; one loop's round over a list that is told as what lies behind and what lies ahead. -/
namespace Go.Proofs.YtfkiamccipoioaaB
open Go.RowKit Go.Proofs.YtfkiamccipoioaaW.PrintWords Go.Proofs.YtfkiamccipoioaaW.PrintLast

theorem ev_pos {α : Type} {c : Prop} [Decidable c] {A B : Nat → Option α} {r : α} (h : c) (e : Ev A r) : Ev (fun k => if c then A k else B k) r := by
  simpa only [if_pos h] using e
theorem ev_neg {α : Type} {c : Prop} [Decidable c] {A B : Nat → Option α} {r : α} (h : ¬ c) (e : Ev B r) : Ev (fun k => if c then A k else B k) r := by
  simpa only [if_neg h] using e
theorem ev_ite {α : Type} {c : Prop} [Decidable c] {A B : Nat → Option α} {r : α} (h : c → Ev A r) (h2 : ¬ c → Ev B r) : Ev (fun k => if c then A k else B k) r := by
  by_cases hc : c
  · exact ev_pos hc (h hc)
  · exact ev_neg hc (h2 hc)
theorem ev_bind0 {α β : Type} {g : Option α} {f : Nat → α → Option β} {a : α} {r : β} (h : g = some a) (k : Ev (fun n => f n a) r) : Ev (fun n => g.bind (f n)) r := by
  subst h
  exact k
theorem ev_of {α : Type} {g : Nat → Option α} {a r : α} (h : Ev g a) (e : a = r) : Ev g r := e ▸ h

theorem wrap_small {i : Int} (h0 : -9223372036854775808 ≤ i) (h1 : i ≤ 9223372036854775807) : wrap64 i = i := by
  unfold wrap64
  omega
theorem wrap_next {α : Type} (p : List α) (x : α) (h : p.length ≤ 4611686018427387904) : wrap64 ((p.length : Int) + 1) = ((p ++ [x]).length : Int) := by
  rw [wrap_small (by omega) (by omega), List.length_append]
  simp
theorem getD_at {α : Type} (p : List α) (x : α) (xs : List α) (z : α) : (p ++ x :: xs).getD ((p.length : Int)).toNat z = x := by
  simp
theorem rd_mid (p : List Int) (x : Int) (xs : List Int) : rd (p ++ x :: xs) (p.length : Int) = x := by
  unfold rd
  exact getD_at p x xs 0
theorem set_mid {α : Type} (p : List α) (x y : α) (xs : List α) : (p ++ x :: xs).set ((p.length : Int)).toNat y = p ++ y :: xs := by
  simp
theorem push_mid {α : Type} (p : List α) (x : α) (xs : List α) : p ++ x :: xs = (p ++ [x]) ++ xs := by simp
theorem lt_mid {α : Type} (p : List α) (x : α) (xs : List α) : (p.length : Int) < ((p ++ x :: xs).length : Int) := by
  simp
  omega
theorem not_lt_end {α : Type} (p : List α) : ¬ (p.length : Int) < ((p ++ []).length : Int) := by simp

theorem bt_rd (s : ByteArray) (i : Int) : bt s i = rd (bytesOf s) i := by
  unfold bt rd bytesOf
  by_cases h : i.toNat < s.size
  · rw [dif_pos h]
    have h2 : i.toNat < s.data.toList.length := by rw [data_length]; exact h
    rw [List.getD_eq_getElem?_getD, List.getElem?_map, List.getElem?_eq_getElem h2]
    rfl
  · rw [dif_neg h]
    have h2 : ¬ i.toNat < s.data.toList.length := by rw [data_length]; exact h
    rw [List.getD_eq_getElem?_getD, List.getElem?_map, List.getElem?_eq_none (by omega)]
    rfl
theorem bytes_length (s : ByteArray) : (bytesOf s).length = s.size := by
  unfold bytesOf
  rw [List.length_map, data_length]
/-- A number of 64 bits. -/
def I64 (n : Int) : Prop := -9223372036854775808 ≤ n ∧ n ≤ 9223372036854775807
theorem i64_of_wf {n : Int} (h : (Lit.int .i64 n).wf = true) : I64 n := by
  simp [Lit.wf, IntKind.min, IntKind.max, IntKind.signed, IntKind.bits] at h
  unfold I64
  omega

/-- Two readings come to one answer, of which P holds. -/
def Both {α : Type} (P : α → Prop) (A B : Nat → Option α) : Prop := ∃ r, Ev A r ∧ Ev B r ∧ P r
section
variable {α β : Type} {P : α → Prop} {Q : β → Prop} {A B A2 B2 C : Nat → Option α}
theorem both_now (r : α) (h : P r) : Both P (fun _ => some r) (fun _ => some r) := ⟨r, Ev.now r, Ev.now r, h⟩
theorem both_posL {c : Prop} [Decidable c] (hc : c) (h : Both P A C) : Both P (fun k => if c then A k else B k) C := by
  obtain ⟨r, h3, h4, hp⟩ := h
  exact ⟨r, ev_pos hc h3, h4, hp⟩
theorem both_negL {c : Prop} [Decidable c] (hc : ¬ c) (h : Both P B C) : Both P (fun k => if c then A k else B k) C := by
  obtain ⟨r, h3, h4, hp⟩ := h
  exact ⟨r, ev_neg hc h3, h4, hp⟩
theorem both_posR {c : Prop} [Decidable c] (hc : c) (h : Both P C A) : Both P C (fun k => if c then A k else B k) := by
  obtain ⟨r, h3, h4, hp⟩ := h
  exact ⟨r, h3, ev_pos hc h4, hp⟩
theorem both_negR {c : Prop} [Decidable c] (hc : ¬ c) (h : Both P C B) : Both P C (fun k => if c then A k else B k) := by
  obtain ⟨r, h3, h4, hp⟩ := h
  exact ⟨r, h3, ev_neg hc h4, hp⟩
theorem both_bindL {D : Nat → Option β} {F : Nat → α → Option β} {a : α} (h : Ev A a) (h2 : Both Q (fun k => F k a) D) : Both Q (fun k => (A k).bind (F k)) D := by
  obtain ⟨r, h3, h4, hq⟩ := h2
  exact ⟨r, Ev.bind h h3, h4, hq⟩
theorem both_bindR {D : Nat → Option β} {F : Nat → α → Option β} {a : α} (h : Ev A a) (h2 : Both Q D (fun k => F k a)) : Both Q D (fun k => (A k).bind (F k)) := by
  obtain ⟨r, h3, h4, hq⟩ := h2
  exact ⟨r, h3, Ev.bind h h4, hq⟩
theorem both_of {r : α} (h : Ev A r) (h2 : Ev B r) (hp : P r) : Both P A B := ⟨r, h, h2, hp⟩
end

end Go.Proofs.YtfkiamccipoioaaB
end

section
/- A deck by value, as an argument. -/
namespace Go.Proofs.Ytfkiamccipoioaa.P
open Go.RowKit Go.Proofs.YtfkiamccipoioaaW.PrintWords Go.Proofs.YtfkiamccipoioaaW.PrintLast

structure S25 where
  f0 : List Int
  f1 : List (List Int)
def k25 : Kd S25 := Kd.iso (Kd.pair (Kd.slice 2 (Kd.int .i64)) (Kd.slice 22 (Kd.slice 2 (Kd.int .i64)))) (fun x : S25 => (x.f0, x.f1))
theorem k25_open {w : World} {x : S25} {cs : List Value} (h : k25.K w x cs) : ∃ A0 c0 A1 c1, cs = [.slice A0 x.f0.length c0, .slice A1 x.f1.length c1] ∧ x.f0.length ≤ c0 ∧ Kd.C (Kd.int .i64) w A0 x.f0.length x.f0 ∧ x.f1.length ≤ c1 ∧ Kd.C (Kd.slice 2 (Kd.int .i64)) w A1 x.f1.length x.f1 := by
  obtain ⟨_, _, rfl, ⟨A0, c0, rfl, hl0, h0⟩, ⟨A1, c1, rfl, hl1, h1⟩⟩ := h
  exact ⟨A0, c0, A1, c1, rfl, hl0, h0, hl1, h1⟩
end Go.Proofs.Ytfkiamccipoioaa.P
end

section
/- Lists of whole numbers: their copy, their comparison. -/
namespace Go.Proofs.YtfkiamccipoioaaB
open Go.RowKit Go.Proofs.YtfkiamccipoioaaW.PrintWords Go.Proofs.YtfkiamccipoioaaW.PrintLast Go.Proofs.Ytfkiamccipoioaa.P

theorem eqInt64S_loop : ∀ (xs p : List Int), p.length + xs.length ≤ 4611686018427387904 → Ev (fun k => laws_eqInt64S.l0 k (p ++ xs) (p ++ xs) (p.length : Int)) true := by
  intro xs
  induction xs with
  | nil =>
    intro p _
    refine Ev.step (fun k => by rw [laws_eqInt64S.l0]) ?_
    exact ev_neg (not_lt_end p) (Ev.now _)
  | cons x xs ih =>
    intro p hl
    rw [List.length_cons] at hl
    have hw : wrap64 ((p.length : Int) + 1) = ((p ++ [x]).length : Int) := wrap_next p x (by omega)
    have hi := ih (p ++ [x]) (by rw [List.length_append]; simp; omega)
    refine Ev.step (fun k => by rw [laws_eqInt64S.l0]) ?_
    refine ev_pos (lt_mid p x xs) (ev_pos (Int.natCast_nonneg _) (ev_pos (lt_mid p x xs) ?_))
    rw [hw, push_mid p x xs]
    exact ev_pos rfl hi
theorem eqInt64S_refl (l : List Int) (hl : l.length ≤ 4611686018427387904) : Ev (fun k => laws_eqInt64S.f k l l) true := by
  unfold laws_eqInt64S.f
  exact ev_pos rfl (eqInt64S_loop l [] (by simp; omega))
end Go.Proofs.YtfkiamccipoioaaB
end

section
/- The copy of a list of whole numbers that came in. -/
namespace Go.Proofs.YtfkiamccipoioaaB
open Go.RowKit Go.Proofs.YtfkiamccipoioaaW.PrintWords Go.Proofs.YtfkiamccipoioaaW.PrintLast Go.Proofs.Ytfkiamccipoioaa.P

theorem toInt64S_loop : ∀ (xs p : List Int), p.length + xs.length ≤ 1048576 → Ev (fun k => laws_toInt64S.l0 k (p ++ xs) (p ++ List.replicate xs.length 0) (p.length : Int)) (p ++ xs) := by
  intro xs
  induction xs with
  | nil =>
    intro p _
    refine Ev.step (fun k => by rw [laws_toInt64S.l0]) ?_
    exact ev_neg (not_lt_end p) (ev_of (Ev.now _) (by simp))
  | cons x xs ih =>
    intro p hl
    rw [List.length_cons] at hl
    have hw : wrap64 ((p.length : Int) + 1) = ((p ++ [x]).length : Int) := wrap_next p x (by omega)
    have hi := ih (p ++ [x]) (by rw [List.length_append]; simp; omega)
    refine Ev.step (fun k => by rw [laws_toInt64S.l0]) ?_
    refine ev_pos (lt_mid p x xs) (ev_pos (Int.natCast_nonneg _) ?_)
    rw [rd_mid, hw]
    refine ev_pos (by simp; omega) ?_
    rw [List.length_cons, List.replicate_succ, set_mid, push_mid p x xs]
    rw [push_mid p x (List.replicate xs.length 0)]
    exact hi
theorem toInt64S_ev (l : List Int) (hl : l.length ≤ 1048576) : Ev (fun k => laws_toInt64S.f k l) l := by
  have h := toInt64S_loop l [] (by simp; omega)
  unfold laws_toInt64S.f
  refine ev_pos (Int.natCast_nonneg _) (ev_pos (by simp; omega) ?_)
  simpa using h
abbrev GoodInts (l : List Int) : Prop := l.length ≤ 1048576 ∧ ∀ x ∈ l, I64 x
end Go.Proofs.YtfkiamccipoioaaB
end

section
/- Deck: what it weighs, its copy, its comparison. -/
namespace Go.Proofs.YtfkiamccipoioaaB
open Go.RowKit Go.Proofs.YtfkiamccipoioaaW.PrintWords Go.Proofs.YtfkiamccipoioaaW.PrintLast Go.Proofs.Ytfkiamccipoioaa.P

abbrev GoodDeck (a : List Int) (b : List (List Int)) : Prop := GoodInts a ∧ b.length ≤ 1048576 ∧ ∀ r ∈ b, GoodInts r
theorem rdL_mid (p : List (List Int)) (x : List Int) (xs : List (List Int)) : rd_L1 (p ++ x :: xs) (p.length : Int) = x := by
  unfold rd_L1
  exact getD_at p x xs _
theorem szRow_some (l : List Int) (left : Int) (h0 : 0 ≤ left) (h1 : left ≤ 1048576) (hl : l.length ≤ maxLen) : ∃ r, laws_szInt64S.f l left = some r ∧ r ≤ left ∧ (0 ≤ r → (l.length : Int) ≤ 1048576) := by
  unfold maxLen at hl
  unfold laws_szInt64S.f
  rw [wrap_small (i := left - (l.length : Int)) (by omega) (by omega)]
  by_cases c : left - (l.length : Int) < 0
  · rw [if_pos c]
    exact ⟨_, rfl, by omega, fun h => absurd h (by decide)⟩
  · rw [if_neg c]
    exact ⟨_, rfl, by omega, fun _ => by omega⟩
theorem szRows_loop : ∀ (xs p : List (List Int)) (left : Int), p.length + xs.length ≤ 4611686018427387904 → 0 ≤ left → left ≤ 1048576 → (∀ x ∈ xs, x.length ≤ maxLen) →
    ∃ r, Ev (fun k => laws_szInt64SS.l0 k (p ++ xs) left (p.length : Int)) r ∧ r ≤ left ∧ (0 ≤ r → ∀ x ∈ xs, (x.length : Int) ≤ 1048576) := by
  intro xs
  induction xs with
  | nil =>
    intro p left _ h0 h1 _
    exact ⟨left, Ev.step (fun k => by rw [laws_szInt64SS.l0]) (ev_neg (not_lt_end p) (Ev.now _)), Int.le_refl _, fun _ x hx => by simp at hx⟩
  | cons x xs ih =>
    intro p left hl h0 h1 hs
    have hx := hs x List.mem_cons_self
    rw [List.length_cons] at hl
    have hw : wrap64 ((p.length : Int) + 1) = ((p ++ [x]).length : Int) := wrap_next p x (by omega)
    obtain ⟨r, e, hr, b0⟩ := szRow_some x left h0 h1 hx
    by_cases hn : r < 0
    · refine ⟨-1, Ev.step (fun k => by rw [laws_szInt64SS.l0]) (ev_pos (lt_mid p x xs) (ev_pos (Int.natCast_nonneg _) ?_)), by omega, fun h => absurd h (by decide)⟩
      rw [rdL_mid]
      exact ev_bind0 e (ev_pos hn (Ev.now _))
    · obtain ⟨q, h2, h3, h4⟩ := ih (p ++ [x]) r (by rw [List.length_append]; simp; omega) (by omega) (by omega) (fun y hy => hs y (List.mem_cons_of_mem _ hy))
      refine ⟨q, Ev.step (fun k => by rw [laws_szInt64SS.l0]) (ev_pos (lt_mid p x xs) (ev_pos (Int.natCast_nonneg _) ?_)), by omega, fun h y hy => ?_⟩
      · rw [rdL_mid, hw, push_mid p x xs]
        exact ev_bind0 e (ev_neg hn h2)
      · rcases List.mem_cons.1 hy with rfl | hy
        · exact b0 (by omega)
        · exact h4 h y hy
theorem szDeck_ev (a : List Int) (b : List (List Int)) (ha : a.length ≤ maxLen ∧ ∀ x ∈ a, (Lit.int .i64 x).wf = true) (hb : b.length ≤ maxLen ∧ ∀ r ∈ b, r.length ≤ maxLen ∧ ∀ x ∈ r, (Lit.int .i64 x).wf = true) :
    ∃ r, Ev (fun k => laws_szDeck.f k a b 1048576) r ∧ (0 ≤ r → GoodDeck a b) := by
  unfold laws_szDeck.f
  obtain ⟨r, e, hr, h2⟩ := szRow_some a 1048576 (by decide) (by decide) ha.1
  by_cases hn : r < 0
  · exact ⟨-1, ev_bind0 e (ev_pos hn (Ev.now _)), fun h => absurd h (by decide)⟩
  · have hbl := hb.1
    unfold maxLen at hbl
    have hs : ∃ q, Ev (fun k => laws_szInt64SS.f k b r) q ∧ (0 ≤ q → (b.length : Int) ≤ 1048576 ∧ ∀ x ∈ b, (x.length : Int) ≤ 1048576) := by
      unfold laws_szInt64SS.f
      rw [wrap_small (i := r - (b.length : Int)) (by omega) (by omega)]
      by_cases c : r - (b.length : Int) < 0
      · exact ⟨-1, ev_pos c (Ev.now _), fun h => absurd h (by decide)⟩
      · obtain ⟨q, h3, h4, h5⟩ := szRows_loop b [] (r - (b.length : Int)) (by simp; omega) (by omega) (by omega) (fun x hx => (hb.2 x hx).1)
        exact ⟨q, ev_neg c h3, fun h => ⟨by omega, h5 h⟩⟩
    obtain ⟨q, h3, h4⟩ := hs
    by_cases hq : q < 0
    · exact ⟨-1, ev_bind0 e (ev_neg hn (Ev.bind h3 (ev_pos hq (Ev.now _)))), fun h => absurd h (by decide)⟩
    · obtain ⟨h5, h6⟩ := h4 (by omega)
      have h7 := h2 (by omega)
      refine ⟨q, ev_bind0 e (ev_neg hn (Ev.bind h3 (ev_neg hq (Ev.now _)))), fun _ => ⟨⟨by omega, fun x hx => i64_of_wf (ha.2 x hx)⟩, by omega, fun x hx => ⟨by have := h6 x hx; omega, fun y hy => i64_of_wf ((hb.2 x hx).2 y hy)⟩⟩⟩
theorem toRows_loop : ∀ (xs p : List (List Int)), p.length + xs.length ≤ 1048576 → (∀ x ∈ xs, x.length ≤ 1048576) → Ev (fun k => laws_toInt64SS.l0 k (p ++ xs) (p ++ List.replicate xs.length []) (p.length : Int)) (p ++ xs) := by
  intro xs
  induction xs with
  | nil =>
    intro p _ _
    refine Ev.step (fun k => by rw [laws_toInt64SS.l0]) ?_
    exact ev_neg (not_lt_end p) (ev_of (Ev.now _) (by simp))
  | cons x xs ih =>
    intro p hl hs
    rw [List.length_cons] at hl
    have hw : wrap64 ((p.length : Int) + 1) = ((p ++ [x]).length : Int) := wrap_next p x (by omega)
    have hi := ih (p ++ [x]) (by rw [List.length_append]; simp; omega) (fun y hy => hs y (List.mem_cons_of_mem _ hy))
    refine Ev.step (fun k => by rw [laws_toInt64SS.l0]) ?_
    refine ev_pos (lt_mid p x xs) (ev_pos (Int.natCast_nonneg _) ?_)
    rw [rdL_mid, hw]
    refine Ev.bind (toInt64S_ev x (hs x List.mem_cons_self)) (ev_pos (by simp; omega) ?_)
    rw [List.length_cons, List.replicate_succ, set_mid, push_mid p x xs]
    rw [push_mid p x (List.replicate xs.length [])]
    exact hi
theorem toDeck_ev (a : List Int) (b : List (List Int)) (h : GoodDeck a b) : Ev (fun k => laws_toDeck.f k a b) (a, b) := by
  unfold laws_toDeck.f laws_toInt64SS.f
  refine Ev.bind (toInt64S_ev a h.1.1) (Ev.bind (a := b) ?_ (Ev.now _))
  have h2 := toRows_loop b [] (by have := h.2.1; simp; omega) (fun x hx => (h.2.2 x hx).1)
  have hl := h.2.1
  refine ev_pos (Int.natCast_nonneg _) (ev_pos (by omega) ?_)
  simpa using h2
theorem eqRows_loop : ∀ (xs p : List (List Int)), p.length + xs.length ≤ 1048576 → (∀ x ∈ xs, x.length ≤ 1048576) → Ev (fun k => laws_eqInt64SS.l0 k (p ++ xs) (p ++ xs) (p.length : Int)) true := by
  intro xs
  induction xs with
  | nil =>
    intro p _ _
    refine Ev.step (fun k => by rw [laws_eqInt64SS.l0]) ?_
    exact ev_neg (not_lt_end p) (Ev.now _)
  | cons x xs ih =>
    intro p hl hs
    rw [List.length_cons] at hl
    have hw : wrap64 ((p.length : Int) + 1) = ((p ++ [x]).length : Int) := wrap_next p x (by omega)
    have hi := ih (p ++ [x]) (by rw [List.length_append]; simp; omega) (fun y hy => hs y (List.mem_cons_of_mem _ hy))
    refine Ev.step (fun k => by rw [laws_eqInt64SS.l0]) ?_
    refine ev_pos (lt_mid p x xs) (ev_pos (Int.natCast_nonneg _) (ev_pos (lt_mid p x xs) ?_))
    rw [rdL_mid, hw]
    refine Ev.bind (eqInt64S_refl x (by have := hs x List.mem_cons_self; omega)) (ev_pos rfl ?_)
    rw [push_mid p x xs]
    exact hi
theorem eqDeck_refl (a : List Int) (b : List (List Int)) (h : GoodDeck a b) : Ev (fun k => laws_eqDeck.f k a b a b) true := by
  unfold laws_eqDeck.f laws_eqInt64SS.f
  refine Ev.bind (eqInt64S_refl a (by have := h.1.1; omega)) (ev_pos rfl (Ev.bind (a := true) (ev_pos rfl ?_) (ev_pos rfl (Ev.now _))))
  exact eqRows_loop b [] (by have := h.2.1; simp; omega) (fun x hx => (h.2.2 x hx).1)
end Go.Proofs.YtfkiamccipoioaaB
end

section
/- Lists of whole numbers: their marks. -/
namespace Go.Proofs.YtfkiamccipoioaaB
open Go.RowKit Go.Proofs.YtfkiamccipoioaaW.PrintWords Go.Proofs.YtfkiamccipoioaaW.PrintLast Go.Proofs.Ytfkiamccipoioaa.P

def markInt64 (k : Int) : List Int → List Int
  | [] => []
  | _ :: xs => k :: markInt64 (k + 1) xs
theorem markInt64S_loop : ∀ (xs p : List Int) (k : Int), 0 < k → k + xs.length ≤ 1152921504606846976 → p.length + xs.length ≤ 1152921504606846976 → Ev (fun n => laws_markInt64S.l0 n (p ++ xs) k (p.length : Int)) (k + xs.length, p ++ markInt64 k xs) := by
  intro xs
  induction xs with
  | nil =>
    intro p k h0 h1 _
    refine Ev.step (fun k => by rw [laws_markInt64S.l0]) ?_
    refine ev_neg (not_lt_end p) (ev_of (Ev.now _) ?_)
    simp [markInt64]
  | cons x xs ih =>
    intro p k h0 h1 hl
    rw [List.length_cons] at hl h1
    have hw : wrap64 ((p.length : Int) + 1) = ((p ++ [k]).length : Int) := wrap_next p k (by omega)
    have hi := ih (p ++ [k]) (k + 1) (by omega) (by omega) (by rw [List.length_append]; simp; omega)
    have w1 : wrap64 (k + 1) = k + 1 := wrap_small (by omega) (by omega)
    refine Ev.step (fun k => by rw [laws_markInt64S.l0]) ?_
    refine ev_pos (lt_mid p x xs) (ev_pos (Int.natCast_nonneg _) ?_)
    rw [set_mid, w1, hw, push_mid p k xs]
    refine ev_of hi ?_
    rw [List.length_cons]
    simp [markInt64]
    omega
theorem markInt64S_ev (l : List Int) (hl : l.length ≤ 1048576) : Ev (fun n => laws_markInt64S.f n l 1) (1 + (l.length : Int), markInt64 1 l) := by
  unfold laws_markInt64S.f
  exact markInt64S_loop l [] 1 (by omega) (by omega) (by simp; omega)
theorem heldInt64S_loop : ∀ (xs p : List Int) (k : Int), 0 < k → k + xs.length ≤ 1152921504606846976 → p.length + xs.length ≤ 1152921504606846976 → Ev (fun n => laws_heldInt64S.l0 n (p ++ markInt64 k xs) k (p.length : Int)) (k + xs.length) := by
  intro xs
  induction xs with
  | nil =>
    intro p k h0 h1 _
    refine Ev.step (fun k => by rw [laws_heldInt64S.l0]) ?_
    refine ev_neg (not_lt_end p) (ev_of (Ev.now _) ?_)
    simp
  | cons x xs ih =>
    intro p k h0 h1 hl
    rw [List.length_cons] at hl h1
    have hw : wrap64 ((p.length : Int) + 1) = ((p ++ [k]).length : Int) := wrap_next p k (by omega)
    have hi := ih (p ++ [k]) (k + 1) (by omega) (by omega) (by rw [List.length_append]; simp; omega)
    have w1 : wrap64 (k + 1) = k + 1 := wrap_small (by omega) (by omega)
    rw [markInt64]
    refine Ev.step (fun k => by rw [laws_heldInt64S.l0]) ?_
    refine ev_pos (lt_mid p _ _) (ev_pos (Int.natCast_nonneg _) ?_)
    rw [rd_mid, w1, hw, push_mid p k (markInt64 (k + 1) xs)]
    refine ev_pos rfl (ev_of hi ?_)
    rw [List.length_cons]
    omega
theorem heldInt64S_ev (l : List Int) (hl : l.length ≤ 1048576) : Ev (fun n => laws_heldInt64S.f n (markInt64 1 l) 1) (1 + (l.length : Int)) := by
  unfold laws_heldInt64S.f
  exact heldInt64S_loop l [] 1 (by omega) (by omega) (by simp; omega)
end Go.Proofs.YtfkiamccipoioaaB
end
