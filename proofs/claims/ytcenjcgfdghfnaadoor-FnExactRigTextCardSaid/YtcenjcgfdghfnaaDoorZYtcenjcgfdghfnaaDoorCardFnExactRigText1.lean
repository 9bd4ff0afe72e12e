/- Texts of this claim, packed: Px1. -/
import Derived.Test.YtcenjcgfdghfnaaDoorZYtcenjcgfdghfnaaDoorCardFnExactRigText0
section
-- Written by gprint.py (own program, over the printer of the kit) out of the translation. Lean checks it.
namespace Go.Proofs.YtcenjcgfdghfnaaDoor.P
open Go.RowKit Go.Proofs.YtcenjcgfdghfnaaDoorW.PrintWords Go.Proofs.YtcenjcgfdghfnaaDoorW.PrintLast Go.Proofs.YtcenjcgfdghfnaaDoorW.PrintMore Go.Proofs.YtcenjcgfdghfnaaDoorW.Pk
open Bool renaming true → T_, false → F_
open List renaming setIfInBounds_toArray → sT_, set_cons_zero → s0_, set_cons_succ → sS_
attribute [local go_sem] max2_int min2_int max_two min_two max_three min_three max_four min_four   -- for this text's walks alone
set_option linter.unusedVariables false
set_option linter.unusedSimpArgs false

/-! ### laws_szRail: function 70 -/
def laws_szRail.f (a0_0 : ByteArray) (a0_1 : ByteArray) (a0_2 : Int) (a1 : Int) : Option (Int) := if (wrap64 (a1 - (a0_0.size : Int))) < 0 then (some (-1)) else (if (wrap64 ((wrap64 (a1 - (a0_0.size : Int))) - (a0_1.size : Int))) < 0 then (some (-1)) else (some (wrap64 ((wrap64 (a1 - (a0_0.size : Int))) - (a0_1.size : Int)))))
set_option maxHeartbeats 8000000 in
set_option maxRecDepth 100000 in
theorem laws_szRail.calls (a0_0 : ByteArray) (a0_1 : ByteArray) (a0_2 : Int) (a1 : Int) (r : Int) (w : World) (h : laws_szRail.f a0_0 a0_1 a0_2 a1 = some r) :
  Calls Tryd.prog 70 #[.agg #[.string a0_0, .string a0_1, .int .i64 a0_2], .int .i64 a1] w fun e w' => e = .returned (.int .i64 r) ∧ Below w.heap.size w w' := by
 have hu92 := Tryd.underlying92
 have HB := Aside0.mk (Below.refl w.heap.size w)
 have H : (if (wrap64 (a1 - (a0_0.size : Int))) < 0 then (some (-1)) else (if (wrap64 ((wrap64 (a1 - (a0_0.size : Int))) - (a0_1.size : Int))) < 0 then (some (-1)) else (some (wrap64 ((wrap64 (a1 - (a0_0.size : Int))) - (a0_1.size : Int)))))) = some r := h
 clear h
 by_cases c3 : (wrap64 (a1 - (a0_0.size : Int))) < 0
 ·rw [if_pos c3] at H
  have c3b0 : decide ((wrap64 (a1 - (a0_0.size : Int))) < 0) = true := decide_eq_true c3
  clear c3
  obtain rfl := Option.some.inj H
  go_enter Tryd.func70, Tryd.ntmps70
  go_wp2_with (first | ((with_reducible refine gate_dst (N := 2) rfl ?_); refine box_event ?hg (N := 2) ?hd (cs := #[.string a0_0, .string a0_1, .int .i64 a0_2]) (t := 92) ?hr ?_; (case hd => rfl); (case hg => rfl); (case hr => first | (go_simp; done) | (go_simp; rfl)); intro gb101 hg w4 hbox hb; have n0_ := Aside0.mk (below_step hb_ hb); have n1_ := Aside0.mk (hbox); have n2_ := Aside0.mk ((by rw [hg]; exact (below_size hb_) : w.heap.size ≤ gb101)); have n3_ := Aside0.mk ((by rw [hg]; exact (below_size hb_) : w.heap.size ≤ gb101)); clear HB; have HB := n0_; have BK101 := n1_; have GW101 := n2_; have GE101 := n3_; clear n0_ n1_ n2_ n3_; clear hb hbox hg; have hcz5_0 : w4.cell? ⟨gb101, 0, none⟩ = some (.string a0_0) := (blk_cell BK101.out 0).trans rfl; have hcz5_1 : w4.cell? ⟨gb101, 1, none⟩ = some (.string a0_1) := (blk_cell BK101.out 1).trans rfl; have hcz5_2 : w4.cell? ⟨gb101, 2, none⟩ = some (.int .i64 a0_2) := (blk_cell BK101.out 2).trans rfl; have hfz5_0 := blk_frozen BK101.out 0; have hfz5_1 := blk_frozen BK101.out 1; have hfz5_2 := blk_frozen BK101.out 2))
  go_ret
  exact ⟨ew_, (hg_ GE101)⟩
 ·rw [if_neg c3] at H
  have c3b0 : decide ((wrap64 (a1 - (a0_0.size : Int))) < 0) = false := decide_eq_false c3
  clear c3
  by_cases c6 : (wrap64 ((wrap64 (a1 - (a0_0.size : Int))) - (a0_1.size : Int))) < 0
  ·rw [if_pos c6] at H
   have c6b0 : decide ((wrap64 ((wrap64 (a1 - (a0_0.size : Int))) - (a0_1.size : Int))) < 0) = true := decide_eq_true c6
   clear c6
   obtain rfl := Option.some.inj H
   go_enter Tryd.func70, Tryd.ntmps70
   go_wp2_with (first | ((with_reducible refine gate_dst (N := 2) rfl ?_); refine box_event ?hg (N := 2) ?hd (cs := #[.string a0_0, .string a0_1, .int .i64 a0_2]) (t := 92) ?hr ?_; (case hd => rfl); (case hg => rfl); (case hr => first | (go_simp; done) | (go_simp; rfl)); intro gb101 hg w7 hbox hb; have n0_ := Aside0.mk (below_step hb_ hb); have n1_ := Aside0.mk (hbox); have n2_ := Aside0.mk ((by rw [hg]; exact (below_size hb_) : w.heap.size ≤ gb101)); have n3_ := Aside0.mk ((by rw [hg]; exact (below_size hb_) : w.heap.size ≤ gb101)); clear HB; have HB := n0_; have BK101 := n1_; have GW101 := n2_; have GE101 := n3_; clear n0_ n1_ n2_ n3_; clear hb hbox hg; have hcz8_0 : w7.cell? ⟨gb101, 0, none⟩ = some (.string a0_0) := (blk_cell BK101.out 0).trans rfl; have hcz8_1 : w7.cell? ⟨gb101, 1, none⟩ = some (.string a0_1) := (blk_cell BK101.out 1).trans rfl; have hcz8_2 : w7.cell? ⟨gb101, 2, none⟩ = some (.int .i64 a0_2) := (blk_cell BK101.out 2).trans rfl; have hfz8_0 := blk_frozen BK101.out 0; have hfz8_1 := blk_frozen BK101.out 1; have hfz8_2 := blk_frozen BK101.out 2))
   go_ret
   exact ⟨ew_, (hg_ GE101)⟩
  ·rw [if_neg c6] at H
   have c6b0 : decide ((wrap64 ((wrap64 (a1 - (a0_0.size : Int))) - (a0_1.size : Int))) < 0) = false := decide_eq_false c6
   clear c6
   obtain rfl := Option.some.inj H
   go_enter Tryd.func70, Tryd.ntmps70
   go_wp2_with (first | ((with_reducible refine gate_dst (N := 2) rfl ?_); refine box_event ?hg (N := 2) ?hd (cs := #[.string a0_0, .string a0_1, .int .i64 a0_2]) (t := 92) ?hr ?_; (case hd => rfl); (case hg => rfl); (case hr => first | (go_simp; done) | (go_simp; rfl)); intro gb101 hg w9 hbox hb; have n0_ := Aside0.mk (below_step hb_ hb); have n1_ := Aside0.mk (hbox); have n2_ := Aside0.mk ((by rw [hg]; exact (below_size hb_) : w.heap.size ≤ gb101)); have n3_ := Aside0.mk ((by rw [hg]; exact (below_size hb_) : w.heap.size ≤ gb101)); clear HB; have HB := n0_; have BK101 := n1_; have GW101 := n2_; have GE101 := n3_; clear n0_ n1_ n2_ n3_; clear hb hbox hg; have hcz10_0 : w9.cell? ⟨gb101, 0, none⟩ = some (.string a0_0) := (blk_cell BK101.out 0).trans rfl; have hcz10_1 : w9.cell? ⟨gb101, 1, none⟩ = some (.string a0_1) := (blk_cell BK101.out 1).trans rfl; have hcz10_2 : w9.cell? ⟨gb101, 2, none⟩ = some (.int .i64 a0_2) := (blk_cell BK101.out 2).trans rfl; have hfz10_0 := blk_frozen BK101.out 0; have hfz10_1 := blk_frozen BK101.out 1; have hfz10_2 := blk_frozen BK101.out 2))
   go_ret
   exact ⟨ew_, (hg_ GE101)⟩

/-! ### laws_szRailS: function 29 -/
def laws_szRailS.l0 : Nat → List (S92) → Int → Int → Option (Int)
 | 0, _, _, _ => none
 | k + 1, x0, x1, x5 => if x5 < (x0.length : Int) then (if 0 ≤ x5 then ((laws_szRail.f ((rd_T92 x0 x5).f0) ((rd_T92 x0 x5).f1) ((rd_T92 x0 x5).f2) x1).bind fun t103 => (if t103 < 0 then (some (-1)) else (laws_szRailS.l0 k x0 t103 (wrap64 (x5 + 1))))) else (none)) else (some x1)
def laws_szRailS.f (k : Nat) (l0 : List (S92)) (a1 : Int) : Option (Int) := if (wrap64 (a1 - (l0.length : Int))) < 0 then (some (-1)) else (laws_szRailS.l0 k l0 (wrap64 (a1 - (l0.length : Int))) 0)
set_option maxHeartbeats 8000000 in
set_option maxRecDepth 100000 in
theorem laws_szRailS.calls (k : Nat) (A0 : Option Addr) (c0 : Nat) (l0 : List (S92)) (a1 : Int) (r : Int) (w : World) (hr0 : Kd.C k92 w A0 l0.length l0) (hc0 : l0.length ≤ c0) (h : laws_szRailS.f k l0 a1 = some r) :
  Calls Tryd.prog 29 #[.slice A0 l0.length c0, .int .i64 a1] w fun e w' => e = .returned (.int .i64 r) ∧ Below w.heap.size w w' := by
 have hu92 := Tryd.underlying92
 have HR0 := Aside0.mk hr0
 have HC0 := Aside0.mk hc0
 clear hr0 hc0
 have HB := Aside0.mk (Below.refl w.heap.size w)
 have H : (if (wrap64 (a1 - (l0.length : Int))) < 0 then (some (-1)) else (laws_szRailS.l0 k l0 (wrap64 (a1 - (l0.length : Int))) 0)) = some r := h
 clear h
 by_cases c3 : (wrap64 (a1 - (l0.length : Int))) < 0
 ·rw [if_pos c3] at H
  have c3b0 : decide ((wrap64 (a1 - (l0.length : Int))) < 0) = true := decide_eq_true c3
  clear c3
  obtain rfl := Option.some.inj H
  go_enter Tryd.func29, Tryd.ntmps29
  go_wp2
  go_ret
  exact ⟨ew_, hb_⟩
 ·rw [if_neg c3] at H
  have c3b0 : decide ((wrap64 (a1 - (l0.length : Int))) < 0) = false := decide_eq_false c3
  clear c3
  have H' := Aside0.mk H
  clear H
  go_enter Tryd.func29, Tryd.ntmps29
  go_wp2
  go_loopg [1, 5] k (fun kq v1 v5 w' => ∃ (x1_1 : Int) (x5_1 : Int), v1 = .int .i64 x1_1 ∧ v5 = .int .i64 x5_1 ∧ Aside0 (laws_szRailS.l0 kq l0 x1_1 x5_1 = some r) ∧ Aside0 (kq ≤ k) ∧ Aside0 (Below w.heap.size w w'))
  case atStart => exact ⟨(wrap64 (a1 - (l0.length : Int))), (0), (by first | rfl | (simp; done) | (simp [*]; done)), (by first | rfl | (simp; done) | (simp [*]; done)), H', ⟨Nat.le_refl _⟩, ⟨hb_⟩⟩
  case round =>
   clear H'
   try clear c2
   try clear p2
   try clear c3
   try clear c3b0
   obtain ⟨x1_1, x5_1, rfl, rfl, HA, HK1, HB⟩ := hrel
   cases gk with
   | zero => exact absurd HA.out (by simp [laws_szRailS.l0])
   | succ k1 =>
    have H := HA.out
    clear HA
    simp only [laws_szRailS.l0] at H
    by_cases c4 : x5_1 < (l0.length : Int)
    ·rw [if_pos c4] at H
     have c4b0 : decide (x5_1 < (l0.length : Int)) = true := decide_eq_true c4
     clear c4
     by_cases c5 : 0 ≤ x5_1
     ·rw [if_pos c5] at H
      have c5b0 : decide (0 ≤ x5_1) = true := decide_eq_true c5
      clear c5
      replace H := Option.bind_eq_some_iff.mp H
      obtain ⟨t103, A60, H⟩ := H
      replace H : (if t103 < 0 then (some (-1)) else (laws_szRailS.l0 k1 l0 t103 (wrap64 (x5_1 + 1)))) = some r := H
      have A6 := Aside0.mk A60
      clear A60
      by_cases c7 : t103 < 0
      ·rw [if_pos c7] at H
       have c7b0 : decide (t103 < 0) = true := decide_eq_true c7
       clear c7
       obtain rfl := Option.some.inj H
       have p102 : 0 ≤ (x5_1 : Int) := od_
       have q102 : x5_1 < (l0.length : Int) := od_
       obtain ⟨ad102, e102, hx102_0, hx102_1, hx102_2⟩ := at_T92 HR0.out x5_1 p102 q102
       cases e102
       replace hx102_0 := cq_ HB hx102_0
       replace hx102_1 := cq_ HB hx102_1
       replace hx102_2 := cq_ HB hx102_2
       replace p102 := eq_true p102
       replace q102 := eq_true q102
       go_wp2_with (first | ((with_reducible refine gate_callee (f := 70) rfl ?_); refine goesL_ (some 23) rfl rfl Tryd.func70 (by kernel_rfl) rfl #[.agg #[.string ((rd_T92 l0 x5_1).f0), .string ((rd_T92 l0 x5_1).f1), .int .i64 ((rd_T92 l0 x5_1).f2)], .int .i64 x1_1] rfl ln_ ?_; (with_reducible refine (laws_szRail.calls ((rd_T92 l0 x5_1).f0) ((rd_T92 l0 x5_1).f1) ((rd_T92 l0 x5_1).f2) x1_1 t103 _ A6.out).mono ?_); rintro e w8 ⟨rfl, hb⟩; refine ⟨_, rfl, ?_⟩; have n0_ := Aside0.mk (below_step hb_ hb); clear HB; have HB := n0_; clear n0_; (try clear hb); (try clear hb2); (try clear hk); (try clear hi)))
       go_ret
       exact ⟨ew_, hb_⟩
      ·rw [if_neg c7] at H
       have c7b0 : decide (t103 < 0) = false := decide_eq_false c7
       clear c7
       have H' := Aside0.mk H
       clear H
       have p102 : 0 ≤ (x5_1 : Int) := od_
       have q102 : x5_1 < (l0.length : Int) := od_
       obtain ⟨ad102, e102, hx102_0, hx102_1, hx102_2⟩ := at_T92 HR0.out x5_1 p102 q102
       cases e102
       replace hx102_0 := cq_ HB hx102_0
       replace hx102_1 := cq_ HB hx102_1
       replace hx102_2 := cq_ HB hx102_2
       replace p102 := eq_true p102
       replace q102 := eq_true q102
       go_wp2_with (first | ((with_reducible refine gate_callee (f := 70) rfl ?_); refine goesL_ (some 23) rfl rfl Tryd.func70 (by kernel_rfl) rfl #[.agg #[.string ((rd_T92 l0 x5_1).f0), .string ((rd_T92 l0 x5_1).f1), .int .i64 ((rd_T92 l0 x5_1).f2)], .int .i64 x1_1] rfl ln_ ?_; (with_reducible refine (laws_szRail.calls ((rd_T92 l0 x5_1).f0) ((rd_T92 l0 x5_1).f1) ((rd_T92 l0 x5_1).f2) x1_1 t103 _ A6.out).mono ?_); rintro e w9 ⟨rfl, hb⟩; refine ⟨_, rfl, ?_⟩; have n0_ := Aside0.mk (below_step hb_ hb); clear HB; have HB := n0_; clear n0_; (try clear hb); (try clear hb2); (try clear hk); (try clear hi)))
       go_roundg k1
       case measure => have := HK1.out; omega
       case rel => exact ⟨(t103), (wrap64 (x5_1 + 1)), (by first | rfl | (simp; done) | (simp [*]; done)), (by first | rfl | (simp; done) | (simp [*]; done)), H', ⟨by have := HK1.out; omega⟩, ⟨hb_⟩⟩
     ·rw [if_neg c5] at H
      exact absurd H (by simp)
    ·rw [if_neg c4] at H
     have c4b0 : decide (x5_1 < (l0.length : Int)) = false := decide_eq_false c4
     clear c4
     obtain rfl := Option.some.inj H
     go_wp2
     go_ret
     exact ⟨ew_, hb_⟩

/-! ### laws_szStringS: function 30 -/
def laws_szStringS.l0 : Nat → List ByteArray → Int → Int → Option (Int)
 | 0, _, _, _ => none
 | k + 1, x0, x1, x5 => if x5 < (x0.length : Int) then (if 0 ≤ x5 then (if (wrap64 (x1 - ((rdOf ByteArray.empty x0 x5).size : Int))) < 0 then (some (-1)) else (laws_szStringS.l0 k x0 (wrap64 (x1 - ((rdOf ByteArray.empty x0 x5).size : Int))) (wrap64 (x5 + 1)))) else (none)) else (some x1)
def laws_szStringS.f (k : Nat) (l0 : List ByteArray) (a1 : Int) : Option (Int) := if (wrap64 (a1 - (l0.length : Int))) < 0 then (some (-1)) else (laws_szStringS.l0 k l0 (wrap64 (a1 - (l0.length : Int))) 0)
set_option maxHeartbeats 8000000 in
set_option maxRecDepth 100000 in
theorem laws_szStringS.calls (k : Nat) (A0 : Option Addr) (c0 : Nat) (l0 : List ByteArray) (a1 : Int) (r : Int) (w : World) (hr0 : Kd.C Kd.string w A0 l0.length l0) (hc0 : l0.length ≤ c0) (h : laws_szStringS.f k l0 a1 = some r) :
  Calls Tryd.prog 30 #[.slice A0 l0.length c0, .int .i64 a1] w fun e w' => e = .returned (.int .i64 r) ∧ Drawn0 w w' := by
 have HR0 := Aside0.mk hr0
 have HC0 := Aside0.mk hc0
 clear hr0 hc0
 have H : (if (wrap64 (a1 - (l0.length : Int))) < 0 then (some (-1)) else (laws_szStringS.l0 k l0 (wrap64 (a1 - (l0.length : Int))) 0)) = some r := h
 clear h
 by_cases c3 : (wrap64 (a1 - (l0.length : Int))) < 0
 ·rw [if_pos c3] at H
  have c3b0 : decide ((wrap64 (a1 - (l0.length : Int))) < 0) = true := decide_eq_true c3
  clear c3
  obtain rfl := Option.some.inj H
  go_enter Tryd.func30, Tryd.ntmps30
  go_wp2
  go_ret
  exact ⟨by first | rfl | (simp; done) | (simp [*]; done), by repeat (first | exact Drawn0.refl _ | apply Drawn0.step)⟩
 ·rw [if_neg c3] at H
  have c3b0 : decide ((wrap64 (a1 - (l0.length : Int))) < 0) = false := decide_eq_false c3
  clear c3
  have H' := Aside0.mk H
  clear H
  go_enter Tryd.func30, Tryd.ntmps30
  go_wp2
  go_loopg [1, 5] k (fun kq v1 v5 w' => ∃ (x1_1 : Int) (x5_1 : Int), v1 = .int .i64 x1_1 ∧ v5 = .int .i64 x5_1 ∧ Aside0 (laws_szStringS.l0 kq l0 x1_1 x5_1 = some r) ∧ Aside0 (kq ≤ k) ∧ Drawn0 w w')
  case atStart => exact ⟨(wrap64 (a1 - (l0.length : Int))), (0), (by first | rfl | (simp; done) | (simp [*]; done)), (by first | rfl | (simp; done) | (simp [*]; done)), H', ⟨Nat.le_refl _⟩, by repeat (first | exact Drawn0.refl _ | apply Drawn0.step)⟩
  case round =>
   clear H'
   try clear p2
   try clear c3
   try clear c3b0
   obtain ⟨x1_1, x5_1, rfl, rfl, HA, HK1, ⟨m1, rfl⟩⟩ := hrel
   cases gk with
   | zero => exact absurd HA.out (by simp [laws_szStringS.l0])
   | succ k1 =>
    have H := HA.out
    clear HA
    simp only [laws_szStringS.l0] at H
    by_cases c4 : x5_1 < (l0.length : Int)
    ·rw [if_pos c4] at H
     have c4b0 : decide (x5_1 < (l0.length : Int)) = true := decide_eq_true c4
     clear c4
     by_cases c5 : 0 ≤ x5_1
     ·rw [if_pos c5] at H
      have c5b0 : decide (0 ≤ x5_1) = true := decide_eq_true c5
      clear c5
      by_cases c6 : (wrap64 (x1_1 - ((rdOf ByteArray.empty l0 x5_1).size : Int))) < 0
      ·rw [if_pos c6] at H
       have c6b0 : decide ((wrap64 (x1_1 - ((rdOf ByteArray.empty l0 x5_1).size : Int))) < 0) = true := decide_eq_true c6
       clear c6
       obtain rfl := Option.some.inj H
       have p104 : 0 ≤ (x5_1 : Int) := od_
       have q104 : x5_1 < (l0.length : Int) := od_
       obtain ⟨ad104, e104, hx104_0⟩ := Kd.at_string HR0.out x5_1 p104 q104
       cases e104
       replace p104 := eq_true p104
       replace q104 := eq_true q104
       go_wp2
       go_ret
       exact ⟨by first | rfl | (simp; done) | (simp [*]; done), by repeat (first | exact Drawn0.refl _ | apply Drawn0.step)⟩
      ·rw [if_neg c6] at H
       have c6b0 : decide ((wrap64 (x1_1 - ((rdOf ByteArray.empty l0 x5_1).size : Int))) < 0) = false := decide_eq_false c6
       clear c6
       have H' := Aside0.mk H
       clear H
       have p104 : 0 ≤ (x5_1 : Int) := od_
       have q104 : x5_1 < (l0.length : Int) := od_
       obtain ⟨ad104, e104, hx104_0⟩ := Kd.at_string HR0.out x5_1 p104 q104
       cases e104
       replace p104 := eq_true p104
       replace q104 := eq_true q104
       go_wp2
       go_roundg k1
       case measure => have := HK1.out; omega
       case rel => exact ⟨(wrap64 (x1_1 - ((rdOf ByteArray.empty l0 x5_1).size : Int))), (wrap64 (x5_1 + 1)), (by first | rfl | (simp; done) | (simp [*]; done)), (by first | rfl | (simp; done) | (simp [*]; done)), H', ⟨by have := HK1.out; omega⟩, by repeat (first | exact Drawn0.refl _ | apply Drawn0.step)⟩
     ·rw [if_neg c5] at H
      exact absurd H (by simp)
    ·rw [if_neg c4] at H
     have c4b0 : decide (x5_1 < (l0.length : Int)) = false := decide_eq_false c4
     clear c4
     obtain rfl := Option.some.inj H
     go_wp2
     go_ret
     exact ⟨by first | rfl | (simp; done) | (simp [*]; done), by repeat (first | exact Drawn0.refl _ | apply Drawn0.step)⟩

/-! ### laws_szBelay: function 71 -/
def laws_szBelay.f (a0_0 : ByteArray) (a0_1 : ByteArray) (a0_2 : Int) (a1 : Int) : Option (Int) := if (wrap64 (a1 - (a0_0.size : Int))) < 0 then (some (-1)) else (if (wrap64 ((wrap64 (a1 - (a0_0.size : Int))) - (a0_1.size : Int))) < 0 then (some (-1)) else (some (wrap64 ((wrap64 (a1 - (a0_0.size : Int))) - (a0_1.size : Int)))))
set_option maxHeartbeats 8000000 in
set_option maxRecDepth 100000 in
theorem laws_szBelay.calls (a0_0 : ByteArray) (a0_1 : ByteArray) (a0_2 : Int) (a1 : Int) (r : Int) (w : World) (h : laws_szBelay.f a0_0 a0_1 a0_2 a1 = some r) :
  Calls Tryd.prog 71 #[.agg #[.string a0_0, .string a0_1, .int .i64 a0_2], .int .i64 a1] w fun e w' => e = .returned (.int .i64 r) ∧ Below w.heap.size w w' := by
 have hu94 := Tryd.underlying94
 have HB := Aside0.mk (Below.refl w.heap.size w)
 have H : (if (wrap64 (a1 - (a0_0.size : Int))) < 0 then (some (-1)) else (if (wrap64 ((wrap64 (a1 - (a0_0.size : Int))) - (a0_1.size : Int))) < 0 then (some (-1)) else (some (wrap64 ((wrap64 (a1 - (a0_0.size : Int))) - (a0_1.size : Int)))))) = some r := h
 clear h
 by_cases c3 : (wrap64 (a1 - (a0_0.size : Int))) < 0
 ·rw [if_pos c3] at H
  have c3b0 : decide ((wrap64 (a1 - (a0_0.size : Int))) < 0) = true := decide_eq_true c3
  clear c3
  obtain rfl := Option.some.inj H
  go_enter Tryd.func71, Tryd.ntmps71
  go_wp2_with (first | ((with_reducible refine gate_dst (N := 2) rfl ?_); refine box_event ?hg (N := 2) ?hd (cs := #[.string a0_0, .string a0_1, .int .i64 a0_2]) (t := 94) ?hr ?_; (case hd => rfl); (case hg => rfl); (case hr => first | (go_simp; done) | (go_simp; rfl)); intro gb105 hg w4 hbox hb; have n0_ := Aside0.mk (below_step hb_ hb); have n1_ := Aside0.mk (hbox); have n2_ := Aside0.mk ((by rw [hg]; exact (below_size hb_) : w.heap.size ≤ gb105)); have n3_ := Aside0.mk ((by rw [hg]; exact (below_size hb_) : w.heap.size ≤ gb105)); clear HB; have HB := n0_; have BK105 := n1_; have GW105 := n2_; have GE105 := n3_; clear n0_ n1_ n2_ n3_; clear hb hbox hg; have hcz5_0 : w4.cell? ⟨gb105, 0, none⟩ = some (.string a0_0) := (blk_cell BK105.out 0).trans rfl; have hcz5_1 : w4.cell? ⟨gb105, 1, none⟩ = some (.string a0_1) := (blk_cell BK105.out 1).trans rfl; have hcz5_2 : w4.cell? ⟨gb105, 2, none⟩ = some (.int .i64 a0_2) := (blk_cell BK105.out 2).trans rfl; have hfz5_0 := blk_frozen BK105.out 0; have hfz5_1 := blk_frozen BK105.out 1; have hfz5_2 := blk_frozen BK105.out 2))
  go_ret
  exact ⟨ew_, (hg_ GE105)⟩
 ·rw [if_neg c3] at H
  have c3b0 : decide ((wrap64 (a1 - (a0_0.size : Int))) < 0) = false := decide_eq_false c3
  clear c3
  by_cases c6 : (wrap64 ((wrap64 (a1 - (a0_0.size : Int))) - (a0_1.size : Int))) < 0
  ·rw [if_pos c6] at H
   have c6b0 : decide ((wrap64 ((wrap64 (a1 - (a0_0.size : Int))) - (a0_1.size : Int))) < 0) = true := decide_eq_true c6
   clear c6
   obtain rfl := Option.some.inj H
   go_enter Tryd.func71, Tryd.ntmps71
   go_wp2_with (first | ((with_reducible refine gate_dst (N := 2) rfl ?_); refine box_event ?hg (N := 2) ?hd (cs := #[.string a0_0, .string a0_1, .int .i64 a0_2]) (t := 94) ?hr ?_; (case hd => rfl); (case hg => rfl); (case hr => first | (go_simp; done) | (go_simp; rfl)); intro gb105 hg w7 hbox hb; have n0_ := Aside0.mk (below_step hb_ hb); have n1_ := Aside0.mk (hbox); have n2_ := Aside0.mk ((by rw [hg]; exact (below_size hb_) : w.heap.size ≤ gb105)); have n3_ := Aside0.mk ((by rw [hg]; exact (below_size hb_) : w.heap.size ≤ gb105)); clear HB; have HB := n0_; have BK105 := n1_; have GW105 := n2_; have GE105 := n3_; clear n0_ n1_ n2_ n3_; clear hb hbox hg; have hcz8_0 : w7.cell? ⟨gb105, 0, none⟩ = some (.string a0_0) := (blk_cell BK105.out 0).trans rfl; have hcz8_1 : w7.cell? ⟨gb105, 1, none⟩ = some (.string a0_1) := (blk_cell BK105.out 1).trans rfl; have hcz8_2 : w7.cell? ⟨gb105, 2, none⟩ = some (.int .i64 a0_2) := (blk_cell BK105.out 2).trans rfl; have hfz8_0 := blk_frozen BK105.out 0; have hfz8_1 := blk_frozen BK105.out 1; have hfz8_2 := blk_frozen BK105.out 2))
   go_ret
   exact ⟨ew_, (hg_ GE105)⟩
  ·rw [if_neg c6] at H
   have c6b0 : decide ((wrap64 ((wrap64 (a1 - (a0_0.size : Int))) - (a0_1.size : Int))) < 0) = false := decide_eq_false c6
   clear c6
   obtain rfl := Option.some.inj H
   go_enter Tryd.func71, Tryd.ntmps71
   go_wp2_with (first | ((with_reducible refine gate_dst (N := 2) rfl ?_); refine box_event ?hg (N := 2) ?hd (cs := #[.string a0_0, .string a0_1, .int .i64 a0_2]) (t := 94) ?hr ?_; (case hd => rfl); (case hg => rfl); (case hr => first | (go_simp; done) | (go_simp; rfl)); intro gb105 hg w9 hbox hb; have n0_ := Aside0.mk (below_step hb_ hb); have n1_ := Aside0.mk (hbox); have n2_ := Aside0.mk ((by rw [hg]; exact (below_size hb_) : w.heap.size ≤ gb105)); have n3_ := Aside0.mk ((by rw [hg]; exact (below_size hb_) : w.heap.size ≤ gb105)); clear HB; have HB := n0_; have BK105 := n1_; have GW105 := n2_; have GE105 := n3_; clear n0_ n1_ n2_ n3_; clear hb hbox hg; have hcz10_0 : w9.cell? ⟨gb105, 0, none⟩ = some (.string a0_0) := (blk_cell BK105.out 0).trans rfl; have hcz10_1 : w9.cell? ⟨gb105, 1, none⟩ = some (.string a0_1) := (blk_cell BK105.out 1).trans rfl; have hcz10_2 : w9.cell? ⟨gb105, 2, none⟩ = some (.int .i64 a0_2) := (blk_cell BK105.out 2).trans rfl; have hfz10_0 := blk_frozen BK105.out 0; have hfz10_1 := blk_frozen BK105.out 1; have hfz10_2 := blk_frozen BK105.out 2))
   go_ret
   exact ⟨ew_, (hg_ GE105)⟩

/-! ### laws_szBelayS: function 31 -/
def laws_szBelayS.l0 : Nat → List (S94) → Int → Int → Option (Int)
 | 0, _, _, _ => none
 | k + 1, x0, x1, x5 => if x5 < (x0.length : Int) then (if 0 ≤ x5 then ((laws_szBelay.f ((rd_T94 x0 x5).f0) ((rd_T94 x0 x5).f1) ((rd_T94 x0 x5).f2) x1).bind fun t107 => (if t107 < 0 then (some (-1)) else (laws_szBelayS.l0 k x0 t107 (wrap64 (x5 + 1))))) else (none)) else (some x1)
def laws_szBelayS.f (k : Nat) (l0 : List (S94)) (a1 : Int) : Option (Int) := if (wrap64 (a1 - (l0.length : Int))) < 0 then (some (-1)) else (laws_szBelayS.l0 k l0 (wrap64 (a1 - (l0.length : Int))) 0)
set_option maxHeartbeats 8000000 in
set_option maxRecDepth 100000 in
theorem laws_szBelayS.calls (k : Nat) (A0 : Option Addr) (c0 : Nat) (l0 : List (S94)) (a1 : Int) (r : Int) (w : World) (hr0 : Kd.C k94 w A0 l0.length l0) (hc0 : l0.length ≤ c0) (h : laws_szBelayS.f k l0 a1 = some r) :
  Calls Tryd.prog 31 #[.slice A0 l0.length c0, .int .i64 a1] w fun e w' => e = .returned (.int .i64 r) ∧ Below w.heap.size w w' := by
 have hu94 := Tryd.underlying94
 have HR0 := Aside0.mk hr0
 have HC0 := Aside0.mk hc0
 clear hr0 hc0
 have HB := Aside0.mk (Below.refl w.heap.size w)
 have H : (if (wrap64 (a1 - (l0.length : Int))) < 0 then (some (-1)) else (laws_szBelayS.l0 k l0 (wrap64 (a1 - (l0.length : Int))) 0)) = some r := h
 clear h
 by_cases c3 : (wrap64 (a1 - (l0.length : Int))) < 0
 ·rw [if_pos c3] at H
  have c3b0 : decide ((wrap64 (a1 - (l0.length : Int))) < 0) = true := decide_eq_true c3
  clear c3
  obtain rfl := Option.some.inj H
  go_enter Tryd.func31, Tryd.ntmps31
  go_wp2
  go_ret
  exact ⟨ew_, hb_⟩
 ·rw [if_neg c3] at H
  have c3b0 : decide ((wrap64 (a1 - (l0.length : Int))) < 0) = false := decide_eq_false c3
  clear c3
  have H' := Aside0.mk H
  clear H
  go_enter Tryd.func31, Tryd.ntmps31
  go_wp2
  go_loopg [1, 5] k (fun kq v1 v5 w' => ∃ (x1_1 : Int) (x5_1 : Int), v1 = .int .i64 x1_1 ∧ v5 = .int .i64 x5_1 ∧ Aside0 (laws_szBelayS.l0 kq l0 x1_1 x5_1 = some r) ∧ Aside0 (kq ≤ k) ∧ Aside0 (Below w.heap.size w w'))
  case atStart => exact ⟨(wrap64 (a1 - (l0.length : Int))), (0), (by first | rfl | (simp; done) | (simp [*]; done)), (by first | rfl | (simp; done) | (simp [*]; done)), H', ⟨Nat.le_refl _⟩, ⟨hb_⟩⟩
  case round =>
   clear H'
   try clear p2
   try clear c3
   try clear c3b0
   obtain ⟨x1_1, x5_1, rfl, rfl, HA, HK1, HB⟩ := hrel
   cases gk with
   | zero => exact absurd HA.out (by simp [laws_szBelayS.l0])
   | succ k1 =>
    have H := HA.out
    clear HA
    simp only [laws_szBelayS.l0] at H
    by_cases c4 : x5_1 < (l0.length : Int)
    ·rw [if_pos c4] at H
     have c4b0 : decide (x5_1 < (l0.length : Int)) = true := decide_eq_true c4
     clear c4
     by_cases c5 : 0 ≤ x5_1
     ·rw [if_pos c5] at H
      have c5b0 : decide (0 ≤ x5_1) = true := decide_eq_true c5
      clear c5
      replace H := Option.bind_eq_some_iff.mp H
      obtain ⟨t107, A60, H⟩ := H
      replace H : (if t107 < 0 then (some (-1)) else (laws_szBelayS.l0 k1 l0 t107 (wrap64 (x5_1 + 1)))) = some r := H
      have A6 := Aside0.mk A60
      clear A60
      by_cases c7 : t107 < 0
      ·rw [if_pos c7] at H
       have c7b0 : decide (t107 < 0) = true := decide_eq_true c7
       clear c7
       obtain rfl := Option.some.inj H
       have p106 : 0 ≤ (x5_1 : Int) := od_
       have q106 : x5_1 < (l0.length : Int) := od_
       obtain ⟨ad106, e106, hx106_0, hx106_1, hx106_2⟩ := at_T94 HR0.out x5_1 p106 q106
       cases e106
       replace hx106_0 := cq_ HB hx106_0
       replace hx106_1 := cq_ HB hx106_1
       replace hx106_2 := cq_ HB hx106_2
       replace p106 := eq_true p106
       replace q106 := eq_true q106
       go_wp2_with (first | ((with_reducible refine gate_callee (f := 71) rfl ?_); refine goesL_ (some 23) rfl rfl Tryd.func71 (by kernel_rfl) rfl #[.agg #[.string ((rd_T94 l0 x5_1).f0), .string ((rd_T94 l0 x5_1).f1), .int .i64 ((rd_T94 l0 x5_1).f2)], .int .i64 x1_1] rfl ln_ ?_; (with_reducible refine (laws_szBelay.calls ((rd_T94 l0 x5_1).f0) ((rd_T94 l0 x5_1).f1) ((rd_T94 l0 x5_1).f2) x1_1 t107 _ A6.out).mono ?_); rintro e w8 ⟨rfl, hb⟩; refine ⟨_, rfl, ?_⟩; have n0_ := Aside0.mk (below_step hb_ hb); clear HB; have HB := n0_; clear n0_; (try clear hb); (try clear hb2); (try clear hk); (try clear hi)))
       go_ret
       exact ⟨ew_, hb_⟩
      ·rw [if_neg c7] at H
       have c7b0 : decide (t107 < 0) = false := decide_eq_false c7
       clear c7
       have H' := Aside0.mk H
       clear H
       have p106 : 0 ≤ (x5_1 : Int) := od_
       have q106 : x5_1 < (l0.length : Int) := od_
       obtain ⟨ad106, e106, hx106_0, hx106_1, hx106_2⟩ := at_T94 HR0.out x5_1 p106 q106
       cases e106
       replace hx106_0 := cq_ HB hx106_0
       replace hx106_1 := cq_ HB hx106_1
       replace hx106_2 := cq_ HB hx106_2
       replace p106 := eq_true p106
       replace q106 := eq_true q106
       go_wp2_with (first | ((with_reducible refine gate_callee (f := 71) rfl ?_); refine goesL_ (some 23) rfl rfl Tryd.func71 (by kernel_rfl) rfl #[.agg #[.string ((rd_T94 l0 x5_1).f0), .string ((rd_T94 l0 x5_1).f1), .int .i64 ((rd_T94 l0 x5_1).f2)], .int .i64 x1_1] rfl ln_ ?_; (with_reducible refine (laws_szBelay.calls ((rd_T94 l0 x5_1).f0) ((rd_T94 l0 x5_1).f1) ((rd_T94 l0 x5_1).f2) x1_1 t107 _ A6.out).mono ?_); rintro e w9 ⟨rfl, hb⟩; refine ⟨_, rfl, ?_⟩; have n0_ := Aside0.mk (below_step hb_ hb); clear HB; have HB := n0_; clear n0_; (try clear hb); (try clear hb2); (try clear hk); (try clear hi)))
       go_roundg k1
       case measure => have := HK1.out; omega
       case rel => exact ⟨(t107), (wrap64 (x5_1 + 1)), (by first | rfl | (simp; done) | (simp [*]; done)), (by first | rfl | (simp; done) | (simp [*]; done)), H', ⟨by have := HK1.out; omega⟩, ⟨hb_⟩⟩
     ·rw [if_neg c5] at H
      exact absurd H (by simp)
    ·rw [if_neg c4] at H
     have c4b0 : decide (x5_1 < (l0.length : Int)) = false := decide_eq_false c4
     clear c4
     obtain rfl := Option.some.inj H
     go_wp2
     go_ret
     exact ⟨ew_, hb_⟩

/-! ### laws_szRig: function 6 -/
def laws_szRig.f (k : Nat) (l0_0 : List (S92)) (l0_1 : List ByteArray) (l0_2 : List (S94)) (a1 : Int) : Option (Int) := (laws_szRailS.f k l0_0 a1).bind fun t109 => (if t109 < 0 then (some (-1)) else ((laws_szStringS.f k l0_1 t109).bind fun t110 => (if t110 < 0 then (some (-1)) else ((laws_szBelayS.f k l0_2 t110).bind fun t111 => (if t111 < 0 then (some (-1)) else (some t111))))))
set_option maxHeartbeats 8000000 in
set_option maxRecDepth 100000 in
theorem laws_szRig.calls (k : Nat) (A0_0 : Option Addr) (c0_0 : Nat) (l0_0 : List (S92)) (A0_1 : Option Addr) (c0_1 : Nat) (l0_1 : List ByteArray) (A0_2 : Option Addr) (c0_2 : Nat) (l0_2 : List (S94)) (a1 : Int) (r : Int) (w : World) (hr0_0 : Kd.C k92 w A0_0 l0_0.length l0_0) (hc0_0 : l0_0.length ≤ c0_0) (hr0_1 : Kd.C Kd.string w A0_1 l0_1.length l0_1) (hc0_1 : l0_1.length ≤ c0_1) (hr0_2 : Kd.C k94 w A0_2 l0_2.length l0_2) (hc0_2 : l0_2.length ≤ c0_2) (h : laws_szRig.f k l0_0 l0_1 l0_2 a1 = some r) :
  Calls Tryd.prog 6 #[.agg #[.slice A0_0 l0_0.length c0_0, .slice A0_1 l0_1.length c0_1, .slice A0_2 l0_2.length c0_2], .int .i64 a1] w fun e w' => e = .returned (.int .i64 r) ∧ Below w.heap.size w w' := by
 have hu26 := Tryd.underlying26
 have HR0_0 := Aside0.mk hr0_0
 have HC0_0 := Aside0.mk hc0_0
 clear hr0_0 hc0_0
 have HR0_1 := Aside0.mk hr0_1
 have HC0_1 := Aside0.mk hc0_1
 clear hr0_1 hc0_1
 have HR0_2 := Aside0.mk hr0_2
 have HC0_2 := Aside0.mk hc0_2
 clear hr0_2 hc0_2
 have HB := Aside0.mk (Below.refl w.heap.size w)
 have H : ((laws_szRailS.f k l0_0 a1).bind fun t109 => (if t109 < 0 then (some (-1)) else ((laws_szStringS.f k l0_1 t109).bind fun t110 => (if t110 < 0 then (some (-1)) else ((laws_szBelayS.f k l0_2 t110).bind fun t111 => (if t111 < 0 then (some (-1)) else (some t111))))))) = some r := h
 clear h
 replace H := Option.bind_eq_some_iff.mp H
 obtain ⟨t109, A30, H⟩ := H
 replace H : (if t109 < 0 then (some (-1)) else ((laws_szStringS.f k l0_1 t109).bind fun t110 => (if t110 < 0 then (some (-1)) else ((laws_szBelayS.f k l0_2 t110).bind fun t111 => (if t111 < 0 then (some (-1)) else (some t111)))))) = some r := H
 have A3 := Aside0.mk A30
 clear A30
 by_cases c4 : t109 < 0
 ·rw [if_pos c4] at H
  have c4b0 : decide (t109 < 0) = true := decide_eq_true c4
  clear c4
  obtain rfl := Option.some.inj H
  go_enter Tryd.func6, Tryd.ntmps6
  go_wp2_with (first | ((with_reducible refine gate_dst (N := 2) rfl ?_); refine box_event ?hg (N := 2) ?hd (cs := #[.slice A0_0 l0_0.length c0_0, .slice A0_1 l0_1.length c0_1, .slice A0_2 l0_2.length c0_2]) (t := 26) ?hr ?_; (case hd => rfl); (case hg => rfl); (case hr => first | (go_simp; done) | (go_simp; rfl)); intro gb108 hg w5 hbox hb; have n0_ := Aside0.mk (below_step hb_ hb); have n1_ := Aside0.mk (hbox); have n2_ := Aside0.mk ((by rw [hg]; exact (below_size hb_) : w.heap.size ≤ gb108)); have n3_ := Aside0.mk ((by rw [hg]; exact (below_size hb_) : w.heap.size ≤ gb108)); clear HB; have HB := n0_; have BK108 := n1_; have GW108 := n2_; have GE108 := n3_; clear n0_ n1_ n2_ n3_; clear hb hbox hg; have hcz6_0 : w5.cell? ⟨gb108, 0, none⟩ = some (.slice A0_0 l0_0.length c0_0) := (blk_cell BK108.out 0).trans rfl; have hcz6_1 : w5.cell? ⟨gb108, 1, none⟩ = some (.slice A0_1 l0_1.length c0_1) := (blk_cell BK108.out 1).trans rfl; have hcz6_2 : w5.cell? ⟨gb108, 2, none⟩ = some (.slice A0_2 l0_2.length c0_2) := (blk_cell BK108.out 2).trans rfl; have hfz6_0 := blk_frozen BK108.out 0; have hfz6_1 := blk_frozen BK108.out 1; have hfz6_2 := blk_frozen BK108.out 2) | ((with_reducible refine gate_callee (f := 29) rfl ?_); refine goesL_ (some 8) rfl rfl Tryd.func29 (by kernel_rfl) rfl #[.slice A0_0 l0_0.length c0_0, .int .i64 a1] rfl ln_ ?_; (with_reducible refine (laws_szRailS.calls k _ _ l0_0 a1 t109 _ ?side1 ?side2 A3.out).mono ?_); (case side1 => exact kc_ (Kd.C_below HR0_0.out HB.out)); (case side2 => exact HC0_0.out); rintro e w7 ⟨rfl, hb⟩; refine ⟨_, rfl, ?_⟩; have n0_ := Aside0.mk (blk_below (g := gb108) (o := .cells #[.slice A0_0 l0_0.length c0_0, .slice A0_1 l0_1.length c0_1, .slice A0_2 l0_2.length c0_2] 26 (0, 0)) (bk_ BK108) hb); have n1_ := Aside0.mk (below_step (hg_ GE108) hb); clear BK108; clear HB; have BK108 := n0_; have HB := n1_; clear n0_ n1_; (try clear hb); (try clear hb2); (try clear hk); (try clear hi)))
  go_ret
  exact ⟨ew_, (hg_ GE108)⟩
 ·rw [if_neg c4] at H
  have c4b0 : decide (t109 < 0) = false := decide_eq_false c4
  clear c4
  replace H := Option.bind_eq_some_iff.mp H
  obtain ⟨t110, A80, H⟩ := H
  replace H : (if t110 < 0 then (some (-1)) else ((laws_szBelayS.f k l0_2 t110).bind fun t111 => (if t111 < 0 then (some (-1)) else (some t111)))) = some r := H
  have A8 := Aside0.mk A80
  clear A80
  by_cases c9 : t110 < 0
  ·rw [if_pos c9] at H
   have c9b0 : decide (t110 < 0) = true := decide_eq_true c9
   clear c9
   obtain rfl := Option.some.inj H
   go_enter Tryd.func6, Tryd.ntmps6
   go_wp2_with (first | ((with_reducible refine gate_dst (N := 2) rfl ?_); refine box_event ?hg (N := 2) ?hd (cs := #[.slice A0_0 l0_0.length c0_0, .slice A0_1 l0_1.length c0_1, .slice A0_2 l0_2.length c0_2]) (t := 26) ?hr ?_; (case hd => rfl); (case hg => rfl); (case hr => first | (go_simp; done) | (go_simp; rfl)); intro gb108 hg w10 hbox hb; have n0_ := Aside0.mk (below_step hb_ hb); have n1_ := Aside0.mk (hbox); have n2_ := Aside0.mk ((by rw [hg]; exact (below_size hb_) : w.heap.size ≤ gb108)); have n3_ := Aside0.mk ((by rw [hg]; exact (below_size hb_) : w.heap.size ≤ gb108)); clear HB; have HB := n0_; have BK108 := n1_; have GW108 := n2_; have GE108 := n3_; clear n0_ n1_ n2_ n3_; clear hb hbox hg; have hcz11_0 : w10.cell? ⟨gb108, 0, none⟩ = some (.slice A0_0 l0_0.length c0_0) := (blk_cell BK108.out 0).trans rfl; have hcz11_1 : w10.cell? ⟨gb108, 1, none⟩ = some (.slice A0_1 l0_1.length c0_1) := (blk_cell BK108.out 1).trans rfl; have hcz11_2 : w10.cell? ⟨gb108, 2, none⟩ = some (.slice A0_2 l0_2.length c0_2) := (blk_cell BK108.out 2).trans rfl; have hfz11_0 := blk_frozen BK108.out 0; have hfz11_1 := blk_frozen BK108.out 1; have hfz11_2 := blk_frozen BK108.out 2) | ((with_reducible refine gate_callee (f := 29) rfl ?_); refine goesL_ (some 8) rfl rfl Tryd.func29 (by kernel_rfl) rfl #[.slice A0_0 l0_0.length c0_0, .int .i64 a1] rfl ln_ ?_; (with_reducible refine (laws_szRailS.calls k _ _ l0_0 a1 t109 _ ?side1 ?side2 A3.out).mono ?_); (case side1 => exact kc_ (Kd.C_below HR0_0.out HB.out)); (case side2 => exact HC0_0.out); rintro e w12 ⟨rfl, hb⟩; refine ⟨_, rfl, ?_⟩; have n0_ := Aside0.mk (blk_below (g := gb108) (o := .cells #[.slice A0_0 l0_0.length c0_0, .slice A0_1 l0_1.length c0_1, .slice A0_2 l0_2.length c0_2] 26 (0, 0)) (bk_ BK108) hb); have n1_ := Aside0.mk (below_step (hg_ GE108) hb); clear BK108; clear HB; have BK108 := n0_; have HB := n1_; clear n0_ n1_; (try clear hb); (try clear hb2); (try clear hk); (try clear hi); have hcz13_0 : w12.cell? ⟨gb108, 0, none⟩ = some (.slice A0_0 l0_0.length c0_0) := (blk_cell BK108.out 0).trans rfl; have hcz13_1 : w12.cell? ⟨gb108, 1, none⟩ = some (.slice A0_1 l0_1.length c0_1) := (blk_cell BK108.out 1).trans rfl; have hcz13_2 : w12.cell? ⟨gb108, 2, none⟩ = some (.slice A0_2 l0_2.length c0_2) := (blk_cell BK108.out 2).trans rfl; have hfz13_0 := blk_frozen BK108.out 0; have hfz13_1 := blk_frozen BK108.out 1; have hfz13_2 := blk_frozen BK108.out 2) | ((with_reducible refine gate_callee (f := 30) rfl ?_); refine goesL_ (some 14) rfl rfl Tryd.func30 (by kernel_rfl) rfl #[.slice A0_1 l0_1.length c0_1, .int .i64 t109] rfl ln_ ?_; (with_reducible refine (laws_szStringS.calls k _ _ l0_1 t109 t110 _ ?side1 ?side2 A8.out).mono ?_); (case side1 => exact kc_ (Kd.C_below HR0_1.out HB.out)); (case side2 => exact HC0_1.out); rintro e w' ⟨rfl, ⟨nd, rfl⟩⟩; refine ⟨_, rfl, ?_⟩))
   go_ret
   exact ⟨ew_, (hg_ GE108)⟩
  ·rw [if_neg c9] at H
   have c9b0 : decide (t110 < 0) = false := decide_eq_false c9
   clear c9
   replace H := Option.bind_eq_some_iff.mp H
   obtain ⟨t111, A140, H⟩ := H
   replace H : (if t111 < 0 then (some (-1)) else (some t111)) = some r := H
   have A14 := Aside0.mk A140
   clear A140
   by_cases c15 : t111 < 0
   ·rw [if_pos c15] at H
    have c15b0 : decide (t111 < 0) = true := decide_eq_true c15
    clear c15
    obtain rfl := Option.some.inj H
    go_enter Tryd.func6, Tryd.ntmps6
    go_wp2_with (first | ((with_reducible refine gate_dst (N := 2) rfl ?_); refine box_event ?hg (N := 2) ?hd (cs := #[.slice A0_0 l0_0.length c0_0, .slice A0_1 l0_1.length c0_1, .slice A0_2 l0_2.length c0_2]) (t := 26) ?hr ?_; (case hd => rfl); (case hg => rfl); (case hr => first | (go_simp; done) | (go_simp; rfl)); intro gb108 hg w16 hbox hb; have n0_ := Aside0.mk (below_step hb_ hb); have n1_ := Aside0.mk (hbox); have n2_ := Aside0.mk ((by rw [hg]; exact (below_size hb_) : w.heap.size ≤ gb108)); have n3_ := Aside0.mk ((by rw [hg]; exact (below_size hb_) : w.heap.size ≤ gb108)); clear HB; have HB := n0_; have BK108 := n1_; have GW108 := n2_; have GE108 := n3_; clear n0_ n1_ n2_ n3_; clear hb hbox hg; have hcz17_0 : w16.cell? ⟨gb108, 0, none⟩ = some (.slice A0_0 l0_0.length c0_0) := (blk_cell BK108.out 0).trans rfl; have hcz17_1 : w16.cell? ⟨gb108, 1, none⟩ = some (.slice A0_1 l0_1.length c0_1) := (blk_cell BK108.out 1).trans rfl; have hcz17_2 : w16.cell? ⟨gb108, 2, none⟩ = some (.slice A0_2 l0_2.length c0_2) := (blk_cell BK108.out 2).trans rfl; have hfz17_0 := blk_frozen BK108.out 0; have hfz17_1 := blk_frozen BK108.out 1; have hfz17_2 := blk_frozen BK108.out 2) | ((with_reducible refine gate_callee (f := 29) rfl ?_); refine goesL_ (some 8) rfl rfl Tryd.func29 (by kernel_rfl) rfl #[.slice A0_0 l0_0.length c0_0, .int .i64 a1] rfl ln_ ?_; (with_reducible refine (laws_szRailS.calls k _ _ l0_0 a1 t109 _ ?side1 ?side2 A3.out).mono ?_); (case side1 => exact kc_ (Kd.C_below HR0_0.out HB.out)); (case side2 => exact HC0_0.out); rintro e w18 ⟨rfl, hb⟩; refine ⟨_, rfl, ?_⟩; have n0_ := Aside0.mk (blk_below (g := gb108) (o := .cells #[.slice A0_0 l0_0.length c0_0, .slice A0_1 l0_1.length c0_1, .slice A0_2 l0_2.length c0_2] 26 (0, 0)) (bk_ BK108) hb); have n1_ := Aside0.mk (below_step (hg_ GE108) hb); clear BK108; clear HB; have BK108 := n0_; have HB := n1_; clear n0_ n1_; (try clear hb); (try clear hb2); (try clear hk); (try clear hi); have hcz19_0 : w18.cell? ⟨gb108, 0, none⟩ = some (.slice A0_0 l0_0.length c0_0) := (blk_cell BK108.out 0).trans rfl; have hcz19_1 : w18.cell? ⟨gb108, 1, none⟩ = some (.slice A0_1 l0_1.length c0_1) := (blk_cell BK108.out 1).trans rfl; have hcz19_2 : w18.cell? ⟨gb108, 2, none⟩ = some (.slice A0_2 l0_2.length c0_2) := (blk_cell BK108.out 2).trans rfl; have hfz19_0 := blk_frozen BK108.out 0; have hfz19_1 := blk_frozen BK108.out 1; have hfz19_2 := blk_frozen BK108.out 2) | ((with_reducible refine gate_callee (f := 30) rfl ?_); refine goesL_ (some 14) rfl rfl Tryd.func30 (by kernel_rfl) rfl #[.slice A0_1 l0_1.length c0_1, .int .i64 t109] rfl ln_ ?_; (with_reducible refine (laws_szStringS.calls k _ _ l0_1 t109 t110 _ ?side1 ?side2 A8.out).mono ?_); (case side1 => exact kc_ (Kd.C_below HR0_1.out HB.out)); (case side2 => exact HC0_1.out); rintro e w' ⟨rfl, ⟨nd, rfl⟩⟩; refine ⟨_, rfl, ?_⟩) | ((with_reducible refine gate_callee (f := 31) rfl ?_); refine goesL_ (some 20) rfl rfl Tryd.func31 (by kernel_rfl) rfl #[.slice A0_2 l0_2.length c0_2, .int .i64 t110] rfl ln_ ?_; (with_reducible refine (laws_szBelayS.calls k _ _ l0_2 t110 t111 _ ?side1 ?side2 A14.out).mono ?_); (case side1 => repeat (first | exact (Kd.C_below HR0_2.out (hg_ GE108)) | (with_reducible refine Kd.C_alloc ?_ _) | (with_reducible refine Kd.C_drewN ?_ _) | (with_reducible refine Kd.C_drew ?_))); (case side2 => exact HC0_2.out); rintro e w20 ⟨rfl, hb⟩; refine ⟨_, rfl, ?_⟩; have n0_ := Aside0.mk (blk_below (g := gb108) (o := .cells #[.slice A0_0 l0_0.length c0_0, .slice A0_1 l0_1.length c0_1, .slice A0_2 l0_2.length c0_2] 26 (0, 0)) (bk_ BK108) hb); have n1_ := Aside0.mk (below_step (hg_ GE108) hb); clear BK108; clear HB; have BK108 := n0_; have HB := n1_; clear n0_ n1_; (try clear hb); (try clear hb2); (try clear hk); (try clear hi)))
    go_ret
    exact ⟨ew_, (hg_ GE108)⟩
   ·rw [if_neg c15] at H
    have c15b0 : decide (t111 < 0) = false := decide_eq_false c15
    clear c15
    obtain rfl := Option.some.inj H
    go_enter Tryd.func6, Tryd.ntmps6
    go_wp2_with (first | ((with_reducible refine gate_dst (N := 2) rfl ?_); refine box_event ?hg (N := 2) ?hd (cs := #[.slice A0_0 l0_0.length c0_0, .slice A0_1 l0_1.length c0_1, .slice A0_2 l0_2.length c0_2]) (t := 26) ?hr ?_; (case hd => rfl); (case hg => rfl); (case hr => first | (go_simp; done) | (go_simp; rfl)); intro gb108 hg w21 hbox hb; have n0_ := Aside0.mk (below_step hb_ hb); have n1_ := Aside0.mk (hbox); have n2_ := Aside0.mk ((by rw [hg]; exact (below_size hb_) : w.heap.size ≤ gb108)); have n3_ := Aside0.mk ((by rw [hg]; exact (below_size hb_) : w.heap.size ≤ gb108)); clear HB; have HB := n0_; have BK108 := n1_; have GW108 := n2_; have GE108 := n3_; clear n0_ n1_ n2_ n3_; clear hb hbox hg; have hcz22_0 : w21.cell? ⟨gb108, 0, none⟩ = some (.slice A0_0 l0_0.length c0_0) := (blk_cell BK108.out 0).trans rfl; have hcz22_1 : w21.cell? ⟨gb108, 1, none⟩ = some (.slice A0_1 l0_1.length c0_1) := (blk_cell BK108.out 1).trans rfl; have hcz22_2 : w21.cell? ⟨gb108, 2, none⟩ = some (.slice A0_2 l0_2.length c0_2) := (blk_cell BK108.out 2).trans rfl; have hfz22_0 := blk_frozen BK108.out 0; have hfz22_1 := blk_frozen BK108.out 1; have hfz22_2 := blk_frozen BK108.out 2) | ((with_reducible refine gate_callee (f := 29) rfl ?_); refine goesL_ (some 8) rfl rfl Tryd.func29 (by kernel_rfl) rfl #[.slice A0_0 l0_0.length c0_0, .int .i64 a1] rfl ln_ ?_; (with_reducible refine (laws_szRailS.calls k _ _ l0_0 a1 t109 _ ?side1 ?side2 A3.out).mono ?_); (case side1 => exact kc_ (Kd.C_below HR0_0.out HB.out)); (case side2 => exact HC0_0.out); rintro e w23 ⟨rfl, hb⟩; refine ⟨_, rfl, ?_⟩; have n0_ := Aside0.mk (blk_below (g := gb108) (o := .cells #[.slice A0_0 l0_0.length c0_0, .slice A0_1 l0_1.length c0_1, .slice A0_2 l0_2.length c0_2] 26 (0, 0)) (bk_ BK108) hb); have n1_ := Aside0.mk (below_step (hg_ GE108) hb); clear BK108; clear HB; have BK108 := n0_; have HB := n1_; clear n0_ n1_; (try clear hb); (try clear hb2); (try clear hk); (try clear hi); have hcz24_0 : w23.cell? ⟨gb108, 0, none⟩ = some (.slice A0_0 l0_0.length c0_0) := (blk_cell BK108.out 0).trans rfl; have hcz24_1 : w23.cell? ⟨gb108, 1, none⟩ = some (.slice A0_1 l0_1.length c0_1) := (blk_cell BK108.out 1).trans rfl; have hcz24_2 : w23.cell? ⟨gb108, 2, none⟩ = some (.slice A0_2 l0_2.length c0_2) := (blk_cell BK108.out 2).trans rfl; have hfz24_0 := blk_frozen BK108.out 0; have hfz24_1 := blk_frozen BK108.out 1; have hfz24_2 := blk_frozen BK108.out 2) | ((with_reducible refine gate_callee (f := 30) rfl ?_); refine goesL_ (some 14) rfl rfl Tryd.func30 (by kernel_rfl) rfl #[.slice A0_1 l0_1.length c0_1, .int .i64 t109] rfl ln_ ?_; (with_reducible refine (laws_szStringS.calls k _ _ l0_1 t109 t110 _ ?side1 ?side2 A8.out).mono ?_); (case side1 => exact kc_ (Kd.C_below HR0_1.out HB.out)); (case side2 => exact HC0_1.out); rintro e w' ⟨rfl, ⟨nd, rfl⟩⟩; refine ⟨_, rfl, ?_⟩) | ((with_reducible refine gate_callee (f := 31) rfl ?_); refine goesL_ (some 20) rfl rfl Tryd.func31 (by kernel_rfl) rfl #[.slice A0_2 l0_2.length c0_2, .int .i64 t110] rfl ln_ ?_; (with_reducible refine (laws_szBelayS.calls k _ _ l0_2 t110 t111 _ ?side1 ?side2 A14.out).mono ?_); (case side1 => repeat (first | exact (Kd.C_below HR0_2.out (hg_ GE108)) | (with_reducible refine Kd.C_alloc ?_ _) | (with_reducible refine Kd.C_drewN ?_ _) | (with_reducible refine Kd.C_drew ?_))); (case side2 => exact HC0_2.out); rintro e w25 ⟨rfl, hb⟩; refine ⟨_, rfl, ?_⟩; have n0_ := Aside0.mk (blk_below (g := gb108) (o := .cells #[.slice A0_0 l0_0.length c0_0, .slice A0_1 l0_1.length c0_1, .slice A0_2 l0_2.length c0_2] 26 (0, 0)) (bk_ BK108) hb); have n1_ := Aside0.mk (below_step (hg_ GE108) hb); clear BK108; clear HB; have BK108 := n0_; have HB := n1_; clear n0_ n1_; (try clear hb); (try clear hb2); (try clear hk); (try clear hi)))
    go_ret
    exact ⟨ew_, (hg_ GE108)⟩

/-! ### spec_l19Empty: function 41 -/
def spec_l19Empty.f  : Option ((List (S64)) × List ByteArray × (List (S67))) := some ((([] : List (S64))), (([] : List ByteArray)), (([] : List (S67))))
set_option maxHeartbeats 8000000 in
set_option maxRecDepth 100000 in
theorem spec_l19Empty.calls  (r1 : List (S64)) (r2 : List ByteArray) (r3 : List (S67)) (w : World) (h : spec_l19Empty.f  = some (r1, r2, r3)) :
  Calls Tryd.prog 41 #[] w fun e w' => ∃ v0_ v1_ v2_ : Value, e = .returned (.agg #[v0_, v1_, v2_]) ∧ Kd.R k64 64 w' w.heap.size (fun _ => True) v0_ r1 ∧ Kd.R Kd.string 9 w' w.heap.size (fun _ => True) v1_ r2 ∧ Kd.R k67 67 w' w.heap.size (fun _ => True) v2_ r3 ∧ Below w.heap.size w w' := by
 have hu32 := Tryd.underlying32
 have HB := Aside0.mk (Below.refl w.heap.size w)
 have H : (some ((([] : List (S64))), (([] : List ByteArray)), (([] : List (S67))))) = some (r1, r2, r3) := h
 clear h
 obtain ⟨y113, hy113⟩ : ∃ y_ : List (S64), y_ = (([] : List (S64))) := ⟨_, rfl⟩
 replace H : (some (y113, (([] : List ByteArray)), (([] : List (S67))))) = some (r1, r2, r3) := by first | (rw [hy113]; with_reducible exact H) | (have H2_ := (Option.bind_some _ _).symm.trans H; rw [hy113]; with_reducible exact H2_) | (have H2_ := (Option.bind_some _ _).symm.trans H; with_reducible exact H2_) | with_reducible exact H | (rw [hy113]; exact H) | exact H
 have Ny113 := Aside0.mk hy113
 clear hy113
 obtain ⟨y116, hy116⟩ : ∃ y_ : List ByteArray, y_ = (([] : List ByteArray)) := ⟨_, rfl⟩
 replace H : (some (y113, y116, (([] : List (S67))))) = some (r1, r2, r3) := by first | (rw [hy116]; with_reducible exact H) | (have H2_ := (Option.bind_some _ _).symm.trans H; rw [hy116]; with_reducible exact H2_) | (have H2_ := (Option.bind_some _ _).symm.trans H; with_reducible exact H2_) | with_reducible exact H | (rw [hy116]; exact H) | exact H
 have Ny116 := Aside0.mk hy116
 clear hy116
 obtain ⟨y119, hy119⟩ : ∃ y_ : List (S67), y_ = (([] : List (S67))) := ⟨_, rfl⟩
 replace H : (some (y113, y116, y119)) = some (r1, r2, r3) := by first | (rw [hy119]; with_reducible exact H) | (have H2_ := (Option.bind_some _ _).symm.trans H; rw [hy119]; with_reducible exact H2_) | (have H2_ := (Option.bind_some _ _).symm.trans H; with_reducible exact H2_) | with_reducible exact H | (rw [hy119]; exact H) | exact H
 have Ny119 := Aside0.mk hy119
 clear hy119
 simp only [Option.some.injEq, Prod.mk.injEq] at H
 obtain ⟨rfl, rfl, rfl⟩ := H
 go_enter Tryd.func41, Tryd.ntmps41
 go_wp2_with (first | ((with_reducible refine gate_dst (N := 0) rfl ?_); refine box_event ?hg (N := 0) ?hd (cs := #[.slice none 0 0, .slice none 0 0, .slice none 0 0]) (t := 32) ?hr ?_; (case hd => rfl); (case hg => rfl); (case hr => first | (go_simp; done) | (go_simp; rfl)); intro gb112 hg w1 hbox hb; have n0_ := Aside0.mk (below_step hb_ hb); have n1_ := Aside0.mk (hbox); have n2_ := Aside0.mk ((by rw [hg]; exact (below_size hb_) : w.heap.size ≤ gb112)); have n3_ := Aside0.mk ((by rw [hg]; exact (below_size hb_) : w.heap.size ≤ gb112)); clear HB; have HB := n0_; have BK112 := n1_; have GW112 := n2_; have GE112 := n3_; clear n0_ n1_ n2_ n3_; clear hb hbox hg) | ((with_reducible refine gate_dst (N := 1) rfl ?_); refine Kd.R_lit k64 _ 64 ?hg (N := 1) ?hd (xs := ([] : List (S64))) (inner := []) (ok := fun _ => True) (okp := fun _ => True) ?hr ?hp (fun _ hk => hk) trivial (Below.refl _ _) (Nat.le_refl _) (by simp) ?_; (case hd => rfl); (case hg => rfl); (case hr => first | (go_simp; done) | (go_simp; rfl)); (case hp => exact (Reps.none _ _)); intro v114 w2 ho3 hb hg_ hnew_; clear hg_ hnew_; (first | rw [← Ny113.out] at ho3 | (simp only [Int.reduceToNat] at ho3; rw [← Ny113.out] at ho3)); have n0_ := Aside0.mk (Kd.R_lower ho3 (below_size (hg_ GE112))); have n1_ := Aside0.mk (blk_below (g := gb112) (o := .cells #[.slice none 0 0, .slice none 0 0, .slice none 0 0] 32 (0, 0)) (bk_ BK112) hb); have n2_ := Aside0.mk (below_step (hg_ GE112) hb); clear BK112; clear HB; have HO115 := n0_; have BK112 := n1_; have HB := n2_; clear n0_ n1_ n2_; clear hb ho3) | ((with_reducible refine gate_dst (N := 2) rfl ?_); refine Kd.R_lit Kd.string _ 9 ?hg (N := 2) ?hd (xs := ([] : List ByteArray)) (inner := []) (ok := fun _ => True) (okp := fun _ => True) ?hr ?hp (fun _ hk => hk) trivial (Below.refl _ _) (Nat.le_refl _) (by simp) ?_; (case hd => rfl); (case hg => rfl); (case hr => first | (go_simp; done) | (go_simp; rfl)); (case hp => exact (Reps.none _ _)); intro v117 w4 ho5 hb hg_ hnew_; clear hg_ hnew_; (first | rw [← Ny116.out] at ho5 | (simp only [Int.reduceToNat] at ho5; rw [← Ny116.out] at ho5)); have n0_ := Aside0.mk (Kd.R_below (kr_ HO115) hb); have n1_ := Aside0.mk (Kd.R_lower ho5 (below_size (hg_ GE112))); have n2_ := Aside0.mk (blk_below (g := gb112) (o := .cells #[.slice none 0 0, .slice none 0 0, .slice none 0 0] 32 (0, 0)) (bk_ BK112) hb); have n3_ := Aside0.mk (below_step (hg_ GE112) hb); clear HO115; clear BK112; clear HB; have HO115 := n0_; have HO118 := n1_; have BK112 := n2_; have HB := n3_; clear n0_ n1_ n2_ n3_; clear hb ho5) | ((with_reducible refine gate_dst (N := 3) rfl ?_); refine Kd.R_lit k67 _ 67 ?hg (N := 3) ?hd (xs := ([] : List (S67))) (inner := []) (ok := fun _ => True) (okp := fun _ => True) ?hr ?hp (fun _ hk => hk) trivial (Below.refl _ _) (Nat.le_refl _) (by simp) ?_; (case hd => rfl); (case hg => rfl); (case hr => first | (go_simp; done) | (go_simp; rfl)); (case hp => exact (Reps.none _ _)); intro v120 w6 ho7 hb hg_ hnew_; clear hg_ hnew_; (first | rw [← Ny119.out] at ho7 | (simp only [Int.reduceToNat] at ho7; rw [← Ny119.out] at ho7)); have n0_ := Aside0.mk (Kd.R_below (kr_ HO115) hb); have n1_ := Aside0.mk (Kd.R_below (kr_ HO118) hb); have n2_ := Aside0.mk (Kd.R_lower ho7 (below_size (hg_ GE112))); have n3_ := Aside0.mk (blk_below (g := gb112) (o := .cells #[.slice none 0 0, .slice none 0 0, .slice none 0 0] 32 (0, 0)) (bk_ BK112) hb); have n4_ := Aside0.mk (below_step (hg_ GE112) hb); clear HO115; clear HO118; clear BK112; clear HB; have HO115 := n0_; have HO118 := n1_; have HO121 := n2_; have BK112 := n3_; have HB := n4_; clear n0_ n1_ n2_ n3_ n4_; clear hb ho7; obtain ⟨Ao8, co8, eo8⟩ := Kd.R_slice HO121.out; subst eo8; obtain ⟨Ao9, co9, eo9⟩ := Kd.R_slice HO118.out; subst eo9; obtain ⟨Ao10, co10, eo10⟩ := Kd.R_slice HO115.out; subst eo10; have hcz11_0 : w6.cell? ⟨gb112, 0, none⟩ = some (.slice none 0 0) := (blk_cell BK112.out 0).trans rfl; have hcz11_1 : w6.cell? ⟨gb112, 1, none⟩ = some (.slice none 0 0) := (blk_cell BK112.out 1).trans rfl; have hcz11_2 : w6.cell? ⟨gb112, 2, none⟩ = some (.slice none 0 0) := (blk_cell BK112.out 2).trans rfl; have hfz11_0 := blk_frozen BK112.out 0; have hfz11_1 := blk_frozen BK112.out 1; have hfz11_2 := blk_frozen BK112.out 2))
 refine bodyPost_ret (results_cell_row rfl _ _ gb112 32 #[.slice Ao10 y113.length co10, .slice Ao9 y116.length co9, .slice Ao8 y119.length co8] (0, 0) _ rfl (by (with_reducible repeat (first | refine blk_drewN ?_ _ | refine blk_drew ?_ | refine blk_alloc ?_ _)); refine blk_put (cs := #[.slice Ao10 y113.length co10, .slice Ao9 y116.length co9, .slice none 0 0]) ?_ 2 _ rfl; (with_reducible repeat (first | refine blk_drewN ?_ _ | refine blk_drew ?_ | refine blk_alloc ?_ _)); refine blk_put (cs := #[.slice Ao10 y113.length co10, .slice none 0 0, .slice none 0 0]) ?_ 1 _ rfl; (with_reducible repeat (first | refine blk_drewN ?_ _ | refine blk_drew ?_ | refine blk_alloc ?_ _)); refine blk_put (cs := #[.slice none 0 0, .slice none 0 0, .slice none 0 0]) ?_ 0 _ rfl; (with_reducible repeat (first | refine blk_drewN ?_ _ | refine blk_drew ?_ | refine blk_alloc ?_ _)); exact BK112.out) Tryd.underlying32 rfl (by kernel_rfl)) rfl ?_
 exact ⟨_, _, _, ew_, by (with_reducible repeat (first | apply Kd.R_alloc | apply Kd.R_drewN | apply Kd.R_drew)); exact Kd.R_mono (Kd.R_far (p := ⟨gb112, 2, none⟩) (Kd.R_far (p := ⟨gb112, 1, none⟩) (Kd.R_far (p := ⟨gb112, 0, none⟩) (Kd.R_types HO115.out BK112.out (by decide)) (fun _ hk => hk.2) (.slice Ao10 y113.length co10)) (fun _ hk => hk.2) (.slice Ao9 y116.length co9)) (fun _ hk => hk.2) (.slice Ao8 y119.length co8)) (fun _ hk => trivial), by (with_reducible repeat (first | apply Kd.R_alloc | apply Kd.R_drewN | apply Kd.R_drew)); exact Kd.R_mono (Kd.R_far (p := ⟨gb112, 2, none⟩) (Kd.R_far (p := ⟨gb112, 1, none⟩) (Kd.R_far (p := ⟨gb112, 0, none⟩) (Kd.R_types HO118.out BK112.out (by decide)) (fun _ hk => hk.2) (.slice Ao10 y113.length co10)) (fun _ hk => hk.2) (.slice Ao9 y116.length co9)) (fun _ hk => hk.2) (.slice Ao8 y119.length co8)) (fun _ hk => trivial), by (with_reducible repeat (first | apply Kd.R_alloc | apply Kd.R_drewN | apply Kd.R_drew)); exact Kd.R_mono (Kd.R_far (p := ⟨gb112, 2, none⟩) (Kd.R_far (p := ⟨gb112, 1, none⟩) (Kd.R_far (p := ⟨gb112, 0, none⟩) (Kd.R_types HO121.out BK112.out (by decide)) (fun _ hk => hk.2) (.slice Ao10 y113.length co10)) (fun _ hk => hk.2) (.slice Ao9 y116.length co9)) (fun _ hk => hk.2) (.slice Ao8 y119.length co8)) (fun _ hk => trivial), (hg_ GE112)⟩

/-! ### spec_l00In: function 65 -/
def spec_l00In.f (a0 : Int) (a1 : Int) (a2 : Int) : Option (Bool) := if a0 ≥ a1 then (some (decide (a0 ≤ a2))) else (some false)
set_option maxHeartbeats 8000000 in
set_option maxRecDepth 100000 in
theorem spec_l00In.calls (a0 : Int) (a1 : Int) (a2 : Int) (r : Bool) (w : World) (h : spec_l00In.f a0 a1 a2 = some r) :
  Calls Tryd.prog 65 #[.int .i64 a0, .int .i64 a1, .int .i64 a2] w fun e w' => e = .returned (.bool r) ∧ Drawn0 w w' := by
 have H : (if a0 ≥ a1 then (some (decide (a0 ≤ a2))) else (some false)) = some r := h
 clear h
 by_cases c4 : a0 ≥ a1
 ·rw [if_pos c4] at H
  have c4b0 : decide (a1 ≤ a0) = true := decide_eq_true c4
  clear c4
  obtain rfl := Option.some.inj H
  go_enter Tryd.func65, Tryd.ntmps65
  go_wp2
  go_ret
  exact ⟨by first | rfl | (simp; done) | (simp [*]; done), by repeat (first | exact Drawn0.refl _ | apply Drawn0.step)⟩
 ·rw [if_neg c4] at H
  have c4b0 : decide (a1 ≤ a0) = false := decide_eq_false c4
  clear c4
  obtain rfl := Option.some.inj H
  go_enter Tryd.func65, Tryd.ntmps65
  go_wp2
  go_ret
  exact ⟨by first | rfl | (simp; done) | (simp [*]; done), by repeat (first | exact Drawn0.refl _ | apply Drawn0.step)⟩

/-! ### spec_l01Digit: function 99 -/
def spec_l01Digit.f (a0 : Int) : Option (Bool) := if a0 ≥ 48 then (some (decide (a0 ≤ 57))) else (some false)
set_option maxHeartbeats 8000000 in
set_option maxRecDepth 100000 in
theorem spec_l01Digit.calls (a0 : Int) (r : Bool) (w : World) (h : spec_l01Digit.f a0 = some r) :
  Calls Tryd.prog 99 #[.int .u8 a0] w fun e w' => e = .returned (.bool r) ∧ Drawn0 w w' := by
 have H : (if a0 ≥ 48 then (some (decide (a0 ≤ 57))) else (some false)) = some r := h
 clear h
 by_cases c2 : a0 ≥ 48
 ·rw [if_pos c2] at H
  have c2b0 : decide (48 ≤ a0) = true := decide_eq_true c2
  clear c2
  obtain rfl := Option.some.inj H
  go_enter Tryd.func99, Tryd.ntmps99
  go_wp2
  go_ret
  exact ⟨by first | rfl | (simp; done) | (simp [*]; done), by repeat (first | exact Drawn0.refl _ | apply Drawn0.step)⟩
 ·rw [if_neg c2] at H
  have c2b0 : decide (48 ≤ a0) = false := decide_eq_false c2
  clear c2
  obtain rfl := Option.some.inj H
  go_enter Tryd.func99, Tryd.ntmps99
  go_wp2
  go_ret
  exact ⟨by first | rfl | (simp; done) | (simp [*]; done), by repeat (first | exact Drawn0.refl _ | apply Drawn0.step)⟩

/-! ### spec_l01Small: function 110 -/
def spec_l01Small.f (a0 : Int) : Option (Bool) := if a0 ≥ 97 then (some (decide (a0 ≤ 122))) else (some false)
set_option maxHeartbeats 8000000 in
set_option maxRecDepth 100000 in
theorem spec_l01Small.calls (a0 : Int) (r : Bool) (w : World) (h : spec_l01Small.f a0 = some r) :
  Calls Tryd.prog 110 #[.int .u8 a0] w fun e w' => e = .returned (.bool r) ∧ Drawn0 w w' := by
 have H : (if a0 ≥ 97 then (some (decide (a0 ≤ 122))) else (some false)) = some r := h
 clear h
 by_cases c2 : a0 ≥ 97
 ·rw [if_pos c2] at H
  have c2b0 : decide (97 ≤ a0) = true := decide_eq_true c2
  clear c2
  obtain rfl := Option.some.inj H
  go_enter Tryd.func110, Tryd.ntmps110
  go_wp2
  go_ret
  exact ⟨by first | rfl | (simp; done) | (simp [*]; done), by repeat (first | exact Drawn0.refl _ | apply Drawn0.step)⟩
 ·rw [if_neg c2] at H
  have c2b0 : decide (97 ≤ a0) = false := decide_eq_false c2
  clear c2
  obtain rfl := Option.some.inj H
  go_enter Tryd.func110, Tryd.ntmps110
  go_wp2
  go_ret
  exact ⟨by first | rfl | (simp; done) | (simp [*]; done), by repeat (first | exact Drawn0.refl _ | apply Drawn0.step)⟩

/-! ### spec_IsName: function 93 -/
mutual
def spec_IsName.j0 : Nat → ByteArray → Bool → Option (Bool)
 | 0, _, _ => none
 | k + 1, x0, x16 => if x16 = true then (some false) else (spec_IsName.l0 k x0 0)
def spec_IsName.l0 : Nat → ByteArray → Int → Option (Bool)
 | 0, _, _ => none
 | k + 1, x0, x3 => if x3 < (x0.size : Int) then (if 0 ≤ x3 then ((spec_l01Small.f (bt x0 x3)).bind fun t123 => (if t123 = true then (spec_IsName.l0 k x0 (wrap64 (x3 + 1))) else ((spec_l01Digit.f (bt x0 x3)).bind fun t124 => (if t124 = true then (spec_IsName.l0 k x0 (wrap64 (x3 + 1))) else (if (bt x0 x3) = 45 then (spec_IsName.l0 k x0 (wrap64 (x3 + 1))) else (some false)))))) else (none)) else (some true)
end
def spec_IsName.f (k : Nat) (a0 : ByteArray) : Option (Bool) := if a0.toList = ([] : List UInt8) then (spec_IsName.j0 k a0 true) else (if (a0.size : Int) > 12 then (spec_IsName.j0 k a0 true) else (if 0 < (a0.size : Int) then ((spec_l01Small.f (bt a0 0)).bind fun t122 => (spec_IsName.j0 k a0 (!t122))) else (none)))
set_option maxHeartbeats 8000000 in
set_option maxRecDepth 100000 in
theorem spec_IsName.calls (k : Nat) (a0 : ByteArray) (r : Bool) (w : World) (h : spec_IsName.f k a0 = some r) :
  Calls Tryd.prog 93 #[.string a0] w fun e w' => e = .returned (.bool r) ∧ Drawn0 w w' := by
 have H : (if a0.toList = ([] : List UInt8) then (spec_IsName.j0 k a0 true) else (if (a0.size : Int) > 12 then (spec_IsName.j0 k a0 true) else (if 0 < (a0.size : Int) then ((spec_l01Small.f (bt a0 0)).bind fun t122 => (spec_IsName.j0 k a0 (!t122))) else (none)))) = some r := h
 clear h
 have HC2 := Aside0.mk H
 clear H
 go_enter Tryd.func93, Tryd.ntmps93
 go_upto_region 1 with (fail)
 go_cut [16] (fun v16 wc => ∃ (kq : Nat) (x16_1 : Bool), v16 = .bool x16_1 ∧ Aside0 (spec_IsName.j0 kq a0 x16_1 = some r) ∧ Aside0 (kq ≤ k) ∧ Drawn0 w wc)
 case first =>
  have H := HC2.out
  clear HC2
  by_cases c3 : a0.toList = ([] : List UInt8)
  ·rw [if_pos c3] at H
   have c3b0 : (a0.toList == ([] : List UInt8)) = true := beq_iff_eq.mpr c3
   have c3b1 : (a0.toList != ([] : List UInt8)) = false := bne_eq_false_iff_eq.mpr c3
   clear c3
   (first | rw [c3b0] | (simp only [i64_w, i32_w]; rw [c3b0]) | skip)
   have H' := Aside0.mk H
   clear H
   go_wp2
   go_meet
   case rel => exact ⟨_, (true), (by first | rfl | (simp; done) | (simp [*]; done)), H', ⟨by first | omega | exact Nat.le_refl _⟩, by repeat (first | exact Drawn0.refl _ | apply Drawn0.step)⟩
  ·rw [if_neg c3] at H
   have c3b0 : (a0.toList == ([] : List UInt8)) = false := beq_eq_false_iff_ne.mpr c3
   have c3b1 : (a0.toList != ([] : List UInt8)) = true := bne_iff_ne.mpr c3
   (first | rw [c3b0] | (simp only [i64_w, i32_w]; rw [c3b0]) | skip)
   by_cases c4 : (a0.size : Int) > 12
   ·rw [if_pos c4] at H
    have c4b0 : decide (12 < (a0.size : Int)) = true := decide_eq_true c4
    have c4b1 : decide (12 < a0.size) = true := decide_eq_true (by omega)
    clear c4
    have H' := Aside0.mk H
    clear H
    go_wp2
    go_meet
    case rel => exact ⟨_, (true), (by first | rfl | (simp; done) | (simp [*]; done)), H', ⟨by first | omega | exact Nat.le_refl _⟩, by repeat (first | exact Drawn0.refl _ | apply Drawn0.step)⟩
   ·rw [if_neg c4] at H
    have c4b0 : decide (12 < (a0.size : Int)) = false := decide_eq_false c4
    have c4b1 : decide (12 < a0.size) = false := decide_eq_false (by omega)
    clear c4
    by_cases c5 : 0 < (a0.size : Int)
    ·rw [if_pos c5] at H
     have c5b0 : decide (0 < (a0.size : Int)) = true := decide_eq_true c5
     have c5b1 : decide (0 < a0.size) = true := decide_eq_true (by omega)
     clear c5
     replace H := Option.bind_eq_some_iff.mp H
     obtain ⟨t122, A70, H⟩ := H
     replace H : (spec_IsName.j0 k a0 (!t122)) = some r := H
     have A7 := Aside0.mk A70
     clear A70
     have H' := Aside0.mk H
     clear H
     have p6 : 0 ≤ (0 : Int) := (by omega)
     have q6 : 0 < a0.size := (by have : (0 : Int) < (a0.size : Int) := od_; omega)
     have hx6 : ∀ h : 0 < a0.size, ((a0[0]'h).toNat : Int) = bt a0 0 := bt_at a0 0
     clear p6
     have qi6 : (0 < (a0.size : Int)) = True := eq_true (od_)
     replace q6 := eq_true q6
     go_wp2_with (first | (go_at_call 110; (with_reducible refine (spec_l01Small.calls (bt a0 0) t122 _ A7.out).mono ?_); rintro e w' ⟨rfl, ⟨nd, rfl⟩⟩))
     go_meet
     case rel => exact ⟨_, (!t122), (by first | rfl | (simp; done) | (simp [*]; done)), H', ⟨by first | omega | exact Nat.le_refl _⟩, by repeat (first | exact Drawn0.refl _ | apply Drawn0.step)⟩
    ·rw [if_neg c5] at H
     exact absurd H (by simp)
 case rest =>
  clear HC2
  try clear p2
  try clear c3
  try clear c3b0
  try clear c3b1
  try clear c4
  try clear c4b0
  try clear c4b1
  try clear c5
  try clear c5b0
  try clear c5b1
  try clear p6
  try clear q6
  try clear hx6
  try clear qi6
  try clear p6
  try clear q6
  obtain ⟨kq, x16_1, rfl, HA, HJ1, ⟨mc1, rfl⟩⟩ := hcut
  cases kq with
  | zero => exact absurd HA.out (by simp [spec_IsName.j0])
  | succ kj1 =>
   have H := HA.out
   clear HA
   simp only [spec_IsName.j0] at H
   by_cases c8 : x16_1 = true
   ·subst c8
    have H1 : (some false) = some r := by rw [if_pos rfl] at H; exact H
    clear H
    have H := H1
    clear H1
    obtain rfl := Option.some.inj H
    go_wp2
    go_ret
    exact ⟨by first | rfl | (simp; done) | (simp [*]; done), by repeat (first | exact Drawn0.refl _ | apply Drawn0.step)⟩
   ·replace c8 := Bool.eq_false_iff.mpr c8
    subst c8
    have H1 : (spec_IsName.l0 kj1 a0 0) = some r := by rw [if_neg (show ¬ (false = true) by decide)] at H; exact H
    clear H
    have H := H1
    clear H1
    have H' := Aside0.mk H
    clear H
    go_wp2
    go_loopg [3] kj1 (fun kq v3 w' => ∃ (x3_2 : Int), v3 = .int .i64 x3_2 ∧ Aside0 (spec_IsName.l0 kq a0 x3_2 = some r) ∧ Aside0 (kq ≤ kj1) ∧ Drawn0 w w')
    case atStart => exact ⟨(0), (by first | rfl | (simp; done) | (simp [*]; done)), H', ⟨Nat.le_refl _⟩, by repeat (first | exact Drawn0.refl _ | apply Drawn0.step)⟩
    case round =>
     clear H'
     try clear c1
     try clear p2
     try clear c3
     try clear c3b0
     try clear c3b1
     try clear c4
     try clear c4b0
     try clear c4b1
     try clear c5
     try clear c5b0
     try clear c5b1
     try clear p6
     try clear q6
     try clear hx6
     try clear qi6
     try clear c8
     try clear p2
     try clear p6
     try clear q6
     obtain ⟨x3_2, rfl, HA, HK2, ⟨m2, rfl⟩⟩ := hrel
     cases gk with
     | zero => exact absurd HA.out (by simp [spec_IsName.l0])
     | succ k2 =>
      have H := HA.out
      clear HA
      simp only [spec_IsName.l0] at H
      by_cases c9 : x3_2 < (a0.size : Int)
      ·rw [if_pos c9] at H
       have c9b0 : decide (x3_2 < (a0.size : Int)) = true := decide_eq_true c9
       clear c9
       by_cases c10 : 0 ≤ x3_2
       ·rw [if_pos c10] at H
        have c10b0 : decide (0 ≤ x3_2) = true := decide_eq_true c10
        clear c10
        replace H := Option.bind_eq_some_iff.mp H
        obtain ⟨t123, A120, H⟩ := H
        replace H : (if t123 = true then (spec_IsName.l0 k2 a0 (wrap64 (x3_2 + 1))) else ((spec_l01Digit.f (bt a0 x3_2)).bind fun t124 => (if t124 = true then (spec_IsName.l0 k2 a0 (wrap64 (x3_2 + 1))) else (if (bt a0 x3_2) = 45 then (spec_IsName.l0 k2 a0 (wrap64 (x3_2 + 1))) else (some false))))) = some r := H
        have A12 := Aside0.mk A120
        clear A120
        by_cases c13 : t123 = true
        ·subst c13
         have H1 : (spec_IsName.l0 k2 a0 (wrap64 (x3_2 + 1))) = some r := by rw [if_pos rfl] at H; exact H
         clear H
         have H := H1
         clear H1
         have H' := Aside0.mk H
         clear H
         have p11 : 0 ≤ (x3_2 : Int) := od_
         have q11 : x3_2 < (a0.size : Int) := od_
         have hx11 := bt_at a0 x3_2
         replace p11 := eq_true p11
         replace q11 := eq_true q11
         go_wp2_with (first | ((with_reducible refine gate_callee (f := 110) rfl ?_); refine goesL_ (some 26) rfl rfl Tryd.func110 (by kernel_rfl) rfl #[.int .u8 (bt a0 x3_2)] rfl ln_ ?_; (with_reducible refine (spec_l01Small.calls (bt a0 x3_2) true _ A12.out).mono ?_); rintro e w' ⟨rfl, ⟨nd, rfl⟩⟩; refine ⟨_, rfl, ?_⟩))
         go_roundg k2
         case measure => have := HJ1.out; have := HK2.out; omega
         case rel => exact ⟨(wrap64 (x3_2 + 1)), (by first | rfl | (simp; done) | (simp [*]; done)), H', ⟨by have := HJ1.out; have := HK2.out; omega⟩, by repeat (first | exact Drawn0.refl _ | apply Drawn0.step)⟩
        ·replace c13 := Bool.eq_false_iff.mpr c13
         subst c13
         have H1 : ((spec_l01Digit.f (bt a0 x3_2)).bind fun t124 => (if t124 = true then (spec_IsName.l0 k2 a0 (wrap64 (x3_2 + 1))) else (if (bt a0 x3_2) = 45 then (spec_IsName.l0 k2 a0 (wrap64 (x3_2 + 1))) else (some false)))) = some r := by rw [if_neg (show ¬ (false = true) by decide)] at H; exact H
         clear H
         have H := H1
         clear H1
         replace H := Option.bind_eq_some_iff.mp H
         obtain ⟨t124, A150, H⟩ := H
         replace H : (if t124 = true then (spec_IsName.l0 k2 a0 (wrap64 (x3_2 + 1))) else (if (bt a0 x3_2) = 45 then (spec_IsName.l0 k2 a0 (wrap64 (x3_2 + 1))) else (some false))) = some r := H
         have A15 := Aside0.mk A150
         clear A150
         by_cases c16 : t124 = true
         ·subst c16
          have H1 : (spec_IsName.l0 k2 a0 (wrap64 (x3_2 + 1))) = some r := by rw [if_pos rfl] at H; exact H
          clear H
          have H := H1
          clear H1
          have H' := Aside0.mk H
          clear H
          have p11 : 0 ≤ (x3_2 : Int) := od_
          have q11 : x3_2 < (a0.size : Int) := od_
          have hx11 := bt_at a0 x3_2
          replace p11 := eq_true p11
          replace q11 := eq_true q11
          go_wp2_with (first | ((with_reducible refine gate_callee (f := 110) rfl ?_); refine goesL_ (some 26) rfl rfl Tryd.func110 (by kernel_rfl) rfl #[.int .u8 (bt a0 x3_2)] rfl ln_ ?_; (with_reducible refine (spec_l01Small.calls (bt a0 x3_2) false _ A12.out).mono ?_); rintro e w' ⟨rfl, ⟨nd, rfl⟩⟩; refine ⟨_, rfl, ?_⟩; have p14 : 0 ≤ (x3_2 : Int) := od_; have q14 : x3_2 < (a0.size : Int) := od_; have hx14 := bt_at a0 x3_2; replace p14 := eq_true p14; replace q14 := eq_true q14) | (go_at_call 99; (with_reducible refine (spec_l01Digit.calls (bt a0 x3_2) true _ A15.out).mono ?_); rintro e w' ⟨rfl, ⟨nd, rfl⟩⟩))
          go_roundg k2
          case measure => have := HJ1.out; have := HK2.out; omega
          case rel => exact ⟨(wrap64 (x3_2 + 1)), (by first | rfl | (simp; done) | (simp [*]; done)), H', ⟨by have := HJ1.out; have := HK2.out; omega⟩, by repeat (first | exact Drawn0.refl _ | apply Drawn0.step)⟩
         ·replace c16 := Bool.eq_false_iff.mpr c16
          subst c16
          have H1 : (if (bt a0 x3_2) = 45 then (spec_IsName.l0 k2 a0 (wrap64 (x3_2 + 1))) else (some false)) = some r := by rw [if_neg (show ¬ (false = true) by decide)] at H; exact H
          clear H
          have H := H1
          clear H1
          by_cases c18 : (bt a0 x3_2) = 45
          ·rw [if_pos c18] at H
           have c18b0 : ((bt a0 x3_2) == 45) = true := beq_iff_eq.mpr c18
           have c18b1 : ((bt a0 x3_2) != 45) = false := bne_eq_false_iff_eq.mpr c18
           clear c18
           have H' := Aside0.mk H
           clear H
           have p11 : 0 ≤ (x3_2 : Int) := od_
           have q11 : x3_2 < (a0.size : Int) := od_
           have hx11 := bt_at a0 x3_2
           replace p11 := eq_true p11
           replace q11 := eq_true q11
           go_wp2_with (first | ((with_reducible refine gate_callee (f := 110) rfl ?_); refine goesL_ (some 26) rfl rfl Tryd.func110 (by kernel_rfl) rfl #[.int .u8 (bt a0 x3_2)] rfl ln_ ?_; (with_reducible refine (spec_l01Small.calls (bt a0 x3_2) false _ A12.out).mono ?_); rintro e w' ⟨rfl, ⟨nd, rfl⟩⟩; refine ⟨_, rfl, ?_⟩; have p14 : 0 ≤ (x3_2 : Int) := od_; have q14 : x3_2 < (a0.size : Int) := od_; have hx14 := bt_at a0 x3_2; replace p14 := eq_true p14; replace q14 := eq_true q14) | (go_at_call 99; (with_reducible refine (spec_l01Digit.calls (bt a0 x3_2) false _ A15.out).mono ?_); rintro e w' ⟨rfl, ⟨nd, rfl⟩⟩; have p17 : 0 ≤ (x3_2 : Int) := od_; have q17 : x3_2 < (a0.size : Int) := od_; have hx17 := bt_at a0 x3_2; replace p17 := eq_true p17; replace q17 := eq_true q17))
           go_roundg k2
           case measure => have := HJ1.out; have := HK2.out; omega
           case rel => exact ⟨(wrap64 (x3_2 + 1)), (by first | rfl | (simp; done) | (simp [*]; done)), H', ⟨by have := HJ1.out; have := HK2.out; omega⟩, by repeat (first | exact Drawn0.refl _ | apply Drawn0.step)⟩
          ·rw [if_neg c18] at H
           have c18b0 : ((bt a0 x3_2) == 45) = false := beq_eq_false_iff_ne.mpr c18
           have c18b1 : ((bt a0 x3_2) != 45) = true := bne_iff_ne.mpr c18
           obtain rfl := Option.some.inj H
           have p11 : 0 ≤ (x3_2 : Int) := od_
           have q11 : x3_2 < (a0.size : Int) := od_
           have hx11 := bt_at a0 x3_2
           replace p11 := eq_true p11
           replace q11 := eq_true q11
           go_wp2_with (first | ((with_reducible refine gate_callee (f := 110) rfl ?_); refine goesL_ (some 26) rfl rfl Tryd.func110 (by kernel_rfl) rfl #[.int .u8 (bt a0 x3_2)] rfl ln_ ?_; (with_reducible refine (spec_l01Small.calls (bt a0 x3_2) false _ A12.out).mono ?_); rintro e w' ⟨rfl, ⟨nd, rfl⟩⟩; refine ⟨_, rfl, ?_⟩; have p14 : 0 ≤ (x3_2 : Int) := od_; have q14 : x3_2 < (a0.size : Int) := od_; have hx14 := bt_at a0 x3_2; replace p14 := eq_true p14; replace q14 := eq_true q14) | (go_at_call 99; (with_reducible refine (spec_l01Digit.calls (bt a0 x3_2) false _ A15.out).mono ?_); rintro e w' ⟨rfl, ⟨nd, rfl⟩⟩; have p17 : 0 ≤ (x3_2 : Int) := od_; have q17 : x3_2 < (a0.size : Int) := od_; have hx17 := bt_at a0 x3_2; replace p17 := eq_true p17; replace q17 := eq_true q17))
           go_ret
           exact ⟨by first | rfl | (simp; done) | (simp [*]; done), by repeat (first | exact Drawn0.refl _ | apply Drawn0.step)⟩
       ·rw [if_neg c10] at H
        exact absurd H (by simp)
      ·rw [if_neg c9] at H
       have c9b0 : decide (x3_2 < (a0.size : Int)) = false := decide_eq_false c9
       clear c9
       obtain rfl := Option.some.inj H
       go_wp2
       go_ret
       exact ⟨by first | rfl | (simp; done) | (simp [*]; done), by repeat (first | exact Drawn0.refl _ | apply Drawn0.step)⟩

/-! ### spec_l19Rail: function 94 -/
def spec_l19Rail.l0 : Nat → ByteArray → Int → List (S64) → List ByteArray → List (S67) → Option (Int)
 | 0, _, _, _, _, _ => none
 | k + 1, x1, x5, x1000, x1001, x1002 => if x5 < (x1000.length : Int) then (if 0 ≤ x5 then (if ((rd_T64 x1000 x5).f0).toList = x1.toList then (some x5) else (spec_l19Rail.l0 k x1 (wrap64 (x5 + 1)) x1000 x1001 x1002)) else (none)) else (some (-1))
def spec_l19Rail.f (k : Nat) (s0_0 : List (S64)) (s0_1 : List ByteArray) (s0_2 : List (S67)) (a1 : ByteArray) : Option (Int) := spec_l19Rail.l0 k a1 0 s0_0 s0_1 s0_2
set_option maxHeartbeats 8000000 in
set_option maxRecDepth 100000 in
theorem spec_l19Rail.calls0 (k : Nat) (g o : Nat) (z : Option Nat) (s0_0 : List (S64)) (s0_1 : List ByteArray) (s0_2 : List (S67)) (a1 : ByteArray) (r : Int) (w0 w : World) (hI : IsE32 w0 w g o z s0_0 s0_1 s0_2) (hB : Below w0.heap.size w0 w) (h : spec_l19Rail.f k s0_0 s0_1 s0_2 a1 = some r) :
  Calls Tryd.prog 94 #[.pointer (some ⟨g, o, z⟩), .string a1] w fun e w' => e = .returned (.int .i64 r) ∧ IsE32 w0 w' g o z s0_0 s0_1 s0_2 ∧ Below w0.heap.size w0 w' ∧ KeepBut w w' w.heap.size none := by
 have HI0 := Aside0.mk hI
 have HK := Aside0.mk (KeepBut.refl w w.heap.size none)
 have HL := Aside0.mk hB.size
 clear hI
 have HW0 := Aside0.mk hB.size
 have HB := Aside0.mk hB
 clear hB
 have H : (spec_l19Rail.l0 k a1 0 s0_0 s0_1 s0_2) = some r := h
 clear h
 have H' := Aside0.mk H
 clear H
 go_enter Tryd.func94, Tryd.ntmps94
 go_wp2
 go_loopg [5] k (fun kq v5 w' => ∃ (x5_1 : Int), v5 = .int .i64 x5_1 ∧ Aside0 (spec_l19Rail.l0 kq a1 x5_1 s0_0 s0_1 s0_2 = some r) ∧ Aside0 (kq ≤ k) ∧ Aside0 (IsE32 w0 w' g o z s0_0 s0_1 s0_2) ∧ Aside0 (KeepBut w w' w.heap.size none) ∧ Aside0 (Below w0.heap.size w0 w'))
 case atStart => exact ⟨(0), (by first | rfl | (simp; done) | (simp [*]; done)), H', ⟨Nat.le_refl _⟩, ⟨by repeat (first | (with_reducible first | exact HI0.out | apply IsE32.alloc | apply IsE32.drewN | apply IsE32.drew) | exact HI0.out)⟩, ⟨by repeat (first | (with_reducible first | exact HK.out | apply keep_drewN | apply keep_drew | apply keep_alloc) | exact HK.out)⟩, ⟨hb_⟩⟩
 case round =>
  clear H'
  try clear p2
  obtain ⟨x5_1, rfl, HA, HK1, HI0, HK, HB⟩ := hrel
  cases gk with
  | zero => exact absurd HA.out (by simp [spec_l19Rail.l0])
  | succ k1 =>
   have H := HA.out
   clear HA
   simp only [spec_l19Rail.l0] at H
   by_cases c3 : x5_1 < (s0_0.length : Int)
   ·rw [if_pos c3] at H
    have c3b0 : decide (x5_1 < (s0_0.length : Int)) = true := decide_eq_true c3
    clear c3
    by_cases c4 : 0 ≤ x5_1
    ·rw [if_pos c4] at H
     have c4b0 : decide (0 ≤ x5_1) = true := decide_eq_true c4
     clear c4
     by_cases c5 : ((rd_T64 s0_0 x5_1).f0).toList = a1.toList
     ·rw [if_pos c5] at H
      have c5b0 : (((rd_T64 s0_0 x5_1).f0).toList == a1.toList) = true := beq_iff_eq.mpr c5
      have c5b1 : (((rd_T64 s0_0 x5_1).f0).toList != a1.toList) = false := bne_eq_false_iff_eq.mpr c5
      clear c5
      obtain rfl := Option.some.inj H
      obtain ⟨ASz6_0, cSz6_0, ASz6_1, cSz6_1, ASz6_2, cSz6_2, HGz6, hgz6, HSz6_0, HSz6_1, HSz6_2⟩ := HI0.out
      have hcz6_0 := cellE32_0 HGz6
      have hcz6_1 := cellE32_1 HGz6
      have hcz6_2 := cellE32_2 HGz6
      clear HGz6 hgz6
      have p125 : 0 ≤ (x5_1 : Int) := od_
      have q125 : x5_1 < (s0_0.length : Int) := od_
      obtain ⟨ad125, e125, hx125_0, hx125_1, hx125_2⟩ := at_T64 HSz6_0 x5_1 p125 q125
      cases e125
      replace hx125_0 := pw_cell_below HB.out hx125_0
      replace hx125_1 := pw_cell_below HB.out hx125_1
      replace hx125_2 := pw_cell_below HB.out hx125_2
      replace p125 := eq_true p125
      replace q125 := eq_true q125
      go_wp2
      go_ret
      exact ⟨ew_, by repeat (first | (with_reducible first | exact HI0.out | apply IsE32.alloc | apply IsE32.drewN | apply IsE32.drew) | exact HI0.out), hb_, by repeat (first | (with_reducible first | exact HK.out | apply keep_drewN | apply keep_drew | apply keep_alloc) | exact HK.out)⟩
     ·rw [if_neg c5] at H
      have c5b0 : (((rd_T64 s0_0 x5_1).f0).toList == a1.toList) = false := beq_eq_false_iff_ne.mpr c5
      have c5b1 : (((rd_T64 s0_0 x5_1).f0).toList != a1.toList) = true := bne_iff_ne.mpr c5
      have H' := Aside0.mk H
      clear H
      obtain ⟨ASz7_0, cSz7_0, ASz7_1, cSz7_1, ASz7_2, cSz7_2, HGz7, hgz7, HSz7_0, HSz7_1, HSz7_2⟩ := HI0.out
      have hcz7_0 := cellE32_0 HGz7
      have hcz7_1 := cellE32_1 HGz7
      have hcz7_2 := cellE32_2 HGz7
      clear HGz7 hgz7
      have p125 : 0 ≤ (x5_1 : Int) := od_
      have q125 : x5_1 < (s0_0.length : Int) := od_
      obtain ⟨ad125, e125, hx125_0, hx125_1, hx125_2⟩ := at_T64 HSz7_0 x5_1 p125 q125
      cases e125
      replace hx125_0 := pw_cell_below HB.out hx125_0
      replace hx125_1 := pw_cell_below HB.out hx125_1
      replace hx125_2 := pw_cell_below HB.out hx125_2
      replace p125 := eq_true p125
      replace q125 := eq_true q125
      go_wp2
      go_roundg k1
      case measure => have := HK1.out; omega
      case rel => exact ⟨(wrap64 (x5_1 + 1)), (by first | rfl | (simp; done) | (simp [*]; done)), H', ⟨by have := HK1.out; omega⟩, ⟨by repeat (first | (with_reducible first | exact HI0.out | apply IsE32.alloc | apply IsE32.drewN | apply IsE32.drew) | exact HI0.out)⟩, ⟨by repeat (first | (with_reducible first | exact HK.out | apply keep_drewN | apply keep_drew | apply keep_alloc) | exact HK.out)⟩, ⟨hb_⟩⟩
    ·rw [if_neg c4] at H
     exact absurd H (by simp)
   ·rw [if_neg c3] at H
    have c3b0 : decide (x5_1 < (s0_0.length : Int)) = false := decide_eq_false c3
    clear c3
    obtain rfl := Option.some.inj H
    obtain ⟨ASz8_0, cSz8_0, ASz8_1, cSz8_1, ASz8_2, cSz8_2, HGz8, hgz8, HSz8_0, HSz8_1, HSz8_2⟩ := HI0.out
    have hcz8_0 := cellE32_0 HGz8
    have hcz8_1 := cellE32_1 HGz8
    have hcz8_2 := cellE32_2 HGz8
    clear HGz8 hgz8
    go_wp2
    go_ret
    exact ⟨ew_, by repeat (first | (with_reducible first | exact HI0.out | apply IsE32.alloc | apply IsE32.drewN | apply IsE32.drew) | exact HI0.out), hb_, by repeat (first | (with_reducible first | exact HK.out | apply keep_drewN | apply keep_drew | apply keep_alloc) | exact HK.out)⟩
theorem spec_l19Rail.callsE (k : Nat) (g : Addr) (s0_0 : List (S64)) (s0_1 : List ByteArray) (s0_2 : List (S67)) (AE0 : Option Addr) (cE0 : Nat) (AE1 : Option Addr) (cE1 : Nat) (AE2 : Option Addr) (cE2 : Nat) (a1 : ByteArray) (r : Int) (w : World) (he0 : w.cell? g = some (.slice AE0 s0_0.length cE0)) (he1 : w.cell? ⟨g.block, g.off + 1, none⟩ = some (.slice AE1 s0_1.length cE1)) (he2 : w.cell? ⟨g.block, g.off + 2, none⟩ = some (.slice AE2 s0_2.length cE2)) (hr0 : Kd.C k64 w AE0 s0_0.length s0_0) (hr1 : Kd.C Kd.string w AE1 s0_1.length s0_1) (hr2 : Kd.C k67 w AE2 s0_2.length s0_2) (h : spec_l19Rail.f k s0_0 s0_1 s0_2 a1 = some r) :
  Calls Tryd.prog 94 #[.pointer (some g), .string a1] w fun e w' => e = .returned (.int .i64 r) ∧ Below w.heap.size w w' := by
 refine (spec_l19Rail.calls0 k g.block g.off g.spot s0_0 s0_1 s0_2 a1 r w w ⟨AE0, cE0, AE1, cE1, AE2, cE2, ⟨he0, he1, he2⟩, trivial, hr0, hr1, hr2⟩ (Below.refl _ _) h).mono ?_
 rintro e w' ⟨rfl, _, hb, _⟩
 exact ⟨rfl, hb⟩


/-! ### spec_l19AddRail: function 72 -/
open Go.Proofs.YtcenjcgfdghfnaaDoorW.Hand
def spec_l19AddRail.f (k : Nat) (f0 : List S64) (f1 : List ByteArray) (f2 : List S67) (a0 a1 : ByteArray) (a2 : Int) : Option (List S64 × Int) :=
 (spec_IsName.f k a0).bind fun t => if t = true then (if sideB a1 = true then ((spec_l00In.f a2 1 30).bind fun u => if u = true then ((spec_l19Rail.f k f0 f1 f2 a0).bind fun i => if i ≥ 0 then some (f0, 5) else if (f0.length : Int) ≥ 10 then some (f0, 8) else if f0.length < 1000 then some (f0 ++ [⟨a0, a1, a2⟩], 0) else none) else some (f0, 4)) else some (f0, 1)) else some (f0, 3)
def spec_l19AddRail.T11 : Bool × List (List Nat × List Nat) := (true, [([], []), ([], []), ([1], [1]), ([2], [2]), ([3], [3]), ([], []), ([5], [5]), ([4, 6], [4, 6]), ([0, 0, 1, 2, 3, 4, 5, 6, 7], [0]), ([8, 0, 1, 2, 3, 4, 5, 6, 7], [8]), ([9, 7, 7, 0, 1, 2, 3, 4, 5, 6, 7], [7, 9])])
def spec_l19AddRail.B11 : List Nat := [0, 0, 2, 6, 14, 0, 32, 126, 255, 511, 1023]
theorem spec_l19AddRail.tab11 : rtab .any (opsOf Tryd.f72 11) = spec_l19AddRail.T11 := by kernel_rfl
theorem spec_l19AddRail.bits11 : waitsOk spec_l19AddRail.T11.2 spec_l19AddRail.B11 = true := by kernel_rfl
set_option maxRecDepth 100000 in
set_option maxHeartbeats 8000000 in
theorem spec_l19AddRail.calls (k base : Nat) (g : Nat) (f0 : List S64) (f1 : List ByteArray) (f2 : List S67) (a0 a1 : ByteArray) (a2 : Int) (q : List S64) (r : Int) (w : World) (hI : RigOwn base w g f0 f1 f2) (h : spec_l19AddRail.f k f0 f1 f2 a0 a1 a2 = some (q, r)) :
  Calls Tryd.prog 72 #[.pointer (some ⟨g, 0, none⟩), .agg #[.string a0, .string a1, .int .i64 a2]] w fun e w' => e = .returned (.int .i64 r) ∧ RigOwn base w' g q f1 f2 ∧ Below base w w' := by
 obtain ⟨A0, c0, A1, c1, A2, c2, hI⟩ := hI
 have HI := Aside0.mk hI
 have hB0 := hI.lt
 have hu := Tryd.underlying64
 clear hI
 unfold spec_l19AddRail.f at h
 obtain ⟨t, ht, h⟩ := Option.bind_eq_some_iff.mp h
 have HT := Aside0.mk ht
 clear ht
 cases t with
 | false =>
  simp only [Bool.false_eq_true, if_false, Option.some.injEq, Prod.mk.injEq] at h
  obtain ⟨rfl, rfl⟩ := h
  go_enter Tryd.func72, Tryd.ntmps72
  go_wp2_with (first | ((with_reducible refine gate_dst (N := 3) rfl ?_); refine hand_box (fun g_ W_ => RailSt base w W_ g g_ A0 c0 A1 c1 A2 c2 f0 f1 f2 #[.string a0, .string a1, .int .i64 a2] 64) ?hg (N := 3) ?hd (cs := #[.string a0, .string a1, .int .i64 a2]) (t := 64) ?hr ?hF ?_; (case hd => rfl); (case hg => rfl); (case hr => first | (go_simp; done) | (go_simp; rfl)); (case hF => exact ⟨HI.out.step (below_alloc (Below.refl _ _) _), heap_alloc_new _ _, (Below.refl base w).alloc hB0 _⟩); intro bl w1 hh; obtain ⟨z0, z1, z2⟩ := hh.s0; have HS1 := Aside0.mk hh; clear hh) | (go_at_call 93; refine (spec_IsName.calls k a0 false w1 HT.out).mono ?_; rintro e w2 ⟨rfl, hb2⟩; have HS2 := Aside0.mk (HS1.out.step hb2.below); clear hb2 z0 z1 z2; obtain ⟨z0, z1, z2⟩ := HS2.out.s0))
  go_ret
  exact ⟨rfl, HS2.out.rig.own, HS2.out.below⟩
 | true =>
  simp only [if_true] at h
  by_cases hs : sideB a1 = true
  rotate_left
  ·rw [if_neg hs] at h
   simp only [Option.some.injEq, Prod.mk.injEq] at h
   obtain ⟨rfl, rfl⟩ := h
   obtain ⟨k1, k2, k3⟩ := sideB_no hs
   have n1 := ne_of_beq k1
   have n2 := ne_of_beq k2
   have n3 := ne_of_beq k3
   go_enter Tryd.func72, Tryd.ntmps72
   go_wp2_with (first | ((with_reducible refine gate_dst (N := 3) rfl ?_); refine hand_box (fun g_ W_ => RailSt base w W_ g g_ A0 c0 A1 c1 A2 c2 f0 f1 f2 #[.string a0, .string a1, .int .i64 a2] 64) ?hg (N := 3) ?hd (cs := #[.string a0, .string a1, .int .i64 a2]) (t := 64) ?hr ?hF ?_; (case hd => rfl); (case hg => rfl); (case hr => first | (go_simp; done) | (go_simp; rfl)); (case hF => exact ⟨HI.out.step (below_alloc (Below.refl _ _) _), heap_alloc_new _ _, (Below.refl base w).alloc hB0 _⟩); intro bl w1 hh; obtain ⟨z0, z1, z2⟩ := hh.s0; have HS1 := Aside0.mk hh; clear hh) | (go_at_call 93; refine (spec_IsName.calls k a0 true w1 HT.out).mono ?_; rintro e w2 ⟨rfl, hb2⟩; have HS2 := Aside0.mk (HS1.out.step hb2.below); clear hb2 z0 z1 z2; obtain ⟨z0, z1, z2⟩ := HS2.out.s0))
   go_ret
   exact ⟨rfl, HS2.out.rig.own, HS2.out.below⟩
  ·rw [if_pos hs] at h
   obtain ⟨u, hu2, h⟩ := Option.bind_eq_some_iff.mp h
   have HU := Aside0.mk hu2
   clear hu2
   rcases sideB_yes hs with k1 | ⟨k1, k2⟩ | ⟨k1, k2, k3⟩ <;> (
    have n1 := ne_of_beq k1
    (try have n2 := ne_of_beq k2)
    (try have n3 := ne_of_beq k3)
    go_enter Tryd.func72, Tryd.ntmps72
    go_upto_if 24 with (first | ((with_reducible refine gate_dst (N := 3) rfl ?_); refine hand_box (fun g_ W_ => RailSt base w W_ g g_ A0 c0 A1 c1 A2 c2 f0 f1 f2 #[.string a0, .string a1, .int .i64 a2] 64) ?hg (N := 3) ?hd (cs := #[.string a0, .string a1, .int .i64 a2]) (t := 64) ?hr ?hF ?_; (case hd => rfl); (case hg => rfl); (case hr => first | (go_simp; done) | (go_simp; rfl)); (case hF => exact ⟨HI.out.step (below_alloc (Below.refl _ _) _), heap_alloc_new _ _, (Below.refl base w).alloc hB0 _⟩); intro bl w1 hh; obtain ⟨z0, z1, z2⟩ := hh.s0; have HS1 := Aside0.mk hh; clear hh) | (go_at_call 93; refine (spec_IsName.calls k a0 true w1 HT.out).mono ?_; rintro e w2 ⟨rfl, hb2⟩; have HS2 := Aside0.mk (HS1.out.step hb2.below); clear hb2 z0 z1 z2; obtain ⟨z0, z1, z2⟩ := HS2.out.s0) | (go_at_call 65; refine (spec_l00In.calls a2 1 30 u w2 HU.out).mono ?_; rintro e w3 ⟨rfl, hb3⟩; have HS3 := Aside0.mk (HS2.out.step hb3.below); clear hb3 z0 z1 z2; obtain ⟨z0, z1, z2⟩ := HS3.out.s0))
    clear n1 k1
    (try clear n2 k2)
    (try clear n3 k3)
    cases u with
    | false =>
     simp only [Bool.false_eq_true, if_false, Option.some.injEq, Prod.mk.injEq] at h
     obtain ⟨rfl, rfl⟩ := h
     go_wp2_with fail
     go_ret
     exact ⟨rfl, HS3.out.rig.own, HS3.out.below⟩
    | true =>
     simp only [if_true] at h
     obtain ⟨i, hi, h⟩ := Option.bind_eq_some_iff.mp h
     have HX := Aside0.mk hi
     clear hi
     go_upto_if 29 with (go_at_call 94; refine (spec_l19Rail.callsE k ⟨g, 0, none⟩ f0 f1 f2 A0 c0 A1 c1 A2 c2 a0 i w3 HS3.out.rig.c0 HS3.out.rig.c1 HS3.out.rig.c2 (Kd.R_reads' HS3.out.rig.r0).2.2 (Kd.R_reads' HS3.out.rig.r1).2.2 (Kd.R_reads' HS3.out.rig.r2).2.2 HX.out).mono ?_; rintro e w4 ⟨rfl, hb4⟩; have HS4 := Aside0.mk (HS3.out.step hb4); clear hb4 z0 z1 z2; obtain ⟨z0, z1, z2⟩ := HS4.out.s0)
     clear hs
     by_cases hi0 : i ≥ 0
     ·rw [if_pos hi0] at h
      simp only [Option.some.injEq, Prod.mk.injEq] at h
      obtain ⟨rfl, rfl⟩ := h
      have hid : decide ((0 : Int) ≤ i) = true := decide_eq_true hi0
      go_wp2_with fail
      go_ret
      exact ⟨rfl, HS4.out.rig.own, HS4.out.below⟩
     ·rw [if_neg hi0] at h
      have hid : decide ((0 : Int) ≤ i) = false := decide_eq_false hi0
      have x0 := HS4.out.rig.c0
      by_cases hf : (f0.length : Int) ≥ 10
      ·rw [if_pos hf] at h
       simp only [Option.some.injEq, Prod.mk.injEq] at h
       obtain ⟨rfl, rfl⟩ := h
       have hfe : decide ((10 : Int) ≤ (f0.length : Int)) = true := decide_eq_true hf
       go_wp2_with fail
       go_ret
       exact ⟨rfl, HS4.out.rig.own, HS4.out.below⟩
      ·rw [if_neg hf] at h
       have hfe : decide ((10 : Int) ≤ (f0.length : Int)) = false := decide_eq_false hf
       by_cases hl : f0.length < 1000
       ·rw [if_pos hl] at h
        simp only [Option.some.injEq, Prod.mk.injEq] at h
        obtain ⟨rfl, rfl⟩ := h
        have HLM := Aside0.mk hl
        clear hf hl
        have y0 : w4.drew.cell? ⟨g, 0, none⟩ = some (.slice A0 f0.length c0) := HS4.out.rig.c0
        have z0 : w4.drew.cell? ⟨bl, 0, none⟩ = some (.string a0) := HS4.out.s0.1
        have z1 : w4.drew.cell? ⟨bl, 1, none⟩ = some (.string a1) := HS4.out.s0.2.1
        have z2 : w4.drew.cell? ⟨bl, 2, none⟩ = some (.int .i64 a2) := HS4.out.s0.2.2
        go_upto_region 11 with fail
        refine start_ (n := 11) (S := fun w' => w'.cell? ⟨g, 0, none⟩ = some (.slice A0 f0.length c0) ∧ w'.cell? ⟨bl, 0, none⟩ = some (.string a0) ∧ w'.cell? ⟨bl, 1, none⟩ = some (.string a1) ∧ w'.cell? ⟨bl, 2, none⟩ = some (.int .i64 a2)) (ds := [7, 10]) #[F_,F_,F_,F_,F_,F_,F_,F_,F_,F_,F_] (by kernel_rfl) rfl rfl ⟨y0, z0, z1, z2⟩ (fun hHeld => ?_); refine with_tabW spec_l19AddRail.tab11 spec_l19AddRail.bits11 (fun HT_ HW_ => ?_)
        generalize hW5 : w4.drew = W5 at hHeld y0 z0 z1 z2 ⊢
        have HS5 : Aside0 (RailSt base w W5 g bl A0 c0 A1 c1 A2 c2 f0 f1 f2 #[.string a0, .string a1, .int .i64 a2] 64) := ⟨by rw [← hW5]; exact HS4.out.step (below_drew (Below.refl _ _))⟩
        clear hW5
        refine pu (i := 0) (N := some 42) #[T_,F_,F_,F_,F_,F_,F_,F_,F_,F_,F_] HT_ ?_
        refine pu (i := 1) (N := some 43) #[T_,T_,F_,F_,F_,F_,F_,F_,F_,F_,F_] HT_ ?_
        refine pu (i := 2) (N := some 44) #[T_,T_,T_,F_,F_,F_,F_,F_,F_,F_,F_] HT_ ?_
        refine pu (i := 3) (N := some 45) #[T_,T_,T_,T_,F_,F_,F_,F_,F_,F_,F_] HT_ ?_
        refine take_ (i := 4) (N := some 46) (v := ?_) (a' := ?_) #[T_,T_,T_,T_,T_,F_,F_,F_,F_,F_,F_] rfl rfl (take_ofW HT_.out HW_.out (by kernel_rfl)) (fun _ _ _ h => h) (Or.inl ⟨by rfl, ?_⟩) hHeld ?_ ?_
        rotate_left
        ·rintro w' ⟨s0, s1, s2, s3⟩
         go_simp
         with_reducible rfl
        rotate_left
        ·simp only [Act.put, sT_, s0_, sS_, i64_w, i32_w]
         rfl
        refine take_ (i := 5) (N := some 47) (v := ?_) (a' := ?_) #[T_,T_,T_,T_,T_,T_,F_,F_,F_,F_,F_] rfl rfl (take_ofW HT_.out HW_.out (by kernel_rfl)) (fun _ _ _ h => h) (Or.inl ⟨by rfl, ?_⟩) hHeld ?_ ?_
        rotate_left
        ·rintro w' ⟨s0, s1, s2, s3⟩
         go_simp
         with_reducible rfl
        rotate_left
        ·simp only [Act.put, sT_, s0_, sS_, i64_w, i32_w]
         rfl
        refine one_ (i := 6) (N := (some 48)) #[T_,T_,T_,T_,T_,T_,T_,F_,F_,F_,F_] rfl rfl (one_of HT_.out (by kernel_rfl)) (by decide) (fun K hK => ?_)
        refine event_step (v := .slice (some ⟨W5.heap.size, 0, none⟩) 1 1) (w1 := W5.alloc (.cells #[.string a0, .string a1, .int .i64 a2] 64)) (by rfl) (by first | (go_simp; done) | (go_simp; rfl)) ?_
        refine hK.out _ _ ⟨pw_cell_below (below_alloc (Below.refl W5.heap.size W5) _) y0, pw_cell_below (below_alloc (Below.refl W5.heap.size W5) _) z0, pw_cell_below (below_alloc (Below.refl W5.heap.size W5) _) z1, pw_cell_below (below_alloc (Below.refl W5.heap.size W5) _) z2⟩ (fun hHeld => ?_)
        clear hK K
        refine norm_ (a' := ?_) ?_ ?_
        rotate_left
        ·show Act.put _ (some 48) _ = _
         simp only [Act.put, sT_, s0_, sS_, i64_w, i32_w]
         rfl
        refine last_ (i := 7) (N := (some 49)) #[T_,T_,T_,T_,T_,T_,T_,T_,F_,F_,F_] rfl rfl (one_of HT_.out (by kernel_rfl)) (by decide) (fun K hK => ?_)
        refine Kd.R_append_step k64 (w0 := w) base (by rfl) (.tmp 46) (.tmp 48) 29 64 (.agg #[(.string ⟨#[]⟩), (.string ⟨#[]⟩), (.int .i64 0)]) 40 rfl Tryd.underlying29 info64 rfl (by decide) (by decide) (.slice A0 f0.length c0) f0 (⟨a0, a1, a2⟩ : S64) [.string a0, .string a1, .int .i64 a2] (fun _ => True) (fun _ => False) rfl rfl (k64_mkM _ _ _ _) (fun _ hk => hk.elim) (fun _ _ => trivial) HS5.out.rig.r0 HS5.out.below HS5.out.rig.lt (by have := HLM.out; omega) ?_
        intro v6 w6 ho hb hg hat
        obtain ⟨A6, c6, e6⟩ := Kd.R_slice ho
        subst e6
        have hP := HS5.out.rig.put0 hg ho
        have HP := Aside0.mk hP
        have HB6 := Aside0.mk hb
        clear ho hb hg hat hP
        refine hK.out _ _ ?_
        clear hK K
        refine norm_ (a' := ?_) ?_ ?_
        rotate_left
        ·show Act.put _ (some 49) _ = _
         simp only [Act.put, sT_, s0_, sS_, i64_w, i32_w]
         rfl
        refine pu (i := 8) (N := some 50) #[T_,T_,T_,T_,T_,T_,T_,T_,T_,F_,F_] HT_ ?_
        refine pu (i := 9) (N := some 51) #[T_,T_,T_,T_,T_,T_,T_,T_,T_,T_,F_] HT_ ?_
        refine last_ (i := 10) (N := none) #[T_,T_,T_,T_,T_,T_,T_,T_,T_,T_,T_] rfl rfl (one_of HT_.out (by kernel_rfl)) (by decide) (fun K hK => ?_)
        refine skip_ (w1 := w6.setCell ⟨g, 0, none⟩ (.slice A6 (f0 ++ [(⟨a0, a1, a2⟩ : S64)]).length c6)) (by rfl) rfl ?_ ?_
        ·have fz := HP.out.1.1
         have xz := HP.out.1.2
         first | (go_simp; done) | (go_simp; rfl)
        refine hK.out _ _ ?_
        clear hK K
        refine done_ (done_of HT_.out (by kernel_rfl)) ?_
        obtain ⟨w7, hw7⟩ : ∃ w7, w7 = w6.setCell ⟨g, 0, none⟩ (.slice A6 (f0 ++ [(⟨a0, a1, a2⟩ : S64)]).length c6) := ⟨_, rfl⟩
        have HR7 : Aside0 (RigOwn base w7 g (f0 ++ [(⟨a0, a1, a2⟩ : S64)]) f1 f2) := ⟨by rw [hw7]; exact HP.out.2.own⟩
        have HB7 : Aside0 (Below base w w7) := ⟨by rw [hw7]; exact HB6.out.setCell HS5.out.rig.ge _⟩
        rw [← hw7]
        clear hw7 HP HB6 HS5 y0 z0 z1 z2
        go_wp2_with fail
        go_ret
        exact ⟨rfl, HR7.out, HB7.out⟩
       ·rw [if_neg hl] at h
        exact absurd h (by simp))


/-! ### spec_l19Line: function 95 -/
def spec_l19Line.l0 : Nat → ByteArray → Int → List (S64) → List ByteArray → List (S67) → Option (Bool)
 | 0, _, _, _, _, _ => none
 | k + 1, x1, x5, x1000, x1001, x1002 => if x5 < (x1001.length : Int) then (if 0 ≤ x5 then (if (rdOf ByteArray.empty x1001 x5).toList = x1.toList then (some true) else (spec_l19Line.l0 k x1 (wrap64 (x5 + 1)) x1000 x1001 x1002)) else (none)) else (some false)
def spec_l19Line.f (k : Nat) (s0_0 : List (S64)) (s0_1 : List ByteArray) (s0_2 : List (S67)) (a1 : ByteArray) : Option (Bool) := spec_l19Line.l0 k a1 0 s0_0 s0_1 s0_2
set_option maxHeartbeats 8000000 in
set_option maxRecDepth 100000 in
theorem spec_l19Line.calls0 (k : Nat) (g o : Nat) (z : Option Nat) (s0_0 : List (S64)) (s0_1 : List ByteArray) (s0_2 : List (S67)) (a1 : ByteArray) (r : Bool) (w0 w : World) (hI : IsE32 w0 w g o z s0_0 s0_1 s0_2) (hB : Below w0.heap.size w0 w) (h : spec_l19Line.f k s0_0 s0_1 s0_2 a1 = some r) :
  Calls Tryd.prog 95 #[.pointer (some ⟨g, o, z⟩), .string a1] w fun e w' => e = .returned (.bool r) ∧ IsE32 w0 w' g o z s0_0 s0_1 s0_2 ∧ Below w0.heap.size w0 w' ∧ KeepBut w w' w.heap.size none := by
 have HI0 := Aside0.mk hI
 have HK := Aside0.mk (KeepBut.refl w w.heap.size none)
 have HL := Aside0.mk hB.size
 clear hI
 have HW0 := Aside0.mk hB.size
 have HB := Aside0.mk hB
 clear hB
 have H : (spec_l19Line.l0 k a1 0 s0_0 s0_1 s0_2) = some r := h
 clear h
 have H' := Aside0.mk H
 clear H
 go_enter Tryd.func95, Tryd.ntmps95
 go_wp2
 go_loopg [5] k (fun kq v5 w' => ∃ (x5_1 : Int), v5 = .int .i64 x5_1 ∧ Aside0 (spec_l19Line.l0 kq a1 x5_1 s0_0 s0_1 s0_2 = some r) ∧ Aside0 (kq ≤ k) ∧ Aside0 (IsE32 w0 w' g o z s0_0 s0_1 s0_2) ∧ Aside0 (KeepBut w w' w.heap.size none) ∧ Aside0 (Below w0.heap.size w0 w'))
 case atStart => exact ⟨(0), (by first | rfl | (simp; done) | (simp [*]; done)), H', ⟨Nat.le_refl _⟩, ⟨by repeat (first | (with_reducible first | exact HI0.out | apply IsE32.alloc | apply IsE32.drewN | apply IsE32.drew) | exact HI0.out)⟩, ⟨by repeat (first | (with_reducible first | exact HK.out | apply keep_drewN | apply keep_drew | apply keep_alloc) | exact HK.out)⟩, ⟨hb_⟩⟩
 case round =>
  clear H'
  try clear p2
  obtain ⟨x5_1, rfl, HA, HK1, HI0, HK, HB⟩ := hrel
  cases gk with
  | zero => exact absurd HA.out (by simp [spec_l19Line.l0])
  | succ k1 =>
   have H := HA.out
   clear HA
   simp only [spec_l19Line.l0] at H
   by_cases c3 : x5_1 < (s0_1.length : Int)
   ·rw [if_pos c3] at H
    have c3b0 : decide (x5_1 < (s0_1.length : Int)) = true := decide_eq_true c3
    clear c3
    by_cases c4 : 0 ≤ x5_1
    ·rw [if_pos c4] at H
     have c4b0 : decide (0 ≤ x5_1) = true := decide_eq_true c4
     clear c4
     by_cases c5 : (rdOf ByteArray.empty s0_1 x5_1).toList = a1.toList
     ·rw [if_pos c5] at H
      have c5b0 : ((rdOf ByteArray.empty s0_1 x5_1).toList == a1.toList) = true := beq_iff_eq.mpr c5
      have c5b1 : ((rdOf ByteArray.empty s0_1 x5_1).toList != a1.toList) = false := bne_eq_false_iff_eq.mpr c5
      clear c5
      obtain rfl := Option.some.inj H
      obtain ⟨ASz6_0, cSz6_0, ASz6_1, cSz6_1, ASz6_2, cSz6_2, HGz6, hgz6, HSz6_0, HSz6_1, HSz6_2⟩ := HI0.out
      have hcz6_0 := cellE32_0 HGz6
      have hcz6_1 := cellE32_1 HGz6
      have hcz6_2 := cellE32_2 HGz6
      clear HGz6 hgz6
      have p126 : 0 ≤ (x5_1 : Int) := od_
      have q126 : x5_1 < (s0_1.length : Int) := od_
      obtain ⟨ad126, e126, hx126_0⟩ := Kd.at_string HSz6_1 x5_1 p126 q126
      cases e126
      replace hx126_0 := pw_cell_below HB.out hx126_0
      replace p126 := eq_true p126
      replace q126 := eq_true q126
      go_wp2
      go_ret
      exact ⟨ew_, by repeat (first | (with_reducible first | exact HI0.out | apply IsE32.alloc | apply IsE32.drewN | apply IsE32.drew) | exact HI0.out), hb_, by repeat (first | (with_reducible first | exact HK.out | apply keep_drewN | apply keep_drew | apply keep_alloc) | exact HK.out)⟩
     ·rw [if_neg c5] at H
      have c5b0 : ((rdOf ByteArray.empty s0_1 x5_1).toList == a1.toList) = false := beq_eq_false_iff_ne.mpr c5
      have c5b1 : ((rdOf ByteArray.empty s0_1 x5_1).toList != a1.toList) = true := bne_iff_ne.mpr c5
      have H' := Aside0.mk H
      clear H
      obtain ⟨ASz7_0, cSz7_0, ASz7_1, cSz7_1, ASz7_2, cSz7_2, HGz7, hgz7, HSz7_0, HSz7_1, HSz7_2⟩ := HI0.out
      have hcz7_0 := cellE32_0 HGz7
      have hcz7_1 := cellE32_1 HGz7
      have hcz7_2 := cellE32_2 HGz7
      clear HGz7 hgz7
      have p126 : 0 ≤ (x5_1 : Int) := od_
      have q126 : x5_1 < (s0_1.length : Int) := od_
      obtain ⟨ad126, e126, hx126_0⟩ := Kd.at_string HSz7_1 x5_1 p126 q126
      cases e126
      replace hx126_0 := pw_cell_below HB.out hx126_0
      replace p126 := eq_true p126
      replace q126 := eq_true q126
      go_wp2
      go_roundg k1
      case measure => have := HK1.out; omega
      case rel => exact ⟨(wrap64 (x5_1 + 1)), (by first | rfl | (simp; done) | (simp [*]; done)), H', ⟨by have := HK1.out; omega⟩, ⟨by repeat (first | (with_reducible first | exact HI0.out | apply IsE32.alloc | apply IsE32.drewN | apply IsE32.drew) | exact HI0.out)⟩, ⟨by repeat (first | (with_reducible first | exact HK.out | apply keep_drewN | apply keep_drew | apply keep_alloc) | exact HK.out)⟩, ⟨hb_⟩⟩
    ·rw [if_neg c4] at H
     exact absurd H (by simp)
   ·rw [if_neg c3] at H
    have c3b0 : decide (x5_1 < (s0_1.length : Int)) = false := decide_eq_false c3
    clear c3
    obtain rfl := Option.some.inj H
    obtain ⟨ASz8_0, cSz8_0, ASz8_1, cSz8_1, ASz8_2, cSz8_2, HGz8, hgz8, HSz8_0, HSz8_1, HSz8_2⟩ := HI0.out
    have hcz8_0 := cellE32_0 HGz8
    have hcz8_1 := cellE32_1 HGz8
    have hcz8_2 := cellE32_2 HGz8
    clear HGz8 hgz8
    go_wp2
    go_ret
    exact ⟨ew_, by repeat (first | (with_reducible first | exact HI0.out | apply IsE32.alloc | apply IsE32.drewN | apply IsE32.drew) | exact HI0.out), hb_, by repeat (first | (with_reducible first | exact HK.out | apply keep_drewN | apply keep_drew | apply keep_alloc) | exact HK.out)⟩
theorem spec_l19Line.callsE (k : Nat) (g : Addr) (s0_0 : List (S64)) (s0_1 : List ByteArray) (s0_2 : List (S67)) (AE0 : Option Addr) (cE0 : Nat) (AE1 : Option Addr) (cE1 : Nat) (AE2 : Option Addr) (cE2 : Nat) (a1 : ByteArray) (r : Bool) (w : World) (he0 : w.cell? g = some (.slice AE0 s0_0.length cE0)) (he1 : w.cell? ⟨g.block, g.off + 1, none⟩ = some (.slice AE1 s0_1.length cE1)) (he2 : w.cell? ⟨g.block, g.off + 2, none⟩ = some (.slice AE2 s0_2.length cE2)) (hr0 : Kd.C k64 w AE0 s0_0.length s0_0) (hr1 : Kd.C Kd.string w AE1 s0_1.length s0_1) (hr2 : Kd.C k67 w AE2 s0_2.length s0_2) (h : spec_l19Line.f k s0_0 s0_1 s0_2 a1 = some r) :
  Calls Tryd.prog 95 #[.pointer (some g), .string a1] w fun e w' => e = .returned (.bool r) ∧ Below w.heap.size w w' := by
 refine (spec_l19Line.calls0 k g.block g.off g.spot s0_0 s0_1 s0_2 a1 r w w ⟨AE0, cE0, AE1, cE1, AE2, cE2, ⟨he0, he1, he2⟩, trivial, hr0, hr1, hr2⟩ (Below.refl _ _) h).mono ?_
 rintro e w' ⟨rfl, _, hb, _⟩
 exact ⟨rfl, hb⟩


/-! ### spec_l19AddLine: function 73 -/
open Go.Proofs.YtcenjcgfdghfnaaDoorW.Hand
def spec_l19AddLine.f (k : Nat) (f0 : List S64) (f1 : List ByteArray) (f2 : List S67) (a : ByteArray) : Option (List ByteArray × Int) :=
 (spec_IsName.f k a).bind fun t => if t = true then ((spec_l19Line.f k f0 f1 f2 a).bind fun u => if u = true then some (f1, 5) else if (f1.length : Int) ≥ 60 then some (f1, 8) else if f1.length < 1000 then some (f1 ++ [a], 0) else none) else some (f1, 3)
set_option maxRecDepth 100000 in
set_option maxHeartbeats 4000000 in
theorem spec_l19AddLine.calls (k base : Nat) (g : Nat) (f0 : List S64) (f1 : List ByteArray) (f2 : List S67) (a : ByteArray) (q : List ByteArray) (r : Int) (w : World) (hI : RigOwn base w g f0 f1 f2) (h : spec_l19AddLine.f k f0 f1 f2 a = some (q, r)) :
  Calls Tryd.prog 73 #[.pointer (some ⟨g, 0, none⟩), .string a] w fun e w' => e = .returned (.int .i64 r) ∧ RigOwn base w' g f0 q f2 ∧ Below base w w' := by
 obtain ⟨A0, c0, A1, c1, A2, c2, hI⟩ := hI
 have HI := Aside0.mk hI
 have hB0 := hI.lt
 clear hI
 unfold spec_l19AddLine.f at h
 obtain ⟨t, ht, h⟩ := Option.bind_eq_some_iff.mp h
 have HT := Aside0.mk ht
 clear ht
 go_enter Tryd.func73, Tryd.ntmps73
 go_upto_if 5 with (go_at_call 93; refine (spec_IsName.calls k a t w HT.out).mono ?_; rintro e w1 ⟨rfl, hb1⟩; have HI1 := Aside0.mk (HI.out.step hb1.below); have HB1 := Aside0.mk (below_mono hb1.below hB0); clear hb1)
 cases t with
 | false =>
  simp only [Bool.false_eq_true, if_false, Option.some.injEq, Prod.mk.injEq] at h
  obtain ⟨rfl, rfl⟩ := h
  go_wp2_with fail
  go_ret
  exact ⟨rfl, HI1.out.own, HB1.out⟩
 | true =>
  simp only [if_true] at h
  obtain ⟨u, hu, h⟩ := Option.bind_eq_some_iff.mp h
  have HU := Aside0.mk hu
  clear hu
  have x1 := HI1.out.c1
  have hB1 := HI1.out.lt
  go_upto_if 9 with (go_at_call 95; refine (spec_l19Line.callsE k ⟨g, 0, none⟩ f0 f1 f2 A0 c0 A1 c1 A2 c2 a u w1 HI1.out.c0 HI1.out.c1 HI1.out.c2 (Kd.R_reads' HI1.out.r0).2.2 (Kd.R_reads' HI1.out.r1).2.2 (Kd.R_reads' HI1.out.r2).2.2 HU.out).mono ?_; rintro e w2 ⟨rfl, hb2⟩; have HI2 := Aside0.mk (HI1.out.step hb2); have HB2 := Aside0.mk (below_trans HB1.out (below_mono hb2 hB1)); clear hb2)
  cases u with
  | true =>
   simp only [if_true, Option.some.injEq, Prod.mk.injEq] at h
   obtain ⟨rfl, rfl⟩ := h
   go_wp2_with fail
   go_ret
   exact ⟨rfl, HI2.out.own, HB2.out⟩
  | false =>
   simp only [Bool.false_eq_true, if_false] at h
   clear x1
   have x2 := HI2.out.c1
   by_cases hf : (f1.length : Int) ≥ 60
   ·rw [if_pos hf] at h
    simp only [Option.some.injEq, Prod.mk.injEq] at h
    obtain ⟨rfl, rfl⟩ := h
    have hfd : decide ((f1.length : Int) ≥ 60) = true := decide_eq_true hf
    have hfe : decide ((60 : Int) ≤ (f1.length : Int)) = true := hfd
    go_wp2_with fail
    go_ret
    exact ⟨rfl, HI2.out.own, HB2.out⟩
   ·rw [if_neg hf] at h
    have hfd : decide ((f1.length : Int) ≥ 60) = false := decide_eq_false hf
    have hfe : decide ((60 : Int) ≤ (f1.length : Int)) = false := hfd
    by_cases hl : f1.length < 1000
    ·rw [if_pos hl] at h
     simp only [Option.some.injEq, Prod.mk.injEq] at h
     obtain ⟨rfl, rfl⟩ := h
     have HLM := Aside0.mk hl
     clear hf hl
     go_wp2_with (first
      | ((with_reducible refine gate_builtin (b := .append) (xs := #[.tmp 24, .tmp 26]) rfl ?_); at_builtin; refine Kd.R_append Kd.string (w0 := w) base rfl (.tmp 24) (.tmp 26) 23 9 (.string ⟨#[]⟩) 16 rfl Tryd.underlying23 info9 rfl (by decide) (by omega) (.slice A1 f1.length c1) f1 a [.string a] (fun _ => True) (fun _ => False) rfl rfl ?aP (fun _ hk => hk.elim) ?aF ?aO ?aB ?aS ?aL ?_; (case aP => exact rfl); (case aB => exact HB2.out); (case aF => exact (fun _ _ => trivial)); (case aO => exact HI2.out.r1); (case aS => exact HI2.out.lt); (case aL => have := HLM.out; omega); intro v3 w3 ho hb hg hat; obtain ⟨A3, c3, e3⟩ := Kd.R_slice ho; subst e3; have hP := HI2.out.put1 hg ho; have fz := hP.1.1; have xz := hP.1.2; have HP := Aside0.mk hP.2; have HB3 := Aside0.mk hb; have hB3 := Nat.le_trans hB0 hb.size; clear x2 ho hb hg hat hP)
      | (refine hand_store (fun w4 => RigOwn base w4 g f0 (f1 ++ [a]) f2 ∧ Below base w w4) (t := 23) (p := 29) (v := .tmp 27) (w1 := w3.setCell ⟨g, 1, none⟩ (.slice A3 (f1 ++ [a]).length c3)) ?hg4 rfl ?hN4 ?hr4 ?hF4 ?_; (case hg4 => rfl); (case hN4 => rfl); (case hr4 => first | (go_simp; done) | (go_simp; rfl)); (case hF4 => exact ⟨HP.out.own, HB3.out.setCell HI.out.ge _⟩); clear fz xz; rintro w4 ⟨hI4, hB4⟩; have HI4 := Aside0.mk hI4; have HB4 := Aside0.mk hB4; clear hI4 hB4))
     go_ret
     exact ⟨rfl, HI4.out, HB4.out⟩
    ·rw [if_neg hl] at h
     exact absurd h (by simp)


/-! ### spec_l19Of: function 96 -/
def spec_l19Of.l0 : Nat → ByteArray → Int → List (S64) → List ByteArray → List (S67) → Option (Int)
 | 0, _, _, _, _, _ => none
 | k + 1, x1, x5, x1000, x1001, x1002 => if x5 < (x1002.length : Int) then (if 0 ≤ x5 then (if ((rd_T67 x1002 x5).f0).toList = x1.toList then (some x5) else (spec_l19Of.l0 k x1 (wrap64 (x5 + 1)) x1000 x1001 x1002)) else (none)) else (some (-1))
def spec_l19Of.f (k : Nat) (s0_0 : List (S64)) (s0_1 : List ByteArray) (s0_2 : List (S67)) (a1 : ByteArray) : Option (Int) := spec_l19Of.l0 k a1 0 s0_0 s0_1 s0_2
set_option maxHeartbeats 8000000 in
set_option maxRecDepth 100000 in
theorem spec_l19Of.calls0 (k : Nat) (g o : Nat) (z : Option Nat) (s0_0 : List (S64)) (s0_1 : List ByteArray) (s0_2 : List (S67)) (a1 : ByteArray) (r : Int) (w0 w : World) (hI : IsE32 w0 w g o z s0_0 s0_1 s0_2) (hB : Below w0.heap.size w0 w) (h : spec_l19Of.f k s0_0 s0_1 s0_2 a1 = some r) :
  Calls Tryd.prog 96 #[.pointer (some ⟨g, o, z⟩), .string a1] w fun e w' => e = .returned (.int .i64 r) ∧ IsE32 w0 w' g o z s0_0 s0_1 s0_2 ∧ Below w0.heap.size w0 w' ∧ KeepBut w w' w.heap.size none := by
 have HI0 := Aside0.mk hI
 have HK := Aside0.mk (KeepBut.refl w w.heap.size none)
 have HL := Aside0.mk hB.size
 clear hI
 have HW0 := Aside0.mk hB.size
 have HB := Aside0.mk hB
 clear hB
 have H : (spec_l19Of.l0 k a1 0 s0_0 s0_1 s0_2) = some r := h
 clear h
 have H' := Aside0.mk H
 clear H
 go_enter Tryd.func96, Tryd.ntmps96
 go_wp2
 go_loopg [5] k (fun kq v5 w' => ∃ (x5_1 : Int), v5 = .int .i64 x5_1 ∧ Aside0 (spec_l19Of.l0 kq a1 x5_1 s0_0 s0_1 s0_2 = some r) ∧ Aside0 (kq ≤ k) ∧ Aside0 (IsE32 w0 w' g o z s0_0 s0_1 s0_2) ∧ Aside0 (KeepBut w w' w.heap.size none) ∧ Aside0 (Below w0.heap.size w0 w'))
 case atStart => exact ⟨(0), (by first | rfl | (simp; done) | (simp [*]; done)), H', ⟨Nat.le_refl _⟩, ⟨by repeat (first | (with_reducible first | exact HI0.out | apply IsE32.alloc | apply IsE32.drewN | apply IsE32.drew) | exact HI0.out)⟩, ⟨by repeat (first | (with_reducible first | exact HK.out | apply keep_drewN | apply keep_drew | apply keep_alloc) | exact HK.out)⟩, ⟨hb_⟩⟩
 case round =>
  clear H'
  try clear p2
  obtain ⟨x5_1, rfl, HA, HK1, HI0, HK, HB⟩ := hrel
  cases gk with
  | zero => exact absurd HA.out (by simp [spec_l19Of.l0])
  | succ k1 =>
   have H := HA.out
   clear HA
   simp only [spec_l19Of.l0] at H
   by_cases c3 : x5_1 < (s0_2.length : Int)
   ·rw [if_pos c3] at H
    have c3b0 : decide (x5_1 < (s0_2.length : Int)) = true := decide_eq_true c3
    clear c3
    by_cases c4 : 0 ≤ x5_1
    ·rw [if_pos c4] at H
     have c4b0 : decide (0 ≤ x5_1) = true := decide_eq_true c4
     clear c4
     by_cases c5 : ((rd_T67 s0_2 x5_1).f0).toList = a1.toList
     ·rw [if_pos c5] at H
      have c5b0 : (((rd_T67 s0_2 x5_1).f0).toList == a1.toList) = true := beq_iff_eq.mpr c5
      have c5b1 : (((rd_T67 s0_2 x5_1).f0).toList != a1.toList) = false := bne_eq_false_iff_eq.mpr c5
      clear c5
      obtain rfl := Option.some.inj H
      obtain ⟨ASz6_0, cSz6_0, ASz6_1, cSz6_1, ASz6_2, cSz6_2, HGz6, hgz6, HSz6_0, HSz6_1, HSz6_2⟩ := HI0.out
      have hcz6_0 := cellE32_0 HGz6
      have hcz6_1 := cellE32_1 HGz6
      have hcz6_2 := cellE32_2 HGz6
      clear HGz6 hgz6
      have p127 : 0 ≤ (x5_1 : Int) := od_
      have q127 : x5_1 < (s0_2.length : Int) := od_
      obtain ⟨ad127, e127, hx127_0, hx127_1, hx127_2⟩ := at_T67 HSz6_2 x5_1 p127 q127
      cases e127
      replace hx127_0 := pw_cell_below HB.out hx127_0
      replace hx127_1 := pw_cell_below HB.out hx127_1
      replace hx127_2 := pw_cell_below HB.out hx127_2
      replace p127 := eq_true p127
      replace q127 := eq_true q127
      go_wp2
      go_ret
      exact ⟨ew_, by repeat (first | (with_reducible first | exact HI0.out | apply IsE32.alloc | apply IsE32.drewN | apply IsE32.drew) | exact HI0.out), hb_, by repeat (first | (with_reducible first | exact HK.out | apply keep_drewN | apply keep_drew | apply keep_alloc) | exact HK.out)⟩
     ·rw [if_neg c5] at H
      have c5b0 : (((rd_T67 s0_2 x5_1).f0).toList == a1.toList) = false := beq_eq_false_iff_ne.mpr c5
      have c5b1 : (((rd_T67 s0_2 x5_1).f0).toList != a1.toList) = true := bne_iff_ne.mpr c5
      have H' := Aside0.mk H
      clear H
      obtain ⟨ASz7_0, cSz7_0, ASz7_1, cSz7_1, ASz7_2, cSz7_2, HGz7, hgz7, HSz7_0, HSz7_1, HSz7_2⟩ := HI0.out
      have hcz7_0 := cellE32_0 HGz7
      have hcz7_1 := cellE32_1 HGz7
      have hcz7_2 := cellE32_2 HGz7
      clear HGz7 hgz7
      have p127 : 0 ≤ (x5_1 : Int) := od_
      have q127 : x5_1 < (s0_2.length : Int) := od_
      obtain ⟨ad127, e127, hx127_0, hx127_1, hx127_2⟩ := at_T67 HSz7_2 x5_1 p127 q127
      cases e127
      replace hx127_0 := pw_cell_below HB.out hx127_0
      replace hx127_1 := pw_cell_below HB.out hx127_1
      replace hx127_2 := pw_cell_below HB.out hx127_2
      replace p127 := eq_true p127
      replace q127 := eq_true q127
      go_wp2
      go_roundg k1
      case measure => have := HK1.out; omega
      case rel => exact ⟨(wrap64 (x5_1 + 1)), (by first | rfl | (simp; done) | (simp [*]; done)), H', ⟨by have := HK1.out; omega⟩, ⟨by repeat (first | (with_reducible first | exact HI0.out | apply IsE32.alloc | apply IsE32.drewN | apply IsE32.drew) | exact HI0.out)⟩, ⟨by repeat (first | (with_reducible first | exact HK.out | apply keep_drewN | apply keep_drew | apply keep_alloc) | exact HK.out)⟩, ⟨hb_⟩⟩
    ·rw [if_neg c4] at H
     exact absurd H (by simp)
   ·rw [if_neg c3] at H
    have c3b0 : decide (x5_1 < (s0_2.length : Int)) = false := decide_eq_false c3
    clear c3
    obtain rfl := Option.some.inj H
    obtain ⟨ASz8_0, cSz8_0, ASz8_1, cSz8_1, ASz8_2, cSz8_2, HGz8, hgz8, HSz8_0, HSz8_1, HSz8_2⟩ := HI0.out
    have hcz8_0 := cellE32_0 HGz8
    have hcz8_1 := cellE32_1 HGz8
    have hcz8_2 := cellE32_2 HGz8
    clear HGz8 hgz8
    go_wp2
    go_ret
    exact ⟨ew_, by repeat (first | (with_reducible first | exact HI0.out | apply IsE32.alloc | apply IsE32.drewN | apply IsE32.drew) | exact HI0.out), hb_, by repeat (first | (with_reducible first | exact HK.out | apply keep_drewN | apply keep_drew | apply keep_alloc) | exact HK.out)⟩
theorem spec_l19Of.callsE (k : Nat) (g : Addr) (s0_0 : List (S64)) (s0_1 : List ByteArray) (s0_2 : List (S67)) (AE0 : Option Addr) (cE0 : Nat) (AE1 : Option Addr) (cE1 : Nat) (AE2 : Option Addr) (cE2 : Nat) (a1 : ByteArray) (r : Int) (w : World) (he0 : w.cell? g = some (.slice AE0 s0_0.length cE0)) (he1 : w.cell? ⟨g.block, g.off + 1, none⟩ = some (.slice AE1 s0_1.length cE1)) (he2 : w.cell? ⟨g.block, g.off + 2, none⟩ = some (.slice AE2 s0_2.length cE2)) (hr0 : Kd.C k64 w AE0 s0_0.length s0_0) (hr1 : Kd.C Kd.string w AE1 s0_1.length s0_1) (hr2 : Kd.C k67 w AE2 s0_2.length s0_2) (h : spec_l19Of.f k s0_0 s0_1 s0_2 a1 = some r) :
  Calls Tryd.prog 96 #[.pointer (some g), .string a1] w fun e w' => e = .returned (.int .i64 r) ∧ Below w.heap.size w w' := by
 refine (spec_l19Of.calls0 k g.block g.off g.spot s0_0 s0_1 s0_2 a1 r w w ⟨AE0, cE0, AE1, cE1, AE2, cE2, ⟨he0, he1, he2⟩, trivial, hr0, hr1, hr2⟩ (Below.refl _ _) h).mono ?_
 rintro e w' ⟨rfl, _, hb, _⟩
 exact ⟨rfl, hb⟩


/-! ### spec_l19At: function 97 -/
def spec_l19At.l0 : Nat → ByteArray → Int → Int → List (S64) → List ByteArray → List (S67) → Option (Int)
 | 0, _, _, _, _, _, _ => none
 | k + 1, x1, x2, x7, x1000, x1001, x1002 => if x7 < (x1002.length : Int) then (if 0 ≤ x7 then (if ((rd_T67 x1002 x7).f1).toList = x1.toList then (if ((rd_T67 x1002 x7).f2) = x2 then (some x7) else (spec_l19At.l0 k x1 x2 (wrap64 (x7 + 1)) x1000 x1001 x1002)) else (spec_l19At.l0 k x1 x2 (wrap64 (x7 + 1)) x1000 x1001 x1002)) else (none)) else (some (-1))
def spec_l19At.f (k : Nat) (s0_0 : List (S64)) (s0_1 : List ByteArray) (s0_2 : List (S67)) (a1 : ByteArray) (a2 : Int) : Option (Int) := spec_l19At.l0 k a1 a2 0 s0_0 s0_1 s0_2
set_option maxHeartbeats 8000000 in
set_option maxRecDepth 100000 in
theorem spec_l19At.calls0 (k : Nat) (g o : Nat) (z : Option Nat) (s0_0 : List (S64)) (s0_1 : List ByteArray) (s0_2 : List (S67)) (a1 : ByteArray) (a2 : Int) (r : Int) (w0 w : World) (hI : IsE32 w0 w g o z s0_0 s0_1 s0_2) (hB : Below w0.heap.size w0 w) (h : spec_l19At.f k s0_0 s0_1 s0_2 a1 a2 = some r) :
  Calls Tryd.prog 97 #[.pointer (some ⟨g, o, z⟩), .string a1, .int .i64 a2] w fun e w' => e = .returned (.int .i64 r) ∧ IsE32 w0 w' g o z s0_0 s0_1 s0_2 ∧ Below w0.heap.size w0 w' ∧ KeepBut w w' w.heap.size none := by
 have HI0 := Aside0.mk hI
 have HK := Aside0.mk (KeepBut.refl w w.heap.size none)
 have HL := Aside0.mk hB.size
 clear hI
 have HW0 := Aside0.mk hB.size
 have HB := Aside0.mk hB
 clear hB
 have H : (spec_l19At.l0 k a1 a2 0 s0_0 s0_1 s0_2) = some r := h
 clear h
 have H' := Aside0.mk H
 clear H
 go_enter Tryd.func97, Tryd.ntmps97
 go_wp2
 go_loopg [7] k (fun kq v7 w' => ∃ (x7_1 : Int), v7 = .int .i64 x7_1 ∧ Aside0 (spec_l19At.l0 kq a1 a2 x7_1 s0_0 s0_1 s0_2 = some r) ∧ Aside0 (kq ≤ k) ∧ Aside0 (IsE32 w0 w' g o z s0_0 s0_1 s0_2) ∧ Aside0 (KeepBut w w' w.heap.size none) ∧ Aside0 (Below w0.heap.size w0 w'))
 case atStart => exact ⟨(0), (by first | rfl | (simp; done) | (simp [*]; done)), H', ⟨Nat.le_refl _⟩, ⟨by repeat (first | (with_reducible first | exact HI0.out | apply IsE32.alloc | apply IsE32.drewN | apply IsE32.drew) | exact HI0.out)⟩, ⟨by repeat (first | (with_reducible first | exact HK.out | apply keep_drewN | apply keep_drew | apply keep_alloc) | exact HK.out)⟩, ⟨hb_⟩⟩
 case round =>
  clear H'
  try clear p2
  obtain ⟨x7_1, rfl, HA, HK1, HI0, HK, HB⟩ := hrel
  cases gk with
  | zero => exact absurd HA.out (by simp [spec_l19At.l0])
  | succ k1 =>
   have H := HA.out
   clear HA
   simp only [spec_l19At.l0] at H
   by_cases c4 : x7_1 < (s0_2.length : Int)
   ·rw [if_pos c4] at H
    have c4b0 : decide (x7_1 < (s0_2.length : Int)) = true := decide_eq_true c4
    clear c4
    by_cases c5 : 0 ≤ x7_1
    ·rw [if_pos c5] at H
     have c5b0 : decide (0 ≤ x7_1) = true := decide_eq_true c5
     clear c5
     by_cases c6 : ((rd_T67 s0_2 x7_1).f1).toList = a1.toList
     ·rw [if_pos c6] at H
      have c6b0 : (((rd_T67 s0_2 x7_1).f1).toList == a1.toList) = true := beq_iff_eq.mpr c6
      have c6b1 : (((rd_T67 s0_2 x7_1).f1).toList != a1.toList) = false := bne_eq_false_iff_eq.mpr c6
      clear c6
      by_cases c7 : ((rd_T67 s0_2 x7_1).f2) = a2
      ·rw [if_pos c7] at H
       have c7b0 : (((rd_T67 s0_2 x7_1).f2) == a2) = true := beq_iff_eq.mpr c7
       have c7b1 : (((rd_T67 s0_2 x7_1).f2) != a2) = false := bne_eq_false_iff_eq.mpr c7
       clear c7
       obtain rfl := Option.some.inj H
       obtain ⟨ASz8_0, cSz8_0, ASz8_1, cSz8_1, ASz8_2, cSz8_2, HGz8, hgz8, HSz8_0, HSz8_1, HSz8_2⟩ := HI0.out
       have hcz8_0 := cellE32_0 HGz8
       have hcz8_1 := cellE32_1 HGz8
       have hcz8_2 := cellE32_2 HGz8
       clear HGz8 hgz8
       have p128 : 0 ≤ (x7_1 : Int) := od_
       have q128 : x7_1 < (s0_2.length : Int) := od_
       obtain ⟨ad128, e128, hx128_0, hx128_1, hx128_2⟩ := at_T67 HSz8_2 x7_1 p128 q128
       cases e128
       replace hx128_0 := pw_cell_below HB.out hx128_0
       replace hx128_1 := pw_cell_below HB.out hx128_1
       replace hx128_2 := pw_cell_below HB.out hx128_2
       replace p128 := eq_true p128
       replace q128 := eq_true q128
       have p129 : 0 ≤ (x7_1 : Int) := od_
       have q129 : x7_1 < (s0_2.length : Int) := od_
       obtain ⟨ad129, e129, hx129_0, hx129_1, hx129_2⟩ := at_T67 HSz8_2 x7_1 p129 q129
       obtain rfl : ad128 = ad129 := (by injection e129)
       replace hx129_0 := pw_cell_below HB.out hx129_0
       replace hx129_1 := pw_cell_below HB.out hx129_1
       replace hx129_2 := pw_cell_below HB.out hx129_2
       replace p129 := eq_true p129
       replace q129 := eq_true q129
       go_wp2
       go_ret
       exact ⟨ew_, by repeat (first | (with_reducible first | exact HI0.out | apply IsE32.alloc | apply IsE32.drewN | apply IsE32.drew) | exact HI0.out), hb_, by repeat (first | (with_reducible first | exact HK.out | apply keep_drewN | apply keep_drew | apply keep_alloc) | exact HK.out)⟩
      ·rw [if_neg c7] at H
       have c7b0 : (((rd_T67 s0_2 x7_1).f2) == a2) = false := beq_eq_false_iff_ne.mpr c7
       have c7b1 : (((rd_T67 s0_2 x7_1).f2) != a2) = true := bne_iff_ne.mpr c7
       have H' := Aside0.mk H
       clear H
       obtain ⟨ASz9_0, cSz9_0, ASz9_1, cSz9_1, ASz9_2, cSz9_2, HGz9, hgz9, HSz9_0, HSz9_1, HSz9_2⟩ := HI0.out
       have hcz9_0 := cellE32_0 HGz9
       have hcz9_1 := cellE32_1 HGz9
       have hcz9_2 := cellE32_2 HGz9
       clear HGz9 hgz9
       have p128 : 0 ≤ (x7_1 : Int) := od_
       have q128 : x7_1 < (s0_2.length : Int) := od_
       obtain ⟨ad128, e128, hx128_0, hx128_1, hx128_2⟩ := at_T67 HSz9_2 x7_1 p128 q128
       cases e128
       replace hx128_0 := pw_cell_below HB.out hx128_0
       replace hx128_1 := pw_cell_below HB.out hx128_1
       replace hx128_2 := pw_cell_below HB.out hx128_2
       replace p128 := eq_true p128
       replace q128 := eq_true q128
       have p129 : 0 ≤ (x7_1 : Int) := od_
       have q129 : x7_1 < (s0_2.length : Int) := od_
       obtain ⟨ad129, e129, hx129_0, hx129_1, hx129_2⟩ := at_T67 HSz9_2 x7_1 p129 q129
       obtain rfl : ad128 = ad129 := (by injection e129)
       replace hx129_0 := pw_cell_below HB.out hx129_0
       replace hx129_1 := pw_cell_below HB.out hx129_1
       replace hx129_2 := pw_cell_below HB.out hx129_2
       replace p129 := eq_true p129
       replace q129 := eq_true q129
       go_wp2
       go_roundg k1
       case measure => have := HK1.out; omega
       case rel => exact ⟨(wrap64 (x7_1 + 1)), (by first | rfl | (simp; done) | (simp [*]; done)), H', ⟨by have := HK1.out; omega⟩, ⟨by repeat (first | (with_reducible first | exact HI0.out | apply IsE32.alloc | apply IsE32.drewN | apply IsE32.drew) | exact HI0.out)⟩, ⟨by repeat (first | (with_reducible first | exact HK.out | apply keep_drewN | apply keep_drew | apply keep_alloc) | exact HK.out)⟩, ⟨hb_⟩⟩
     ·rw [if_neg c6] at H
      have c6b0 : (((rd_T67 s0_2 x7_1).f1).toList == a1.toList) = false := beq_eq_false_iff_ne.mpr c6
      have c6b1 : (((rd_T67 s0_2 x7_1).f1).toList != a1.toList) = true := bne_iff_ne.mpr c6
      have H' := Aside0.mk H
      clear H
      obtain ⟨ASz10_0, cSz10_0, ASz10_1, cSz10_1, ASz10_2, cSz10_2, HGz10, hgz10, HSz10_0, HSz10_1, HSz10_2⟩ := HI0.out
      have hcz10_0 := cellE32_0 HGz10
      have hcz10_1 := cellE32_1 HGz10
      have hcz10_2 := cellE32_2 HGz10
      clear HGz10 hgz10
      have p128 : 0 ≤ (x7_1 : Int) := od_
      have q128 : x7_1 < (s0_2.length : Int) := od_
      obtain ⟨ad128, e128, hx128_0, hx128_1, hx128_2⟩ := at_T67 HSz10_2 x7_1 p128 q128
      cases e128
      replace hx128_0 := pw_cell_below HB.out hx128_0
      replace hx128_1 := pw_cell_below HB.out hx128_1
      replace hx128_2 := pw_cell_below HB.out hx128_2
      replace p128 := eq_true p128
      replace q128 := eq_true q128
      go_wp2
      go_roundg k1
      case measure => have := HK1.out; omega
      case rel => exact ⟨(wrap64 (x7_1 + 1)), (by first | rfl | (simp; done) | (simp [*]; done)), H', ⟨by have := HK1.out; omega⟩, ⟨by repeat (first | (with_reducible first | exact HI0.out | apply IsE32.alloc | apply IsE32.drewN | apply IsE32.drew) | exact HI0.out)⟩, ⟨by repeat (first | (with_reducible first | exact HK.out | apply keep_drewN | apply keep_drew | apply keep_alloc) | exact HK.out)⟩, ⟨hb_⟩⟩
    ·rw [if_neg c5] at H
     exact absurd H (by simp)
   ·rw [if_neg c4] at H
    have c4b0 : decide (x7_1 < (s0_2.length : Int)) = false := decide_eq_false c4
    clear c4
    obtain rfl := Option.some.inj H
    obtain ⟨ASz11_0, cSz11_0, ASz11_1, cSz11_1, ASz11_2, cSz11_2, HGz11, hgz11, HSz11_0, HSz11_1, HSz11_2⟩ := HI0.out
    have hcz11_0 := cellE32_0 HGz11
    have hcz11_1 := cellE32_1 HGz11
    have hcz11_2 := cellE32_2 HGz11
    clear HGz11 hgz11
    go_wp2
    go_ret
    exact ⟨ew_, by repeat (first | (with_reducible first | exact HI0.out | apply IsE32.alloc | apply IsE32.drewN | apply IsE32.drew) | exact HI0.out), hb_, by repeat (first | (with_reducible first | exact HK.out | apply keep_drewN | apply keep_drew | apply keep_alloc) | exact HK.out)⟩
theorem spec_l19At.callsE (k : Nat) (g : Addr) (s0_0 : List (S64)) (s0_1 : List ByteArray) (s0_2 : List (S67)) (AE0 : Option Addr) (cE0 : Nat) (AE1 : Option Addr) (cE1 : Nat) (AE2 : Option Addr) (cE2 : Nat) (a1 : ByteArray) (a2 : Int) (r : Int) (w : World) (he0 : w.cell? g = some (.slice AE0 s0_0.length cE0)) (he1 : w.cell? ⟨g.block, g.off + 1, none⟩ = some (.slice AE1 s0_1.length cE1)) (he2 : w.cell? ⟨g.block, g.off + 2, none⟩ = some (.slice AE2 s0_2.length cE2)) (hr0 : Kd.C k64 w AE0 s0_0.length s0_0) (hr1 : Kd.C Kd.string w AE1 s0_1.length s0_1) (hr2 : Kd.C k67 w AE2 s0_2.length s0_2) (h : spec_l19At.f k s0_0 s0_1 s0_2 a1 a2 = some r) :
  Calls Tryd.prog 97 #[.pointer (some g), .string a1, .int .i64 a2] w fun e w' => e = .returned (.int .i64 r) ∧ Below w.heap.size w w' := by
 refine (spec_l19At.calls0 k g.block g.off g.spot s0_0 s0_1 s0_2 a1 a2 r w w ⟨AE0, cE0, AE1, cE1, AE2, cE2, ⟨he0, he1, he2⟩, trivial, hr0, hr1, hr2⟩ (Below.refl _ _) h).mono ?_
 rintro e w' ⟨rfl, _, hb, _⟩
 exact ⟨rfl, hb⟩


/-! ### spec_l19AddBelay: function 74 -/
open Go.Proofs.YtcenjcgfdghfnaaDoorW.Hand
def spec_l19AddBelay.f (k : Nat) (f0 : List S64) (f1 : List ByteArray) (f2 : List S67) (a0 a1 : ByteArray) (a2 : Int) : Option (List S67 × Int) :=
 (spec_l19Rail.f k f0 f1 f2 a1).bind fun i => if i < 0 then some (f2, 6) else ((spec_l19Line.f k f0 f1 f2 a0).bind fun u => if u = true then (if i < (f0.length : Int) then ((spec_l00In.f a2 1 ((rd_T64 f0 i).f2)).bind fun p => if p = true then ((spec_l19Of.f k f0 f1 f2 a0).bind fun o => if o ≥ 0 then some (f2, 5) else ((spec_l19At.f k f0 f1 f2 a1 a2).bind fun z => if z ≥ 0 then some (f2, 7) else if f2.length < 3000000000 then some (f2 ++ [⟨a0, a1, a2⟩], 0) else none)) else some (f2, 4)) else none) else some (f2, 6))
def spec_l19AddBelay.T10 : Bool × List (List Nat × List Nat) := (true, [([], []), ([], []), ([1], [1]), ([2], [2]), ([3], [3]), ([], []), ([5], [5]), ([4, 6], [4, 6]), ([0, 0, 1, 2, 3, 4, 5, 6, 7], [0]), ([8, 0, 1, 2, 3, 4, 5, 6, 7], [8]), ([9, 7, 7, 0, 1, 2, 3, 4, 5, 6, 7], [7, 9])])
def spec_l19AddBelay.B10 : List Nat := [0, 0, 2, 6, 14, 0, 32, 126, 255, 511, 1023]
theorem spec_l19AddBelay.tab10 : rtab .any (opsOf Tryd.f74 10) = spec_l19AddBelay.T10 := by kernel_rfl
theorem spec_l19AddBelay.bits10 : waitsOk spec_l19AddBelay.T10.2 spec_l19AddBelay.B10 = true := by kernel_rfl
set_option maxRecDepth 100000 in
set_option maxHeartbeats 8000000 in
theorem spec_l19AddBelay.calls (k base : Nat) (g : Nat) (f0 : List S64) (f1 : List ByteArray) (f2 : List S67) (a0 a1 : ByteArray) (a2 : Int) (q : List S67) (r : Int) (w : World) (hI : RigOwn base w g f0 f1 f2) (h : spec_l19AddBelay.f k f0 f1 f2 a0 a1 a2 = some (q, r)) :
  Calls Tryd.prog 74 #[.pointer (some ⟨g, 0, none⟩), .agg #[.string a0, .string a1, .int .i64 a2]] w fun e w' => e = .returned (.int .i64 r) ∧ RigOwn base w' g f0 f1 q ∧ Below base w w' := by
 obtain ⟨A0, c0, A1, c1, A2, c2, hI⟩ := hI
 have HI := Aside0.mk hI
 have hB0 := hI.lt
 have hu := Tryd.underlying67
 clear hI
 unfold spec_l19AddBelay.f at h
 obtain ⟨i, ht, h⟩ := Option.bind_eq_some_iff.mp h
 have HT := Aside0.mk ht
 clear ht
 by_cases hi0 : i < 0
 ·rw [if_pos hi0] at h
  simp only [Option.some.injEq, Prod.mk.injEq] at h
  obtain ⟨rfl, rfl⟩ := h
  have hid : decide (i < 0) = true := decide_eq_true hi0
  clear hi0
  go_enter Tryd.func74, Tryd.ntmps74
  go_wp2_with (first | ((with_reducible refine gate_dst (N := 3) rfl ?_); refine hand_box (fun g_ W_ => RailSt base w W_ g g_ A0 c0 A1 c1 A2 c2 f0 f1 f2 #[.string a0, .string a1, .int .i64 a2] 67) ?hg (N := 3) ?hd (cs := #[.string a0, .string a1, .int .i64 a2]) (t := 67) ?hr ?hF ?_; (case hd => rfl); (case hg => rfl); (case hr => first | (go_simp; done) | (go_simp; rfl)); (case hF => exact ⟨HI.out.step (below_alloc (Below.refl _ _) _), heap_alloc_new _ _, (Below.refl base w).alloc hB0 _⟩); intro bl w1 hh; obtain ⟨z0, z1, z2⟩ := hh.s0; have HS1 := Aside0.mk hh; clear hh) | (go_at_call 94; refine (spec_l19Rail.callsE k ⟨g, 0, none⟩ f0 f1 f2 A0 c0 A1 c1 A2 c2 a1 i w1 HS1.out.rig.c0 HS1.out.rig.c1 HS1.out.rig.c2 (Kd.R_reads' HS1.out.rig.r0).2.2 (Kd.R_reads' HS1.out.rig.r1).2.2 (Kd.R_reads' HS1.out.rig.r2).2.2 HT.out).mono ?_; rintro e w2 ⟨rfl, hb2⟩; have HS2 := Aside0.mk (HS1.out.step hb2); clear hb2 z0 z1 z2; obtain ⟨z0, z1, z2⟩ := HS2.out.s0))
  go_ret
  exact ⟨rfl, HS2.out.rig.own, HS2.out.below⟩
 ·rw [if_neg hi0] at h
  obtain ⟨u, hu2, h⟩ := Option.bind_eq_some_iff.mp h
  have HU := Aside0.mk hu2
  have hid : decide (i < 0) = false := decide_eq_false hi0
  have hip : 0 ≤ i := by omega
  clear hu2 hi0
  go_enter Tryd.func74, Tryd.ntmps74
  go_upto_if 10 with (first | ((with_reducible refine gate_dst (N := 3) rfl ?_); refine hand_box (fun g_ W_ => RailSt base w W_ g g_ A0 c0 A1 c1 A2 c2 f0 f1 f2 #[.string a0, .string a1, .int .i64 a2] 67) ?hg (N := 3) ?hd (cs := #[.string a0, .string a1, .int .i64 a2]) (t := 67) ?hr ?hF ?_; (case hd => rfl); (case hg => rfl); (case hr => first | (go_simp; done) | (go_simp; rfl)); (case hF => exact ⟨HI.out.step (below_alloc (Below.refl _ _) _), heap_alloc_new _ _, (Below.refl base w).alloc hB0 _⟩); intro bl w1 hh; obtain ⟨z0, z1, z2⟩ := hh.s0; have HS1 := Aside0.mk hh; clear hh) | (go_at_call 94; refine (spec_l19Rail.callsE k ⟨g, 0, none⟩ f0 f1 f2 A0 c0 A1 c1 A2 c2 a1 i w1 HS1.out.rig.c0 HS1.out.rig.c1 HS1.out.rig.c2 (Kd.R_reads' HS1.out.rig.r0).2.2 (Kd.R_reads' HS1.out.rig.r1).2.2 (Kd.R_reads' HS1.out.rig.r2).2.2 HT.out).mono ?_; rintro e w2 ⟨rfl, hb2⟩; have HS2 := Aside0.mk (HS1.out.step hb2); clear hb2 z0 z1 z2; obtain ⟨z0, z1, z2⟩ := HS2.out.s0) | (go_at_call 95; refine (spec_l19Line.callsE k ⟨g, 0, none⟩ f0 f1 f2 A0 c0 A1 c1 A2 c2 a0 u w2 HS2.out.rig.c0 HS2.out.rig.c1 HS2.out.rig.c2 (Kd.R_reads' HS2.out.rig.r0).2.2 (Kd.R_reads' HS2.out.rig.r1).2.2 (Kd.R_reads' HS2.out.rig.r2).2.2 HU.out).mono ?_; rintro e w3 ⟨rfl, hb3⟩; have HS3 := Aside0.mk (HS2.out.step hb3); clear hb3 z0 z1 z2; obtain ⟨z0, z1, z2⟩ := HS3.out.s0))
  cases u with
  | false =>
   simp only [Bool.false_eq_true, if_false, Option.some.injEq, Prod.mk.injEq] at h
   obtain ⟨rfl, rfl⟩ := h
   go_wp2_with fail
   go_ret
   exact ⟨rfl, HS3.out.rig.own, HS3.out.below⟩
  | true =>
   simp only [if_true] at h
   by_cases hil : i < (f0.length : Int)
   rotate_left
   ·rw [if_neg hil] at h
    exact absurd h (by simp)
   rw [if_pos hil] at h
   obtain ⟨p, hp, h⟩ := Option.bind_eq_some_iff.mp h
   have HPN := Aside0.mk hp
   clear hp hid
   go_upto_region 4 with fail
   refine hand_tail 10 (fun W => RailSt base w W g bl A0 c0 A1 c1 A2 c2 f0 f1 f2 #[.string a0, .string a1, .int .i64 a2] 67) (by kernel_rfl) (by kernel_rfl) (HS3.out.step (below_drew (Below.refl _ _))) ?_
   clear z0 z1 z2
   rintro w31 hS
   obtain ⟨z0, z1, z2⟩ := hS.s0
   have x0 := hS.rig.c0
   have x1 := hS.rig.c1
   have x2 := hS.rig.c2
   obtain ⟨ad9, e9, hx0, hx1, hx2⟩ := at_T64 (Kd.R_reads' hS.rig.r0).2.2 i hip hil
   rw [e9] at x0
   have HS31 := Aside0.mk hS
   clear hS
   simp only [List.take_succ_cons, List.take_zero, List.drop_succ_cons, List.drop_zero]
   repeat still_step
   refine wpStill_nil ?_
   go_upto_if 20 with (go_at_call 65; refine (spec_l00In.calls a2 1 ((rd_T64 f0 i).f2) p w31 HPN.out).mono ?_; rintro e w4 ⟨rfl, hb4⟩; have HS4 := Aside0.mk (HS31.out.step hb4.below); clear hb4 z0 z1 z2 x0 x1 x2 hx0 hx1 hx2; obtain ⟨z0, z1, z2⟩ := HS4.out.s0)
   cases p with
   | false =>
    simp only [Bool.false_eq_true, if_false, Option.some.injEq, Prod.mk.injEq] at h
    obtain ⟨rfl, rfl⟩ := h
    go_wp2_with fail
    go_ret
    exact ⟨rfl, HS4.out.rig.own, HS4.out.below⟩
   | true =>
    simp only [if_true] at h
    obtain ⟨o, ho, h⟩ := Option.bind_eq_some_iff.mp h
    have HOF := Aside0.mk ho
    clear ho
    go_upto_if 33 with (go_at_call 96; refine (spec_l19Of.callsE k ⟨g, 0, none⟩ f0 f1 f2 A0 c0 A1 c1 A2 c2 a0 o w4 HS4.out.rig.c0 HS4.out.rig.c1 HS4.out.rig.c2 (Kd.R_reads' HS4.out.rig.r0).2.2 (Kd.R_reads' HS4.out.rig.r1).2.2 (Kd.R_reads' HS4.out.rig.r2).2.2 HOF.out).mono ?_; rintro e w5 ⟨rfl, hb5⟩; have HS5 := Aside0.mk (HS4.out.step hb5); clear hb5 z0 z1 z2; obtain ⟨z0, z1, z2⟩ := HS5.out.s0)
    by_cases ho0 : o ≥ 0
    ·rw [if_pos ho0] at h
     simp only [Option.some.injEq, Prod.mk.injEq] at h
     obtain ⟨rfl, rfl⟩ := h
     have hod : decide ((0 : Int) ≤ o) = true := decide_eq_true ho0
     go_wp2_with fail
     go_ret
     exact ⟨rfl, HS5.out.rig.own, HS5.out.below⟩
    ·rw [if_neg ho0] at h
     have hod : decide ((0 : Int) ≤ o) = false := decide_eq_false ho0
     obtain ⟨z, hz, h⟩ := Option.bind_eq_some_iff.mp h
     have HAT := Aside0.mk hz
     clear hz
     go_upto_if 39 with (go_at_call 97; refine (spec_l19At.callsE k ⟨g, 0, none⟩ f0 f1 f2 A0 c0 A1 c1 A2 c2 a1 a2 z w5 HS5.out.rig.c0 HS5.out.rig.c1 HS5.out.rig.c2 (Kd.R_reads' HS5.out.rig.r0).2.2 (Kd.R_reads' HS5.out.rig.r1).2.2 (Kd.R_reads' HS5.out.rig.r2).2.2 HAT.out).mono ?_; rintro e w6 ⟨rfl, hb6⟩; have HS6 := Aside0.mk (HS5.out.step hb6); clear hb6 z0 z1 z2; obtain ⟨z0, z1, z2⟩ := HS6.out.s0)
     by_cases hz0 : z ≥ 0
     ·rw [if_pos hz0] at h
      simp only [Option.some.injEq, Prod.mk.injEq] at h
      obtain ⟨rfl, rfl⟩ := h
      have hzd : decide ((0 : Int) ≤ z) = true := decide_eq_true hz0
      go_wp2_with fail
      go_ret
      exact ⟨rfl, HS6.out.rig.own, HS6.out.below⟩
     ·rw [if_neg hz0] at h
      have hzd : decide ((0 : Int) ≤ z) = false := decide_eq_false hz0
      by_cases hl : f2.length < 3000000000
      ·rw [if_pos hl] at h
       simp only [Option.some.injEq, Prod.mk.injEq] at h
       obtain ⟨rfl, rfl⟩ := h
       have HLM := Aside0.mk hl
       clear hl
       have y0 : w6.drew.cell? ⟨g, 2, none⟩ = some (.slice A2 f2.length c2) := HS6.out.rig.c2
       have z0 : w6.drew.cell? ⟨bl, 0, none⟩ = some (.string a0) := HS6.out.s0.1
       have z1 : w6.drew.cell? ⟨bl, 1, none⟩ = some (.string a1) := HS6.out.s0.2.1
       have z2 : w6.drew.cell? ⟨bl, 2, none⟩ = some (.int .i64 a2) := HS6.out.s0.2.2
       go_upto_region 10 with fail
       refine start_ (n := 11) (S := fun w' => w'.cell? ⟨g, 2, none⟩ = some (.slice A2 f2.length c2) ∧ w'.cell? ⟨bl, 0, none⟩ = some (.string a0) ∧ w'.cell? ⟨bl, 1, none⟩ = some (.string a1) ∧ w'.cell? ⟨bl, 2, none⟩ = some (.int .i64 a2)) (ds := [7, 10]) #[F_,F_,F_,F_,F_,F_,F_,F_,F_,F_,F_] (by kernel_rfl) rfl rfl ⟨y0, z0, z1, z2⟩ (fun hHeld => ?_); refine with_tabW spec_l19AddBelay.tab10 spec_l19AddBelay.bits10 (fun HT_ HW_ => ?_)
       generalize hW5 : w6.drew = W5 at hHeld y0 z0 z1 z2 ⊢
       have HS5 : Aside0 (RailSt base w W5 g bl A0 c0 A1 c1 A2 c2 f0 f1 f2 #[.string a0, .string a1, .int .i64 a2] 67) := ⟨by rw [← hW5]; exact HS6.out.step (below_drew (Below.refl _ _))⟩
       clear hW5
       refine pu (i := 0) (N := some 47) #[T_,F_,F_,F_,F_,F_,F_,F_,F_,F_,F_] HT_ ?_
       refine pu (i := 1) (N := some 48) #[T_,T_,F_,F_,F_,F_,F_,F_,F_,F_,F_] HT_ ?_
       refine pu (i := 2) (N := some 49) #[T_,T_,T_,F_,F_,F_,F_,F_,F_,F_,F_] HT_ ?_
       refine pu (i := 3) (N := some 50) #[T_,T_,T_,T_,F_,F_,F_,F_,F_,F_,F_] HT_ ?_
       refine take_ (i := 4) (N := some 51) (v := ?_) (a' := ?_) #[T_,T_,T_,T_,T_,F_,F_,F_,F_,F_,F_] rfl rfl (take_ofW HT_.out HW_.out (by kernel_rfl)) (fun _ _ _ h => h) (Or.inl ⟨by rfl, ?_⟩) hHeld ?_ ?_
       rotate_left
       ·rintro w' ⟨s0, s1, s2, s3⟩
        go_simp
        with_reducible rfl
       rotate_left
       ·simp only [Act.put, sT_, s0_, sS_, i64_w, i32_w]
        rfl
       refine take_ (i := 5) (N := some 52) (v := ?_) (a' := ?_) #[T_,T_,T_,T_,T_,T_,F_,F_,F_,F_,F_] rfl rfl (take_ofW HT_.out HW_.out (by kernel_rfl)) (fun _ _ _ h => h) (Or.inl ⟨by rfl, ?_⟩) hHeld ?_ ?_
       rotate_left
       ·rintro w' ⟨s0, s1, s2, s3⟩
        go_simp
        with_reducible rfl
       rotate_left
       ·simp only [Act.put, sT_, s0_, sS_, i64_w, i32_w]
        rfl
       refine one_ (i := 6) (N := (some 53)) #[T_,T_,T_,T_,T_,T_,T_,F_,F_,F_,F_] rfl rfl (one_of HT_.out (by kernel_rfl)) (by decide) (fun K hK => ?_)
       refine event_step (v := .slice (some ⟨W5.heap.size, 0, none⟩) 1 1) (w1 := W5.alloc (.cells #[.string a0, .string a1, .int .i64 a2] 67)) (by rfl) (by first | (go_simp; done) | (go_simp; rfl)) ?_
       refine hK.out _ _ ⟨pw_cell_below (below_alloc (Below.refl W5.heap.size W5) _) y0, pw_cell_below (below_alloc (Below.refl W5.heap.size W5) _) z0, pw_cell_below (below_alloc (Below.refl W5.heap.size W5) _) z1, pw_cell_below (below_alloc (Below.refl W5.heap.size W5) _) z2⟩ (fun hHeld => ?_)
       clear hK K
       refine norm_ (a' := ?_) ?_ ?_
       rotate_left
       ·show Act.put _ (some 53) _ = _
        simp only [Act.put, sT_, s0_, sS_, i64_w, i32_w]
        rfl
       refine last_ (i := 7) (N := (some 54)) #[T_,T_,T_,T_,T_,T_,T_,T_,F_,F_,F_] rfl rfl (one_of HT_.out (by kernel_rfl)) (by decide) (fun K hK => ?_)
       refine Kd.R_append_step k67 (w0 := w) base (by rfl) (.tmp 51) (.tmp 53) 30 67 (.agg #[(.string ⟨#[]⟩), (.string ⟨#[]⟩), (.int .i64 0)]) 40 rfl Tryd.underlying30 info67 rfl (by decide) (by decide) (.slice A2 f2.length c2) f2 (⟨a0, a1, a2⟩ : S67) [.string a0, .string a1, .int .i64 a2] (fun _ => True) (fun _ => False) rfl rfl (k67_mkM _ _ _ _) (fun _ hk => hk.elim) (fun _ _ => trivial) HS5.out.rig.r2 HS5.out.below HS5.out.rig.lt (by have := HLM.out; omega) ?_
       intro v6 w6 ho hb hg hat
       obtain ⟨A6, c6, e6⟩ := Kd.R_slice ho
       subst e6
       have hP := HS5.out.rig.put2 hg ho
       have HP := Aside0.mk hP
       have HB6 := Aside0.mk hb
       clear ho hb hg hat hP
       refine hK.out _ _ ?_
       clear hK K
       refine norm_ (a' := ?_) ?_ ?_
       rotate_left
       ·show Act.put _ (some 54) _ = _
        simp only [Act.put, sT_, s0_, sS_, i64_w, i32_w]
        rfl
       refine pu (i := 8) (N := some 55) #[T_,T_,T_,T_,T_,T_,T_,T_,T_,F_,F_] HT_ ?_
       refine pu (i := 9) (N := some 56) #[T_,T_,T_,T_,T_,T_,T_,T_,T_,T_,F_] HT_ ?_
       refine last_ (i := 10) (N := none) #[T_,T_,T_,T_,T_,T_,T_,T_,T_,T_,T_] rfl rfl (one_of HT_.out (by kernel_rfl)) (by decide) (fun K hK => ?_)
       refine skip_ (w1 := w6.setCell ⟨g, 2, none⟩ (.slice A6 (f2 ++ [(⟨a0, a1, a2⟩ : S67)]).length c6)) (by rfl) rfl ?_ ?_
       ·have fz := HP.out.1.1
        have xz := HP.out.1.2
        first | (go_simp; done) | (go_simp; rfl)
       refine hK.out _ _ ?_
       clear hK K
       refine done_ (done_of HT_.out (by kernel_rfl)) ?_
       obtain ⟨w7, hw7⟩ : ∃ w7, w7 = w6.setCell ⟨g, 2, none⟩ (.slice A6 (f2 ++ [(⟨a0, a1, a2⟩ : S67)]).length c6) := ⟨_, rfl⟩
       have HR7 : Aside0 (RigOwn base w7 g f0 f1 (f2 ++ [(⟨a0, a1, a2⟩ : S67)])) := ⟨by rw [hw7]; exact HP.out.2.own⟩
       have HB7 : Aside0 (Below base w w7) := ⟨by rw [hw7]; exact HB6.out.setCell HS5.out.rig.ge _⟩
       rw [← hw7]
       clear hw7 HP HB6 HS5 y0 z0 z1 z2
       go_wp2_with fail
       go_ret
       exact ⟨rfl, HR7.out, HB7.out⟩
      ·rw [if_neg hl] at h
       exact absurd h (by simp)


/-! ### spec_l19Ok: function 32 -/
open Go.Proofs.YtcenjcgfdghfnaaDoorW.Hand
/-- The rails, one after the other; none where one does not fit. -/
def spec_l19Ok.rails (k : Nat) : List S64 → List S64 → Option (Option (List S64))
 | [], b => some (some b)
 | x :: xs, b => (spec_l19AddRail.f k b [] [] x.f0 x.f1 x.f2).bind fun q => if q.2 = 0 then spec_l19Ok.rails k xs q.1 else some none
def spec_l19Ok.lines (k : Nat) (f0 : List S64) : List ByteArray → List ByteArray → Option (Option (List ByteArray))
 | [], b => some (some b)
 | x :: xs, b => (spec_l19AddLine.f k f0 b [] x).bind fun q => if q.2 = 0 then spec_l19Ok.lines k f0 xs q.1 else some none
def spec_l19Ok.belays (k : Nat) (f0 : List S64) (f1 : List ByteArray) : List S67 → List S67 → Option (Option (List S67))
 | [], b => some (some b)
 | x :: xs, b => (spec_l19AddBelay.f k f0 f1 b x.f0 x.f1 x.f2).bind fun q => if q.2 = 0 then spec_l19Ok.belays k f0 f1 xs q.1 else some none
def spec_l19Ok.f (k : Nat) (l0 : List S64) (l1 : List ByteArray) (l2 : List S67) : Option Bool :=
 (spec_l19Ok.rails k l0 []).bind fun o0 => match o0 with
  | none => some false
  | some b0 => (spec_l19Ok.lines k b0 l1 []).bind fun o1 => match o1 with
   | none => some false
   | some b1 => (spec_l19Ok.belays k b0 b1 l2 []).bind fun o2 => match o2 with
    | none => some false
    | some _ => some true
theorem spec_l19Ok.rails_step (k : Nat) (l : List S64) (j : Nat) (b : List S64) (h : j < l.length) : spec_l19Ok.rails k (l.drop j) b = (spec_l19AddRail.f k b [] [] (rd_T64 l j).f0 (rd_T64 l j).f1 (rd_T64 l j).f2).bind fun q => if q.2 = 0 then spec_l19Ok.rails k (l.drop (j + 1)) q.1 else some none := by
 have e : rd_T64 l (j : Int) = l[j] := by
  unfold rd_T64
  rw [Int.toNat_natCast, List.getD_eq_getElem?_getD, List.getElem?_eq_getElem h]
  rfl
 rw [List.drop_eq_getElem_cons h, spec_l19Ok.rails, e]
theorem spec_l19Ok.lines_step (k : Nat) (f0 : List S64) (l : List ByteArray) (j : Nat) (b : List ByteArray) (h : j < l.length) : spec_l19Ok.lines k f0 (l.drop j) b = (spec_l19AddLine.f k f0 b [] (rdOf ByteArray.empty l j)).bind fun q => if q.2 = 0 then spec_l19Ok.lines k f0 (l.drop (j + 1)) q.1 else some none := by
 have e : rdOf ByteArray.empty l (j : Int) = l[j] := by
  unfold rdOf
  rw [Int.toNat_natCast, List.getD_eq_getElem?_getD, List.getElem?_eq_getElem h]
  rfl
 rw [List.drop_eq_getElem_cons h, spec_l19Ok.lines, e]
theorem spec_l19Ok.belays_step (k : Nat) (f0 : List S64) (f1 : List ByteArray) (l : List S67) (j : Nat) (b : List S67) (h : j < l.length) : spec_l19Ok.belays k f0 f1 (l.drop j) b = (spec_l19AddBelay.f k f0 f1 b (rd_T67 l j).f0 (rd_T67 l j).f1 (rd_T67 l j).f2).bind fun q => if q.2 = 0 then spec_l19Ok.belays k f0 f1 (l.drop (j + 1)) q.1 else some none := by
 have e : rd_T67 l (j : Int) = l[j] := by
  unfold rd_T67
  rw [Int.toNat_natCast, List.getD_eq_getElem?_getD, List.getElem?_eq_getElem h]
  rfl
 rw [List.drop_eq_getElem_cons h, spec_l19Ok.belays, e]
set_option maxRecDepth 100000 in
set_option maxHeartbeats 8000000 in
theorem spec_l19Ok.core (k : Nat) (g : Nat) (A0 : Option Addr) (c0 : Nat) (l0 : List S64) (A1 : Option Addr) (c1 : Nat) (l1 : List ByteArray) (A2 : Option Addr) (c2 : Nat) (l2 : List S67) (r : Bool) (w : World) (hx0 : w.cell? ⟨g, 0, none⟩ = some (.slice A0 l0.length c0)) (hx1 : w.cell? ⟨g, 1, none⟩ = some (.slice A1 l1.length c1)) (hx2 : w.cell? ⟨g, 2, none⟩ = some (.slice A2 l2.length c2)) (hr0 : Kd.C k64 w A0 l0.length l0) (hr1 : Kd.C Kd.string w A1 l1.length l1) (hr2 : Kd.C k67 w A2 l2.length l2) (h : spec_l19Ok.f k l0 l1 l2 = some r) :
  Calls Tryd.prog 32 #[.pointer (some ⟨g, 0, none⟩)] w fun e w' => e = .returned (.bool r) ∧ Below w.heap.size w w' := by
 have hm0 := hr0.2.1
 have hm1 := hr1.2.1
 have hm2 := hr2.2.1
 have HR0 := Aside0.mk hr0
 have HR1 := Aside0.mk hr1
 have HR2 := Aside0.mk hr2
 have HX := Aside0.mk (And.intro hx0 (And.intro hx1 hx2))
 clear hx0 hx1 hx2
 have hu := Tryd.underlying32
 have hu3 := Tryd.underlying64
 have hu4 := Tryd.underlying67
 clear hr0 hr1 hr2
 unfold spec_l19Ok.f at h
 obtain ⟨o0, h0, hF⟩ := Option.bind_eq_some_iff.mp h
 have H0 := Aside0.mk h0
 have HF0 := Aside0.mk hF
 clear h0 hF h
 go_enter Tryd.func32, Tryd.ntmps32
 go_wp2_with (first | (go_at_call 41; refine (spec_l19Empty.calls [] [] [] w rfl).mono ?_; rintro e w1 ⟨v0, v1, v2, rfl, e0, e1, e2, hb⟩; obtain ⟨B0, d0, q0⟩ := Kd.R_slice e0; obtain ⟨B1, d1, q1⟩ := Kd.R_slice e1; obtain ⟨B2, d2, q2⟩ := Kd.R_slice e2; subst q0 q1 q2; have HE := Aside0.mk (And.intro e0 (And.intro e1 (And.intro e2 hb))); clear e0 e1 e2 hb) | ((with_reducible refine gate_dst (N := 3) rfl ?_); refine hand_box (fun g_ W_ => W_.heap[g_]? = some (.cells #[.slice none 0 0, .slice none 0 0, .slice none 0 0] 32 (0, 0)) ∧ w.heap.size ≤ g_ ∧ Below w.heap.size w W_ ∧ Kd.R k64 64 W_ w.heap.size (fun _ => True) (.slice B0 0 d0) [] ∧ Kd.R Kd.string 9 W_ w.heap.size (fun _ => True) (.slice B1 0 d1) [] ∧ Kd.R k67 67 W_ w.heap.size (fun _ => True) (.slice B2 0 d2) []) ?hg (N := 3) ?hd (cs := #[.slice none 0 0, .slice none 0 0, .slice none 0 0]) (t := 32) ?hr ?hF ?_; (case hd => rfl); (case hg => rfl); (case hr => first | (go_simp; done) | (go_simp; rfl)); (case hF => exact ⟨heap_alloc_new _ _, HE.out.2.2.2.size, HE.out.2.2.2.alloc HE.out.2.2.2.size _, Kd.R_below HE.out.1 (below_alloc (Below.refl _ _) _), Kd.R_below HE.out.2.1 (below_alloc (Below.refl _ _) _), Kd.R_below HE.out.2.2.1 (below_alloc (Below.refl _ _) _)⟩); intro bl w2 hh; have z0 : w2.cell? ⟨bl, 0, none⟩ = some (.slice none 0 0) := (blk_cell hh.1 0).trans rfl; have z1 : w2.cell? ⟨bl, 1, none⟩ = some (.slice none 0 0) := (blk_cell hh.1 1).trans rfl; have z2 : w2.cell? ⟨bl, 2, none⟩ = some (.slice none 0 0) := (blk_cell hh.1 2).trans rfl; have k0 := blk_frozen hh.1 0; have k1 := blk_frozen hh.1 1; have k2 := blk_frozen hh.1 2; have HZ := Aside0.mk hh; clear hh) | (refine hand_store (fun w' => Built w.heap.size w w' bl [] [] []) (t := 32) (p := 3) (v := .tmp 7) (w1 := ((w2.setCell ⟨bl, 0, none⟩ (.slice B0 0 d0)).setCell ⟨bl, 1, none⟩ (.slice B1 0 d1)).setCell ⟨bl, 2, none⟩ (.slice B2 0 d2)) ?hg4 rfl ?hN4 ?hr4 ?hF4 ?_; (case hg4 => rfl); (case hN4 => rfl); (case hr4 => first | (go_simp; done) | (go_simp; rfl)); (case hF4 => exact ⟨(rig_new HZ.out.1 HZ.out.2.1 HZ.out.2.2.2.1 HZ.out.2.2.2.2.1 HZ.out.2.2.2.2.2).own, set3_below HZ.out.2.2.1 HZ.out.2.1⟩); clear z0 z1 z2 k0 k1 k2; rintro w3 hh; have HBU := Aside0.mk hh; clear hh))
 go_loopg [4] l0.length (fun gg v4 wr => ∃ i : Nat, v4 = .int .i64 (i : Int) ∧ Aside0 (i ≤ l0.length ∧ l0.length - i ≤ gg) ∧ Aside0 (∃ b : List S64, spec_l19Ok.rails k (l0.drop i) b = some o0 ∧ Built w.heap.size w wr bl b [] []))
 case atStart => exact ⟨0, by go_num, ⟨Nat.zero_le _, by omega⟩, ⟨[], H0.out, HBU.out⟩⟩
 case round =>
 obtain ⟨i, rfl, HJ, HY⟩ := hrel
 clear HBU
 obtain ⟨b, hR, hBU⟩ := HY.out
 clear HY
 have HBU := Aside0.mk hBU
 have hWB : Below w.heap.size w wr := hBU.2
 have x0 := pw_cell_below hBU.2 HX.out.1
 have x1 := pw_cell_below hBU.2 HX.out.2.1
 have x2 := pw_cell_below hBU.2 HX.out.2.2
 by_cases hlt : i < l0.length
 rotate_left
 ·have he : i = l0.length := by have := HJ.out; omega
  have hltb : decide (i < l0.length) = false := decide_eq_false hlt
  have hR2 : o0 = some b := by rw [he, List.drop_length] at hR; exact (Option.some.inj hR).symm
  have HB0 := Aside0.mk hR2
  clear hR hlt HJ he hR2 hBU hWB
  obtain ⟨b0, hbb⟩ : ∃ y, y = b := ⟨_, rfl⟩
  rw [← hbb] at HB0 HBU
  clear hbb
  have hF0 := HF0.out
  rw [HB0.out] at hF0
  obtain ⟨o1, h1, hF0'⟩ := Option.bind_eq_some_iff.mp hF0
  have H1 := Aside0.mk h1
  have HF1 := Aside0.mk hF0'
  clear hF0 h1 hF0'
  go_wp2_with fail
  obtain ⟨wo1, rfl⟩ : ∃ wo : World, wo = wr := ⟨_, rfl⟩
  go_loopg [5] l1.length (fun gg v5 wr => ∃ i : Nat, v5 = .int .i64 (i : Int) ∧ Aside0 (i ≤ l1.length ∧ l1.length - i ≤ gg) ∧ Aside0 (∃ b : List ByteArray, spec_l19Ok.lines k b0 (l1.drop i) b = some o1 ∧ Built w.heap.size w wr bl b0 b []))
  case atStart => exact ⟨0, by go_num, ⟨Nat.zero_le _, by omega⟩, ⟨[], H1.out, HBU.out⟩⟩
  case round =>
  obtain ⟨i, rfl, HJ, HY⟩ := hrel
  clear HBU
  obtain ⟨b, hR, hBU⟩ := HY.out
  clear HY
  have HBU := Aside0.mk hBU
  have hWB : Below w.heap.size w wr := hBU.2
  have x0 := pw_cell_below hBU.2 HX.out.1
  have x1 := pw_cell_below hBU.2 HX.out.2.1
  have x2 := pw_cell_below hBU.2 HX.out.2.2
  by_cases hlt : i < l1.length
  rotate_left
  ·have he : i = l1.length := by have := HJ.out; omega
   have hltb : decide (i < l1.length) = false := decide_eq_false hlt
   have hR2 : o1 = some b := by rw [he, List.drop_length] at hR; exact (Option.some.inj hR).symm
   have HB1 := Aside0.mk hR2
   clear hR hlt HJ he hR2 hBU hWB
   obtain ⟨b1, hbb⟩ : ∃ y, y = b := ⟨_, rfl⟩
   rw [← hbb] at HB1 HBU
   clear hbb
   have hF1 := HF1.out
   rw [HB1.out] at hF1
   obtain ⟨o2, h2, hF1'⟩ := Option.bind_eq_some_iff.mp hF1
   have H2 := Aside0.mk h2
   have HF2 := Aside0.mk hF1'
   clear hF1 h2 hF1'
   go_wp2_with fail
   obtain ⟨wo2, rfl⟩ : ∃ wo : World, wo = wr := ⟨_, rfl⟩
   go_loopg [6] l2.length (fun gg v6 wr => ∃ i : Nat, v6 = .int .i64 (i : Int) ∧ Aside0 (i ≤ l2.length ∧ l2.length - i ≤ gg) ∧ Aside0 (∃ b : List S67, spec_l19Ok.belays k b0 b1 (l2.drop i) b = some o2 ∧ Built w.heap.size w wr bl b0 b1 b))
   case atStart => exact ⟨0, by go_num, ⟨Nat.zero_le _, by omega⟩, ⟨[], H2.out, HBU.out⟩⟩
   case round =>
   obtain ⟨i, rfl, HJ, HY⟩ := hrel
   clear HBU
   obtain ⟨b, hR, hBU⟩ := HY.out
   clear HY
   have HBU := Aside0.mk hBU
   have hWB : Below w.heap.size w wr := hBU.2
   have x0 := pw_cell_below hBU.2 HX.out.1
   have x1 := pw_cell_below hBU.2 HX.out.2.1
   have x2 := pw_cell_below hBU.2 HX.out.2.2
   by_cases hlt : i < l2.length
   rotate_left
   ·have he : i = l2.length := by have := HJ.out; omega
    have hltb : decide (i < l2.length) = false := decide_eq_false hlt
    have hR2 : o2 = some b := by rw [he, List.drop_length] at hR; exact (Option.some.inj hR).symm
    have HB2 := Aside0.mk hR2
    clear hR hlt HJ he hR2 hBU hWB
    have hF2 := HF2.out
    rw [HB2.out] at hF2
    obtain rfl : true = r := Option.some.inj hF2
    clear hF2
    go_wp2_with fail
    go_ret
    exact ⟨rfl, HBU.out.2⟩
   have hltb : decide (i < l2.length) = true := decide_eq_true hlt
   have hi0 : 0 ≤ (i : Int) := Int.natCast_nonneg i
   have hi1 : (i : Int) < (l2.length : Int) := by omega
   obtain ⟨ad9, e9, hx0, hx1, hx2⟩ := at_T67 HR2.out (i : Int) hi0 hi1
   rw [Int.toNat_natCast] at hx0 hx1 hx2
   replace hx0 := pw_cell_below hWB hx0
   replace hx1 := pw_cell_below hWB hx1
   replace hx2 := pw_cell_below hWB hx2
   rw [e9] at x2
   clear hBU hWB
   rw [spec_l19Ok.belays_step k b0 b1 l2 i b hlt] at hR
   obtain ⟨⟨q, c⟩, hq, hR⟩ := Option.bind_eq_some_iff.mp hR
   dsimp only at hR
   have HQ := Aside0.mk hq
   have HR := Aside0.mk hR
   clear hq hR
   go_upto_if 61 with (go_at_call 74; refine (spec_l19AddBelay.calls k w.heap.size bl b0 b1 b (rd_T67 l2 (i : Int)).f0 (rd_T67 l2 (i : Int)).f1 (rd_T67 l2 (i : Int)).f2 q c wr HBU.out.1 HQ.out).mono ?_; rintro e w9 ⟨rfl, hO, hb⟩; have HBQ := Aside0.mk (show Built w.heap.size w w9 bl b0 b1 q from ⟨hO, below_trans HBU.out.2 hb⟩); clear hO hb)
   by_cases hz : c = 0
   rotate_left
   ·have hzb : (c != 0) = true := by simpa using hz
    have hr0 := HR.out
    rw [if_neg hz] at hr0
    have hq0 : o2 = none := (Option.some.inj hr0).symm
    have hF2 := HF2.out
    rw [hq0] at hF2
    obtain rfl : false = r := Option.some.inj hF2
    clear hr0 hq0 hF2
    go_wp2_with fail
    go_ret
    exact ⟨rfl, HBQ.out.2⟩
   have hzb : (c != 0) = false := by simpa using hz
   have HR2 : Aside0 (spec_l19Ok.belays k b0 b1 (l2.drop (i + 1)) q = some o2) := ⟨by have h1 := HR.out; rwa [if_pos hz] at h1⟩
   clear HR HQ hz
   go_wp2_with fail
   go_roundg (l2.length - (i + 1))
   case measure => have := HJ.out; omega
   case rel => exact ⟨i + 1, by go_num, ⟨by omega, by omega⟩, ⟨q, HR2.out, HBQ.out⟩⟩
  have hltb : decide (i < l1.length) = true := decide_eq_true hlt
  have hi0 : 0 ≤ (i : Int) := Int.natCast_nonneg i
  have hi1 : (i : Int) < (l1.length : Int) := by omega
  obtain ⟨ad9, e9, hx0⟩ := Kd.at_string HR1.out (i : Int) hi0 hi1
  rw [Int.toNat_natCast] at hx0
  replace hx0 := pw_cell_below hWB hx0
  rw [e9] at x1
  clear hBU hWB
  rw [spec_l19Ok.lines_step k b0 l1 i b hlt] at hR
  obtain ⟨⟨q, c⟩, hq, hR⟩ := Option.bind_eq_some_iff.mp hR
  dsimp only at hR
  have HQ := Aside0.mk hq
  have HR := Aside0.mk hR
  clear hq hR
  go_upto_if 43 with (go_at_call 73; refine (spec_l19AddLine.calls k w.heap.size bl b0 b [] (rdOf ByteArray.empty l1 (i : Int)) q c wr HBU.out.1 HQ.out).mono ?_; rintro e w9 ⟨rfl, hO, hb⟩; have HBQ := Aside0.mk (show Built w.heap.size w w9 bl b0 q [] from ⟨hO, below_trans HBU.out.2 hb⟩); clear hO hb)
  by_cases hz : c = 0
  rotate_left
  ·have hzb : (c != 0) = true := by simpa using hz
   have hr0 := HR.out
   rw [if_neg hz] at hr0
   have hq0 : o1 = none := (Option.some.inj hr0).symm
   have hF1 := HF1.out
   rw [hq0] at hF1
   obtain rfl : false = r := Option.some.inj hF1
   clear hr0 hq0 hF1
   go_wp2_with fail
   go_ret
   exact ⟨rfl, HBQ.out.2⟩
  have hzb : (c != 0) = false := by simpa using hz
  have HR2 : Aside0 (spec_l19Ok.lines k b0 (l1.drop (i + 1)) q = some o1) := ⟨by have h1 := HR.out; rwa [if_pos hz] at h1⟩
  clear HR HQ hz
  go_wp2_with fail
  go_roundg (l1.length - (i + 1))
  case measure => have := HJ.out; omega
  case rel => exact ⟨i + 1, by go_num, ⟨by omega, by omega⟩, ⟨q, HR2.out, HBQ.out⟩⟩
 have hltb : decide (i < l0.length) = true := decide_eq_true hlt
 have hi0 : 0 ≤ (i : Int) := Int.natCast_nonneg i
 have hi1 : (i : Int) < (l0.length : Int) := by omega
 obtain ⟨ad9, e9, hx0, hx1, hx2⟩ := at_T64 HR0.out (i : Int) hi0 hi1
 rw [Int.toNat_natCast] at hx0 hx1 hx2
 replace hx0 := pw_cell_below hWB hx0
 replace hx1 := pw_cell_below hWB hx1
 replace hx2 := pw_cell_below hWB hx2
 rw [e9] at x0
 clear hBU hWB
 rw [spec_l19Ok.rails_step k l0 i b hlt] at hR
 obtain ⟨⟨q, c⟩, hq, hR⟩ := Option.bind_eq_some_iff.mp hR
 dsimp only at hR
 have HQ := Aside0.mk hq
 have HR := Aside0.mk hR
 clear hq hR
 go_upto_if 25 with (go_at_call 72; refine (spec_l19AddRail.calls k w.heap.size bl b [] [] (rd_T64 l0 (i : Int)).f0 (rd_T64 l0 (i : Int)).f1 (rd_T64 l0 (i : Int)).f2 q c wr HBU.out.1 HQ.out).mono ?_; rintro e w9 ⟨rfl, hO, hb⟩; have HBQ := Aside0.mk (show Built w.heap.size w w9 bl q [] [] from ⟨hO, below_trans HBU.out.2 hb⟩); clear hO hb)
 by_cases hz : c = 0
 rotate_left
 ·have hzb : (c != 0) = true := by simpa using hz
  have hr0 := HR.out
  rw [if_neg hz] at hr0
  have hq0 : o0 = none := (Option.some.inj hr0).symm
  have hF0 := HF0.out
  rw [hq0] at hF0
  obtain rfl : false = r := Option.some.inj hF0
  clear hr0 hq0 hF0
  go_wp2_with fail
  go_ret
  exact ⟨rfl, HBQ.out.2⟩
 have hzb : (c != 0) = false := by simpa using hz
 have HR2 : Aside0 (spec_l19Ok.rails k (l0.drop (i + 1)) q = some o0) := ⟨by have h1 := HR.out; rwa [if_pos hz] at h1⟩
 clear HR HQ hz
 go_wp2_with fail
 go_roundg (l0.length - (i + 1))
 case measure => have := HJ.out; omega
 case rel => exact ⟨i + 1, by go_num, ⟨by omega, by omega⟩, ⟨q, HR2.out, HBQ.out⟩⟩
theorem spec_l19Ok.calls (k : Nat) (g : Nat) (s0_0 : List S64) (s0_1 : List ByteArray) (s0_2 : List S67) (r : Bool) (w0 w : World) (hI : IsS32 w0 w g s0_0 s0_1 s0_2) (hB : Below w0.heap.size w0 w) (h : spec_l19Ok.f k s0_0 s0_1 s0_2 = some r) :
  Calls Tryd.prog 32 #[.pointer (some ⟨g, 0, none⟩)] w fun e w' => e = .returned (.bool r) ∧ IsS32 w0 w' g s0_0 s0_1 s0_2 ∧ Below w0.heap.size w0 w' ∧ KeepBut w w' g none := by
 have hI' := hI
 obtain ⟨A0, c0, A1, c1, A2, c2, hb, hg, hr0, hr1, hr2⟩ := hI
 refine (spec_l19Ok.core k g A0 c0 s0_0 A1 c1 s0_1 A2 c2 s0_2 r w ((blk_cell hb 0).trans rfl) ((blk_cell hb 1).trans rfl) ((blk_cell hb 2).trans rfl) (Kd.C_below hr0 hB) (Kd.C_below hr1 hB) (Kd.C_below hr2 hB) h).mono ?_
 rintro e w' ⟨rfl, hbb⟩
 exact ⟨rfl, IsS32.below hI' hbb, below_step hB hbb, KeepBut.of_below hbb g none⟩


/-! ### spec_l01Dec: function 66 -/
def spec_l01Dec.l0 : Nat → Int → List Int → Int → Option (ByteArray)
 | 0, _, _, _ => none
 | k + 1, x0, x3, x4 => if x4 = 0 then (if (x3.length : Int) = 0 then (some (⟨#[48]⟩ : ByteArray)) else (if x0 < 0 then (if 1 + (strOfNums x3).size ≤ 9223372036854775807 then (some ((⟨#[45]⟩ : ByteArray) ++ (strOfNums x3))) else (none)) else (some (strOfNums x3)))) else (if (Int.tmod x4 10) < 0 then ((some (([(wrap64 (48 + (wrap64 (-(Int.tmod x4 10))))) % 256] : List Int) : List Int)).bind fun y133 => (if y133.length + x3.length < 140737488355328 then (spec_l01Dec.l0 k x0 (y133 ++ x3) (wrap64 (Int.tdiv x4 10))) else (none))) else ((some (([(wrap64 (48 + (Int.tmod x4 10))) % 256] : List Int) : List Int)).bind fun y139 => (if y139.length + x3.length < 140737488355328 then (spec_l01Dec.l0 k x0 (y139 ++ x3) (wrap64 (Int.tdiv x4 10))) else (none))))
def spec_l01Dec.f (k : Nat) (a0 : Int) : Option (ByteArray) := spec_l01Dec.l0 k a0 (([] : List Int)) a0
set_option maxHeartbeats 8000000 in
set_option maxRecDepth 100000 in
theorem spec_l01Dec.calls (k : Nat) (a0 : Int) (r : ByteArray) (w : World) (h : spec_l01Dec.f k a0 = some r) :
  Calls Tryd.prog 66 #[.int .i64 a0] w fun e w' => e = .returned (.string r) ∧ Below w.heap.size w w' := by
 have HB := Aside0.mk (Below.refl w.heap.size w)
 have H : (spec_l01Dec.l0 k a0 (([] : List Int)) a0) = some r := h
 clear h
 obtain ⟨y130, hy130⟩ : ∃ y_ : List Int, y_ = (([] : List Int)) := ⟨_, rfl⟩
 replace H : (spec_l01Dec.l0 k a0 y130 a0) = some r := by first | (rw [hy130]; with_reducible exact H) | (have H2_ := (Option.bind_some _ _).symm.trans H; rw [hy130]; with_reducible exact H2_) | (have H2_ := (Option.bind_some _ _).symm.trans H; with_reducible exact H2_) | with_reducible exact H | (rw [hy130]; exact H) | exact H
 have Ny130 := Aside0.mk hy130
 clear hy130
 have H' := Aside0.mk H
 clear H
 go_enter Tryd.func66, Tryd.ntmps66
 go_wp2_with (first | ((with_reducible refine gate_dst (N := 6) rfl ?_); refine Kd.R_lit (Kd.int .u8) _ 5 ?hg (N := 6) ?hd (xs := ([] : List Int)) (inner := []) (ok := fun _ => True) (okp := fun _ => True) ?hr ?hp (fun _ hk => hk) trivial (Below.refl _ _) (Nat.le_refl _) (by simp) ?_; (case hd => rfl); (case hg => rfl); (case hr => first | (go_simp; done) | (go_simp; rfl)); (case hp => exact (Reps.none _ _)); intro v131 w2 ho3 hb hg_ hnew_; clear hg_ hnew_; (first | rw [← Ny130.out] at ho3 | (simp only [Int.reduceToNat] at ho3; rw [← Ny130.out] at ho3)); have n0_ := Aside0.mk (Kd.R_lower ho3 (below_size hb_)); have n1_ := Aside0.mk (below_step hb_ hb); clear HB; have HO132 := n0_; have HB := n1_; clear n0_ n1_; clear hb ho3))
 go_loopg [3, 4] k (fun kq v3 v4 w' => ∃ (x3_1 : List Int) (x4_1 : Int), v4 = .int .i64 x4_1 ∧ Aside0 (spec_l01Dec.l0 kq a0 x3_1 x4_1 = some r) ∧ Aside0 (kq ≤ k) ∧ Aside0 (Kd.R (Kd.int .u8) 5 w' w.heap.size (fun _ => True) v3 x3_1) ∧ Aside0 (Below w.heap.size w w'))
 case atStart => exact ⟨(y130), (a0), (by first | rfl | (simp; done) | (simp [*]; done)), H', ⟨Nat.le_refl _⟩, ⟨by (with_reducible repeat (first | apply Kd.R_alloc | apply Kd.R_drewN | apply Kd.R_drew)); exact HO132.out⟩, ⟨hb_⟩⟩
 case round =>
  clear H'
  try clear p2
  obtain ⟨x3_1, x4_1, rfl, HA, HK1, HO_3, HB⟩ := hrel
  cases gk with
  | zero => exact absurd HA.out (by simp [spec_l01Dec.l0])
  | succ k1 =>
   have H := HA.out
   clear HA
   simp only [spec_l01Dec.l0] at H
   by_cases c4 : x4_1 = 0
   ·rw [if_pos c4] at H
    have c4b0 : (x4_1 == 0) = true := beq_iff_eq.mpr c4
    have c4b1 : (x4_1 != 0) = false := bne_eq_false_iff_eq.mpr c4
    clear c4
    by_cases c5 : (x3_1.length : Int) = 0
    ·rw [if_pos c5] at H
     have c5b0 : ((x3_1.length : Int) == 0) = true := beq_iff_eq.mpr c5
     have c5b1 : ((x3_1.length : Int) != 0) = false := bne_eq_false_iff_eq.mpr c5
     clear c5
     obtain rfl := Option.some.inj H
     obtain ⟨Ao6, co6, eo6⟩ := Kd.R_slice HO_3.out
     subst eo6
     go_wp2
     go_ret
     exact ⟨ew_, hb_⟩
    ·rw [if_neg c5] at H
     have c5b0 : ((x3_1.length : Int) == 0) = false := beq_eq_false_iff_ne.mpr c5
     have c5b1 : ((x3_1.length : Int) != 0) = true := bne_iff_ne.mpr c5
     have c5b2 : ¬ (x3_1 = []) := fun h_ => c5 (by rw [h_]; rfl)
     by_cases c7 : a0 < 0
     ·rw [if_pos c7] at H
      have c7b0 : decide (a0 < 0) = true := decide_eq_true c7
      clear c7
      by_cases c8 : 1 + (strOfNums x3_1).size ≤ 9223372036854775807
      ·rw [if_pos c8] at H
       have c8b0 := eq_true c8
       have c8b1 : decide (1 + (strOfNums x3_1).size ≤ 9223372036854775807) = true := decide_eq_true c8
       try have c8b2 : (9223372036854775807 < 1 + (strOfNums x3_1).size) = False := eq_false (Nat.not_lt.2 c8)
       obtain rfl := Option.some.inj H
       obtain ⟨Ao9, co9, eo9⟩ := Kd.R_slice HO_3.out
       subst eo9
       have hcv10 := own_string (P := Tryd.prog) Tryd.underlying43 Tryd.underlying5 Tryd.underlying9 (Kd.own_of_R HO_3.out)
       go_wp2
       go_ret
       exact ⟨ew_, hb_⟩
      ·rw [if_neg c8] at H
       exact absurd H (by simp)
     ·rw [if_neg c7] at H
      have c7b0 : decide (a0 < 0) = false := decide_eq_false c7
      clear c7
      obtain rfl := Option.some.inj H
      obtain ⟨Ao11, co11, eo11⟩ := Kd.R_slice HO_3.out
      subst eo11
      have hcv12 := own_string (P := Tryd.prog) Tryd.underlying43 Tryd.underlying5 Tryd.underlying9 (Kd.own_of_R HO_3.out)
      go_wp2
      go_ret
      exact ⟨ew_, hb_⟩
   ·rw [if_neg c4] at H
    have c4b0 : (x4_1 == 0) = false := beq_eq_false_iff_ne.mpr c4
    have c4b1 : (x4_1 != 0) = true := bne_iff_ne.mpr c4
    by_cases c13 : (Int.tmod x4_1 10) < 0
    ·rw [if_pos c13] at H
     have c13b0 : decide ((Int.tmod x4_1 10) < 0) = true := decide_eq_true c13
     clear c13
     obtain ⟨y133, hy133⟩ : ∃ y_ : List Int, y_ = (([(wrap64 (48 + (wrap64 (-(Int.tmod x4_1 10))))) % 256] : List Int)) := ⟨_, rfl⟩
     replace H : (if y133.length + x3_1.length < 140737488355328 then (spec_l01Dec.l0 k1 a0 (y133 ++ x3_1) (wrap64 (Int.tdiv x4_1 10))) else (none)) = some r := by first | (rw [hy133]; with_reducible exact H) | (have H2_ := (Option.bind_some _ _).symm.trans H; rw [hy133]; with_reducible exact H2_) | (have H2_ := (Option.bind_some _ _).symm.trans H; with_reducible exact H2_) | with_reducible exact H | (rw [hy133]; exact H) | exact H
     have Ny133 := Aside0.mk hy133
     clear hy133
     by_cases c14 : y133.length + x3_1.length < 140737488355328
     ·rw [if_pos c14] at H
      have LMc14 := Aside0.mk c14
      clear c14
      obtain ⟨y136, hy136⟩ : ∃ y_ : List Int, y_ = (y133 ++ x3_1) := ⟨_, rfl⟩
      replace H : (spec_l01Dec.l0 k1 a0 y136 (wrap64 (Int.tdiv x4_1 10))) = some r := by first | (rw [hy136]; with_reducible exact H) | (have H2_ := (Option.bind_some _ _).symm.trans H; rw [hy136]; with_reducible exact H2_) | (have H2_ := (Option.bind_some _ _).symm.trans H; with_reducible exact H2_) | with_reducible exact H | (rw [hy136]; exact H) | exact H
      have Ny136 := Aside0.mk hy136
      clear hy136
      have H' := Aside0.mk H
      clear H
      go_wp2_with (first | ((with_reducible refine gate_dst (N := 21) rfl ?_); refine Kd.R_lit (Kd.int .u8) _ 5 ?hg (N := 21) ?hd (xs := ([(wrap64 (48 + (wrap64 (-(Int.tmod x4_1 10))))) % 256] : List Int)) (inner := [.int .u8 ((wrap64 (48 + (wrap64 (-(Int.tmod x4_1 10))))) % 256)]) (ok := fun _ => True) (okp := fun _ => True) ?hr ?hp (fun _ hk => hk) trivial (Below.refl _ _) (Nat.le_refl _) (by simp) ?_; (case hd => rfl); (case hg => rfl); (case hr => first | (go_simp; done) | (go_simp; rfl)); (case hp => exact (Reps.one (show Kd.M (Kd.int .u8) _ _ _ ((wrap64 (48 + (wrap64 (-(Int.tmod x4_1 10))))) % 256) [.int .u8 ((wrap64 (48 + (wrap64 (-(Int.tmod x4_1 10))))) % 256)] from rfl) (Reps.none _ _))); intro v134 w15 ho16 hb hg_ hnew_; clear hg_ hnew_; (first | rw [← Ny133.out] at ho16 | (simp only [Int.reduceToNat] at ho16; rw [← Ny133.out] at ho16)); have n0_ := Aside0.mk (Kd.R_elder' (kr_ HO_3) (Kd.R_base ho16) hb); have n1_ := Aside0.mk (Kd.R_lower (Kd.R_new' ho16 (Kd.R_lt (kr_ HO_3))) (below_size hb_)); have n2_ := Aside0.mk (below_step hb_ hb); clear HO_3; clear HB; have HO_3 := n0_; have HO135 := n1_; have HB := n2_; clear n0_ n1_ n2_; clear hb ho16; obtain ⟨Ao18, co18, eo18⟩ := Kd.R_slice HO_3.out; subst eo18) | ((with_reducible refine gate_builtin (b := .append) (xs := #[.tmp 21, .tmp 22]) rfl ?_); at_builtin; refine Kd.R_append_rows (Kd.int .u8) (w0 := w) w.heap.size rfl (.tmp 21) (.tmp 22) 43 5 (.int .u8 0) 1 rfl Tryd.underlying43 info5 rfl (by decide) (by omega) v134 y133 x3_1 _ _ _ (fun k_ => some k_ ≠ (.slice Ao18 x3_1.length co18 : Value).ownBlock) (fun _ => False) rfl rfl ?aO ?aR (fun _ _ h => h) (fun _ h => h.elim) ?aF ?aB ?aS ?aL ?_; (case aR => repeat (first | exact (Kd.R_reads' HO_3.out).2.2 | (with_reducible refine Kd.C_alloc ?_ _) | (with_reducible refine Kd.C_drewN ?_ _) | (with_reducible refine Kd.C_drew ?_))); (case aB => exact hb_); (case aF => exact (fun k_ hk => Kd.fresh' (Kd.R_lt (kr_ HO_3)) k_ hk)); (case aO => exact (by (with_reducible repeat (first | apply Kd.R_alloc | apply Kd.R_drewN | apply Kd.R_drew)); exact Kd.R_mono HO135.out (fun _ hk => hk.2))); (case aS => exact (below_size hb_)); (case aL => have := LMc14.out; omega); intro v137 w17 ho hb hg hat; rw [← Ny136.out] at ho; have n0_ := Aside0.mk (Kd.R_after (ok := (fun _ => True)) (kr_ HO_3) hg hat); have n1_ := Aside0.mk (hb); have n2_ := Aside0.mk (ho); clear HO_3; clear HB; clear HO135; have HO_3 := n0_; have HB := n1_; have HO138 := n2_; clear n0_ n1_ n2_; clear ho hb hg hat))
      go_roundg k1
      case measure => have := HK1.out; omega
      case rel => exact ⟨(y136), (wrap64 (Int.tdiv x4_1 10)), (by first | rfl | (simp; done) | (simp [*]; done)), H', ⟨by have := HK1.out; omega⟩, ⟨by (with_reducible repeat (first | apply Kd.R_alloc | apply Kd.R_drewN | apply Kd.R_drew)); exact Kd.R_mono HO138.out (fun _ hk => trivial)⟩, ⟨hb_⟩⟩
     ·rw [if_neg c14] at H
      exact absurd H (by simp)
    ·rw [if_neg c13] at H
     have c13b0 : decide ((Int.tmod x4_1 10) < 0) = false := decide_eq_false c13
     clear c13
     obtain ⟨y139, hy139⟩ : ∃ y_ : List Int, y_ = (([(wrap64 (48 + (Int.tmod x4_1 10))) % 256] : List Int)) := ⟨_, rfl⟩
     replace H : (if y139.length + x3_1.length < 140737488355328 then (spec_l01Dec.l0 k1 a0 (y139 ++ x3_1) (wrap64 (Int.tdiv x4_1 10))) else (none)) = some r := by first | (rw [hy139]; with_reducible exact H) | (have H2_ := (Option.bind_some _ _).symm.trans H; rw [hy139]; with_reducible exact H2_) | (have H2_ := (Option.bind_some _ _).symm.trans H; with_reducible exact H2_) | with_reducible exact H | (rw [hy139]; exact H) | exact H
     have Ny139 := Aside0.mk hy139
     clear hy139
     by_cases c19 : y139.length + x3_1.length < 140737488355328
     ·rw [if_pos c19] at H
      have LMc19 := Aside0.mk c19
      clear c19
      obtain ⟨y142, hy142⟩ : ∃ y_ : List Int, y_ = (y139 ++ x3_1) := ⟨_, rfl⟩
      replace H : (spec_l01Dec.l0 k1 a0 y142 (wrap64 (Int.tdiv x4_1 10))) = some r := by first | (rw [hy142]; with_reducible exact H) | (have H2_ := (Option.bind_some _ _).symm.trans H; rw [hy142]; with_reducible exact H2_) | (have H2_ := (Option.bind_some _ _).symm.trans H; with_reducible exact H2_) | with_reducible exact H | (rw [hy142]; exact H) | exact H
      have Ny142 := Aside0.mk hy142
      clear hy142
      have H' := Aside0.mk H
      clear H
      go_wp2_with (first | ((with_reducible refine gate_dst (N := 21) rfl ?_); refine Kd.R_lit (Kd.int .u8) _ 5 ?hg (N := 21) ?hd (xs := ([(wrap64 (48 + (Int.tmod x4_1 10))) % 256] : List Int)) (inner := [.int .u8 ((wrap64 (48 + (Int.tmod x4_1 10))) % 256)]) (ok := fun _ => True) (okp := fun _ => True) ?hr ?hp (fun _ hk => hk) trivial (Below.refl _ _) (Nat.le_refl _) (by simp) ?_; (case hd => rfl); (case hg => rfl); (case hr => first | (go_simp; done) | (go_simp; rfl)); (case hp => exact (Reps.one (show Kd.M (Kd.int .u8) _ _ _ ((wrap64 (48 + (Int.tmod x4_1 10))) % 256) [.int .u8 ((wrap64 (48 + (Int.tmod x4_1 10))) % 256)] from rfl) (Reps.none _ _))); intro v140 w20 ho21 hb hg_ hnew_; clear hg_ hnew_; (first | rw [← Ny139.out] at ho21 | (simp only [Int.reduceToNat] at ho21; rw [← Ny139.out] at ho21)); have n0_ := Aside0.mk (Kd.R_elder' (kr_ HO_3) (Kd.R_base ho21) hb); have n1_ := Aside0.mk (Kd.R_lower (Kd.R_new' ho21 (Kd.R_lt (kr_ HO_3))) (below_size hb_)); have n2_ := Aside0.mk (below_step hb_ hb); clear HO_3; clear HB; have HO_3 := n0_; have HO141 := n1_; have HB := n2_; clear n0_ n1_ n2_; clear hb ho21; obtain ⟨Ao23, co23, eo23⟩ := Kd.R_slice HO_3.out; subst eo23) | ((with_reducible refine gate_builtin (b := .append) (xs := #[.tmp 21, .tmp 22]) rfl ?_); at_builtin; refine Kd.R_append_rows (Kd.int .u8) (w0 := w) w.heap.size rfl (.tmp 21) (.tmp 22) 43 5 (.int .u8 0) 1 rfl Tryd.underlying43 info5 rfl (by decide) (by omega) v140 y139 x3_1 _ _ _ (fun k_ => some k_ ≠ (.slice Ao23 x3_1.length co23 : Value).ownBlock) (fun _ => False) rfl rfl ?aO ?aR (fun _ _ h => h) (fun _ h => h.elim) ?aF ?aB ?aS ?aL ?_; (case aR => repeat (first | exact (Kd.R_reads' HO_3.out).2.2 | (with_reducible refine Kd.C_alloc ?_ _) | (with_reducible refine Kd.C_drewN ?_ _) | (with_reducible refine Kd.C_drew ?_))); (case aB => exact hb_); (case aF => exact (fun k_ hk => Kd.fresh' (Kd.R_lt (kr_ HO_3)) k_ hk)); (case aO => exact (by (with_reducible repeat (first | apply Kd.R_alloc | apply Kd.R_drewN | apply Kd.R_drew)); exact Kd.R_mono HO141.out (fun _ hk => hk.2))); (case aS => exact (below_size hb_)); (case aL => have := LMc19.out; omega); intro v143 w22 ho hb hg hat; rw [← Ny142.out] at ho; have n0_ := Aside0.mk (Kd.R_after (ok := (fun _ => True)) (kr_ HO_3) hg hat); have n1_ := Aside0.mk (hb); have n2_ := Aside0.mk (ho); clear HO_3; clear HB; clear HO141; have HO_3 := n0_; have HB := n1_; have HO144 := n2_; clear n0_ n1_ n2_; clear ho hb hg hat))
      go_roundg k1
      case measure => have := HK1.out; omega
      case rel => exact ⟨(y142), (wrap64 (Int.tdiv x4_1 10)), (by first | rfl | (simp; done) | (simp [*]; done)), H', ⟨by have := HK1.out; omega⟩, ⟨by (with_reducible repeat (first | apply Kd.R_alloc | apply Kd.R_drewN | apply Kd.R_drew)); exact Kd.R_mono HO144.out (fun _ hk => trivial)⟩, ⟨hb_⟩⟩
     ·rw [if_neg c19] at H
      exact absurd H (by simp)

/-! ### spec_l19Text: function 33 -/
mutual
def spec_l19Text.l0 : Nat → ByteArray → Int → List (S64) → List ByteArray → List (S67) → Option (ByteArray)
 | 0, _, _, _, _, _ => none
 | k + 1, x3, x4, x1000, x1001, x1002 => if x4 < (x1000.length : Int) then (if 0 ≤ x4 then (if 5 + ((rd_T64 x1000 x4).f0).size ≤ 9223372036854775807 then (if 5 + ((rd_T64 x1000 x4).f0).size + 1 ≤ 9223372036854775807 then (if 5 + ((rd_T64 x1000 x4).f0).size + 1 + ((rd_T64 x1000 x4).f1).size ≤ 9223372036854775807 then (if 5 + ((rd_T64 x1000 x4).f0).size + 1 + ((rd_T64 x1000 x4).f1).size + 1 ≤ 9223372036854775807 then ((spec_l01Dec.f k ((rd_T64 x1000 x4).f2)).bind fun t147 => (if 5 + ((rd_T64 x1000 x4).f0).size + 1 + ((rd_T64 x1000 x4).f1).size + 1 + t147.size ≤ 9223372036854775807 then (if 5 + ((rd_T64 x1000 x4).f0).size + 1 + ((rd_T64 x1000 x4).f1).size + 1 + t147.size + 1 ≤ 9223372036854775807 then (if x3.size + 5 + ((rd_T64 x1000 x4).f0).size + 1 + ((rd_T64 x1000 x4).f1).size + 1 + t147.size + 1 ≤ 9223372036854775807 then (spec_l19Text.l0 k (x3 ++ (((((((⟨#[114, 97, 105, 108, 32]⟩ : ByteArray) ++ ((rd_T64 x1000 x4).f0)) ++ (⟨#[32]⟩ : ByteArray)) ++ ((rd_T64 x1000 x4).f1)) ++ (⟨#[32]⟩ : ByteArray)) ++ t147) ++ (⟨#[10]⟩ : ByteArray))) (wrap64 (x4 + 1)) x1000 x1001 x1002) else (none)) else (none)) else (none))) else (none)) else (none)) else (none)) else (none)) else (none)) else (spec_l19Text.l1 k x3 0 x1000 x1001 x1002)
def spec_l19Text.l1 : Nat → ByteArray → Int → List (S64) → List ByteArray → List (S67) → Option (ByteArray)
 | 0, _, _, _, _, _ => none
 | k + 1, x3, x6, x1000, x1001, x1002 => if x6 < (x1001.length : Int) then (if 0 ≤ x6 then (if 5 + (rdOf ByteArray.empty x1001 x6).size ≤ 9223372036854775807 then (if 5 + (rdOf ByteArray.empty x1001 x6).size + 1 ≤ 9223372036854775807 then (if x3.size + 5 + (rdOf ByteArray.empty x1001 x6).size + 1 ≤ 9223372036854775807 then (spec_l19Text.l1 k (x3 ++ (((⟨#[108, 105, 110, 101, 32]⟩ : ByteArray) ++ (rdOf ByteArray.empty x1001 x6)) ++ (⟨#[10]⟩ : ByteArray))) (wrap64 (x6 + 1)) x1000 x1001 x1002) else (none)) else (none)) else (none)) else (none)) else (spec_l19Text.l2 k x3 0 x1000 x1001 x1002)
def spec_l19Text.l2 : Nat → ByteArray → Int → List (S64) → List ByteArray → List (S67) → Option (ByteArray)
 | 0, _, _, _, _, _ => none
 | k + 1, x3, x7, x1000, x1001, x1002 => if x7 < (x1002.length : Int) then (if 0 ≤ x7 then (if 6 + ((rd_T67 x1002 x7).f0).size ≤ 9223372036854775807 then (if 6 + ((rd_T67 x1002 x7).f0).size + 1 ≤ 9223372036854775807 then (if 6 + ((rd_T67 x1002 x7).f0).size + 1 + ((rd_T67 x1002 x7).f1).size ≤ 9223372036854775807 then (if 6 + ((rd_T67 x1002 x7).f0).size + 1 + ((rd_T67 x1002 x7).f1).size + 1 ≤ 9223372036854775807 then ((spec_l01Dec.f k ((rd_T67 x1002 x7).f2)).bind fun t151 => (if 6 + ((rd_T67 x1002 x7).f0).size + 1 + ((rd_T67 x1002 x7).f1).size + 1 + t151.size ≤ 9223372036854775807 then (if 6 + ((rd_T67 x1002 x7).f0).size + 1 + ((rd_T67 x1002 x7).f1).size + 1 + t151.size + 1 ≤ 9223372036854775807 then (if x3.size + 6 + ((rd_T67 x1002 x7).f0).size + 1 + ((rd_T67 x1002 x7).f1).size + 1 + t151.size + 1 ≤ 9223372036854775807 then (spec_l19Text.l2 k (x3 ++ (((((((⟨#[98, 101, 108, 97, 121, 32]⟩ : ByteArray) ++ ((rd_T67 x1002 x7).f0)) ++ (⟨#[32]⟩ : ByteArray)) ++ ((rd_T67 x1002 x7).f1)) ++ (⟨#[32]⟩ : ByteArray)) ++ t151) ++ (⟨#[10]⟩ : ByteArray))) (wrap64 (x7 + 1)) x1000 x1001 x1002) else (none)) else (none)) else (none))) else (none)) else (none)) else (none)) else (none)) else (none)) else (some x3)
end
def spec_l19Text.f (k : Nat) (s0_0 : List (S64)) (s0_1 : List ByteArray) (s0_2 : List (S67)) : Option (ByteArray) := spec_l19Text.l0 k (⟨#[]⟩ : ByteArray) 0 s0_0 s0_1 s0_2
def spec_l19Text.T6 : Bool × List (List Nat × List Nat) := (true, [([], []), ([], []), ([1], [1]), ([2], [2]), ([3], [3]), ([], []), ([5], [5]), ([4, 6], [4, 6]), ([7], [7]), ([], []), ([9], [9]), ([10], [10]), ([8, 11], [8, 11]), ([12], [12]), ([0, 13], [0, 13]), ([14, 11, 0, 1, 2, 3, 4, 5, 6, 7, 8, 9, 10, 11, 12, 13, 14], [0, 14])])
def spec_l19Text.B6 : List Nat := [0, 0, 2, 6, 14, 0, 32, 126, 254, 0, 512, 1536, 4094, 8190, 16383, 32767]
theorem spec_l19Text.tab6 : rtab .any (opsOf Tryd.f33 6) = spec_l19Text.T6 := by kernel_rfl
theorem spec_l19Text.bits6 : waitsOk spec_l19Text.T6.2 spec_l19Text.B6 = true := by kernel_rfl
def spec_l19Text.T15 : Bool × List (List Nat × List Nat) := (true, [([], []), ([], []), ([1], [1]), ([2], [2]), ([3], [3]), ([], []), ([5], [5]), ([4, 6], [4, 6]), ([7], [7]), ([], []), ([9], [9]), ([10], [10]), ([8, 11], [8, 11]), ([12], [12]), ([0, 13], [0, 13]), ([14, 11, 0, 1, 2, 3, 4, 5, 6, 7, 8, 9, 10, 11, 12, 13, 14], [0, 14])])
def spec_l19Text.B15 : List Nat := [0, 0, 2, 6, 14, 0, 32, 126, 254, 0, 512, 1536, 4094, 8190, 16383, 32767]
theorem spec_l19Text.tab15 : rtab .any (opsOf Tryd.f33 15) = spec_l19Text.T15 := by kernel_rfl
theorem spec_l19Text.bits15 : waitsOk spec_l19Text.T15.2 spec_l19Text.B15 = true := by kernel_rfl
set_option maxHeartbeats 8000000 in
set_option maxRecDepth 100000 in
theorem spec_l19Text.calls (k : Nat) (g : Nat) (s0_0 : List (S64)) (s0_1 : List ByteArray) (s0_2 : List (S67)) (r : ByteArray) (w0 w : World) (hI : IsS32 w0 w g s0_0 s0_1 s0_2) (hB : Below w0.heap.size w0 w) (h : spec_l19Text.f k s0_0 s0_1 s0_2 = some r) :
  Calls Tryd.prog 33 #[.pointer (some ⟨g, 0, none⟩)] w fun e w' => e = .returned (.string r) ∧ IsS32 w0 w' g s0_0 s0_1 s0_2 ∧ Below w0.heap.size w0 w' ∧ KeepBut w w' g none := by
 have hu64 := Tryd.underlying64
 have hu67 := Tryd.underlying67
 have HI0 := Aside0.mk hI
 have HK := Aside0.mk (KeepBut.refl w g none)
 have HL := Aside0.mk hB.size
 clear hI
 have HW0 := Aside0.mk hB.size
 have HB := Aside0.mk hB
 clear hB
 have H : (spec_l19Text.l0 k (⟨#[]⟩ : ByteArray) 0 s0_0 s0_1 s0_2) = some r := h
 clear h
 have H' := Aside0.mk H
 clear H
 go_enter Tryd.func33, Tryd.ntmps33
 go_wp2
 go_loopg [3, 4] k (fun kq v3 v4 w' => ∃ (x3_1 : ByteArray) (x4_1 : Int), v3 = .string x3_1 ∧ v4 = .int .i64 x4_1 ∧ Aside0 (spec_l19Text.l0 kq x3_1 x4_1 s0_0 s0_1 s0_2 = some r) ∧ Aside0 (kq ≤ k) ∧ Aside0 (IsS32 w0 w' g s0_0 s0_1 s0_2) ∧ Aside0 (KeepBut w w' g none) ∧ Aside0 (Below w0.heap.size w0 w'))
 case atStart => exact ⟨((⟨#[]⟩ : ByteArray)), (0), (by first | rfl | (simp; done) | (simp [*]; done)), (by first | rfl | (simp; done) | (simp [*]; done)), H', ⟨Nat.le_refl _⟩, ⟨by repeat (first | (with_reducible first | exact HI0.out | apply IsS32.alloc | apply IsS32.drewN | apply IsS32.drew) | exact HI0.out)⟩, ⟨by repeat (first | (with_reducible first | exact HK.out | apply KeepBut.set_ | apply keep_drewN | apply keep_drew | apply keep_alloc) | exact HK.out)⟩, ⟨by repeat (first | (with_reducible first | exact HB.out | apply below_alloc | apply pw_below_drewN | apply below_drew1 | refine below_set ?_ (IsS32.ge HI0.out)) | exact HB.out)⟩⟩
 case round =>
  clear H'
  obtain ⟨x3_1, x4_1, rfl, rfl, HA, HK1, HI0, HK, HB⟩ := hrel
  cases gk with
  | zero => exact absurd HA.out (by simp [spec_l19Text.l0])
  | succ k1 =>
   have H := HA.out
   clear HA
   simp only [spec_l19Text.l0] at H
   by_cases c2 : x4_1 < (s0_0.length : Int)
   ·rw [if_pos c2] at H
    have c2b0 : decide (x4_1 < (s0_0.length : Int)) = true := decide_eq_true c2
    clear c2
    by_cases c3 : 0 ≤ x4_1
    ·rw [if_pos c3] at H
     have c3b0 : decide (0 ≤ x4_1) = true := decide_eq_true c3
     clear c3
     by_cases c4 : 5 + ((rd_T64 s0_0 x4_1).f0).size ≤ 9223372036854775807
     ·rw [if_pos c4] at H
      have c4b0 := eq_true c4
      have c4b1 : decide (5 + ((rd_T64 s0_0 x4_1).f0).size ≤ 9223372036854775807) = true := decide_eq_true c4
      try have c4b2 : (9223372036854775807 < 5 + ((rd_T64 s0_0 x4_1).f0).size) = False := eq_false (Nat.not_lt.2 c4)
      by_cases c5 : 5 + ((rd_T64 s0_0 x4_1).f0).size + 1 ≤ 9223372036854775807
      ·rw [if_pos c5] at H
       have c5b0 := eq_true c5
       have c5b1 : decide (5 + ((rd_T64 s0_0 x4_1).f0).size + 1 ≤ 9223372036854775807) = true := decide_eq_true c5
       try have c5b2 : (9223372036854775807 < 5 + ((rd_T64 s0_0 x4_1).f0).size + 1) = False := eq_false (Nat.not_lt.2 c5)
       by_cases c6 : 5 + ((rd_T64 s0_0 x4_1).f0).size + 1 + ((rd_T64 s0_0 x4_1).f1).size ≤ 9223372036854775807
       ·rw [if_pos c6] at H
        have c6b0 := eq_true c6
        have c6b1 : decide (5 + ((rd_T64 s0_0 x4_1).f0).size + 1 + ((rd_T64 s0_0 x4_1).f1).size ≤ 9223372036854775807) = true := decide_eq_true c6
        try have c6b2 : (9223372036854775807 < 5 + ((rd_T64 s0_0 x4_1).f0).size + 1 + ((rd_T64 s0_0 x4_1).f1).size) = False := eq_false (Nat.not_lt.2 c6)
        by_cases c7 : 5 + ((rd_T64 s0_0 x4_1).f0).size + 1 + ((rd_T64 s0_0 x4_1).f1).size + 1 ≤ 9223372036854775807
        ·rw [if_pos c7] at H
         have c7b0 := eq_true c7
         have c7b1 : decide (5 + ((rd_T64 s0_0 x4_1).f0).size + 1 + ((rd_T64 s0_0 x4_1).f1).size + 1 ≤ 9223372036854775807) = true := decide_eq_true c7
         try have c7b2 : (9223372036854775807 < 5 + ((rd_T64 s0_0 x4_1).f0).size + 1 + ((rd_T64 s0_0 x4_1).f1).size + 1) = False := eq_false (Nat.not_lt.2 c7)
         replace H := Option.bind_eq_some_iff.mp H
         obtain ⟨t147, A80, H⟩ := H
         replace H : (if 5 + ((rd_T64 s0_0 x4_1).f0).size + 1 + ((rd_T64 s0_0 x4_1).f1).size + 1 + t147.size ≤ 9223372036854775807 then (if 5 + ((rd_T64 s0_0 x4_1).f0).size + 1 + ((rd_T64 s0_0 x4_1).f1).size + 1 + t147.size + 1 ≤ 9223372036854775807 then (if x3_1.size + 5 + ((rd_T64 s0_0 x4_1).f0).size + 1 + ((rd_T64 s0_0 x4_1).f1).size + 1 + t147.size + 1 ≤ 9223372036854775807 then (spec_l19Text.l0 k1 (x3_1 ++ (((((((⟨#[114, 97, 105, 108, 32]⟩ : ByteArray) ++ ((rd_T64 s0_0 x4_1).f0)) ++ (⟨#[32]⟩ : ByteArray)) ++ ((rd_T64 s0_0 x4_1).f1)) ++ (⟨#[32]⟩ : ByteArray)) ++ t147) ++ (⟨#[10]⟩ : ByteArray))) (wrap64 (x4_1 + 1)) s0_0 s0_1 s0_2) else (none)) else (none)) else (none)) = some r := H
         have A8 := Aside0.mk A80
         clear A80
         by_cases c9 : 5 + ((rd_T64 s0_0 x4_1).f0).size + 1 + ((rd_T64 s0_0 x4_1).f1).size + 1 + t147.size ≤ 9223372036854775807
         ·rw [if_pos c9] at H
          have c9b0 := eq_true c9
          have c9b1 : decide (5 + ((rd_T64 s0_0 x4_1).f0).size + 1 + ((rd_T64 s0_0 x4_1).f1).size + 1 + t147.size ≤ 9223372036854775807) = true := decide_eq_true c9
          try have c9b2 : (9223372036854775807 < 5 + ((rd_T64 s0_0 x4_1).f0).size + 1 + ((rd_T64 s0_0 x4_1).f1).size + 1 + t147.size) = False := eq_false (Nat.not_lt.2 c9)
          by_cases c10 : 5 + ((rd_T64 s0_0 x4_1).f0).size + 1 + ((rd_T64 s0_0 x4_1).f1).size + 1 + t147.size + 1 ≤ 9223372036854775807
          ·rw [if_pos c10] at H
           have c10b0 := eq_true c10
           have c10b1 : decide (5 + ((rd_T64 s0_0 x4_1).f0).size + 1 + ((rd_T64 s0_0 x4_1).f1).size + 1 + t147.size + 1 ≤ 9223372036854775807) = true := decide_eq_true c10
           try have c10b2 : (9223372036854775807 < 5 + ((rd_T64 s0_0 x4_1).f0).size + 1 + ((rd_T64 s0_0 x4_1).f1).size + 1 + t147.size + 1) = False := eq_false (Nat.not_lt.2 c10)
           by_cases c11 : x3_1.size + 5 + ((rd_T64 s0_0 x4_1).f0).size + 1 + ((rd_T64 s0_0 x4_1).f1).size + 1 + t147.size + 1 ≤ 9223372036854775807
           ·rw [if_pos c11] at H
            have c11b0 := eq_true c11
            have c11b1 : decide (x3_1.size + 5 + ((rd_T64 s0_0 x4_1).f0).size + 1 + ((rd_T64 s0_0 x4_1).f1).size + 1 + t147.size + 1 ≤ 9223372036854775807) = true := decide_eq_true c11
            try have c11b2 : (9223372036854775807 < x3_1.size + 5 + ((rd_T64 s0_0 x4_1).f0).size + 1 + ((rd_T64 s0_0 x4_1).f1).size + 1 + t147.size + 1) = False := eq_false (Nat.not_lt.2 c11)
            have H' := Aside0.mk H
            clear H
            obtain ⟨ASz12_0, cSz12_0, ASz12_1, cSz12_1, ASz12_2, cSz12_2, HGz12, hgz12, HSz12_0, HSz12_1, HSz12_2⟩ := HI0.out
            have hcz12_0 := cellS32_0 HGz12
            have hcz12_1 := cellS32_1 HGz12
            have hcz12_2 := cellS32_2 HGz12
            clear HGz12 hgz12
            have p145 : 0 ≤ (x4_1 : Int) := od_
            have q145 : x4_1 < (s0_0.length : Int) := od_
            obtain ⟨ad145, e145, hx145_0, hx145_1, hx145_2⟩ := at_T64 HSz12_0 x4_1 p145 q145
            cases e145
            replace hx145_0 := pw_cell_below HB.out hx145_0
            replace hx145_1 := pw_cell_below HB.out hx145_1
            replace hx145_2 := pw_cell_below HB.out hx145_2
            replace p145 := eq_true p145
            replace q145 := eq_true q145
            try go_wp2_with (first | ((with_reducible refine gate_dst (N := 5) rfl ?_); refine box_event ?hg (N := 5) ?hd (cs := #[.string (⟨#[]⟩ : ByteArray), .string (⟨#[]⟩ : ByteArray), .int .i64 0]) (t := 64) ?hr ?_; (case hd => rfl); (case hg => rfl); (case hr => first | (go_simp; done) | (go_simp; rfl)); intro gb146 hg w13 hbox hb; have n0_ := Aside0.mk (IsS32.below (by repeat (first | (with_reducible first | exact HI0.out | apply IsS32.alloc | apply IsS32.drewN | apply IsS32.drew) | exact HI0.out)) hb); have n1_ := Aside0.mk (KeepBut.trans (by repeat (first | (with_reducible first | exact HK.out | apply KeepBut.set_ | apply keep_drewN | apply keep_drew | apply keep_alloc) | exact HK.out)) (KeepBut.of_below hb g none) (.inl rfl)); have n2_ := Aside0.mk (below_step (by repeat (first | (with_reducible first | exact HB.out | apply below_alloc | apply pw_below_drewN | apply below_drew1 | refine below_set ?_ (IsS32.ge HI0.out)) | exact HB.out)) hb); have n3_ := Aside0.mk (hbox); have n4_ := Aside0.mk ((by rw [hg]; exact (keep_size (w := w) (g := g) (row := none) (by repeat (first | (with_reducible first | exact HK.out | apply KeepBut.set_ | apply keep_drewN | apply keep_drew | apply keep_alloc) | exact HK.out))) : w.heap.size ≤ gb146)); have n5_ := Aside0.mk ((Nat.le_trans HW0.out (by rw [hg]; exact (keep_size (w := w) (g := g) (row := none) (by repeat (first | (with_reducible first | exact HK.out | apply KeepBut.set_ | apply keep_drewN | apply keep_drew | apply keep_alloc) | exact HK.out))) : w.heap.size ≤ gb146) : w0.heap.size ≤ gb146)); have n6_ := Aside0.mk ((by rw [hg]; exact Nat.ne_of_lt (IsS32.lt (show IsS32 w0 _ g s0_0 s0_1 s0_2 from by repeat (first | (with_reducible first | exact HI0.out | apply IsS32.alloc | apply IsS32.drewN | apply IsS32.drew) | exact HI0.out))) : g ≠ gb146)); have n7_ := Aside0.mk ((by rw [hg]; exact Nat.ne_of_gt (IsS32.lt (show IsS32 w0 _ g s0_0 s0_1 s0_2 from by repeat (first | (with_reducible first | exact HI0.out | apply IsS32.alloc | apply IsS32.drewN | apply IsS32.drew) | exact HI0.out))) : gb146 ≠ g)); clear HI0; clear HK; clear HB; have HI0 := n0_; have HK := n1_; have HB := n2_; have BK146 := n3_; have GW146 := n4_; have GE146 := n5_; have NB0_146 := n6_; have NB146_0 := n7_; clear n0_ n1_ n2_ n3_ n4_ n5_ n6_ n7_; clear hb hbox hg; have hnb14 := NB146_0.out; have hnc14 := NB0_146.out; have hcz15_0 : w13.cell? ⟨gb146, 0, none⟩ = some (.string (⟨#[]⟩ : ByteArray)) := (blk_cell BK146.out 0).trans rfl; have hcz15_1 : w13.cell? ⟨gb146, 1, none⟩ = some (.string (⟨#[]⟩ : ByteArray)) := (blk_cell BK146.out 1).trans rfl; have hcz15_2 : w13.cell? ⟨gb146, 2, none⟩ = some (.int .i64 0) := (blk_cell BK146.out 2).trans rfl; have hfz15_0 := blk_frozen BK146.out 0; have hfz15_1 := blk_frozen BK146.out 1; have hfz15_2 := blk_frozen BK146.out 2))
            have n0_ : Aside0 ((((w13.setCell ⟨gb146, 0, none⟩ (.string ((rd_T64 s0_0 x4_1).f0))).setCell ⟨gb146, 1, none⟩ (.string ((rd_T64 s0_0 x4_1).f1))).setCell ⟨gb146, 2, none⟩ (.int .i64 ((rd_T64 s0_0 x4_1).f2))).heap[gb146]? = some (.cells #[.string ((rd_T64 s0_0 x4_1).f0), .string ((rd_T64 s0_0 x4_1).f1), .int .i64 ((rd_T64 s0_0 x4_1).f2)] 64 (0, 0))) := ⟨by (with_reducible repeat (first | refine blk_drewN ?_ _ | refine blk_drew ?_ | refine blk_alloc ?_ _)); refine blk_put (cs := #[.string ((rd_T64 s0_0 x4_1).f0), .string ((rd_T64 s0_0 x4_1).f1), .int .i64 0]) ?_ 2 _ rfl; (with_reducible repeat (first | refine blk_drewN ?_ _ | refine blk_drew ?_ | refine blk_alloc ?_ _)); refine blk_put (cs := #[.string ((rd_T64 s0_0 x4_1).f0), .string (⟨#[]⟩ : ByteArray), .int .i64 0]) ?_ 1 _ rfl; (with_reducible repeat (first | refine blk_drewN ?_ _ | refine blk_drew ?_ | refine blk_alloc ?_ _)); refine blk_put (cs := #[.string (⟨#[]⟩ : ByteArray), .string (⟨#[]⟩ : ByteArray), .int .i64 0]) ?_ 0 _ rfl; (with_reducible repeat (first | refine blk_drewN ?_ _ | refine blk_drew ?_ | refine blk_alloc ?_ _)); exact BK146.out⟩
            have n1_ : Aside0 (IsS32 w0 (((w13.setCell ⟨gb146, 0, none⟩ (.string ((rd_T64 s0_0 x4_1).f0))).setCell ⟨gb146, 1, none⟩ (.string ((rd_T64 s0_0 x4_1).f1))).setCell ⟨gb146, 2, none⟩ (.int .i64 ((rd_T64 s0_0 x4_1).f2))) g s0_0 s0_1 s0_2) := ⟨by repeat (first | (with_reducible first | exact HI0.out | apply IsS32.alloc | apply IsS32.drewN | apply IsS32.drew | refine IsS32.far ?_ NB0_146.out _) | exact HI0.out)⟩
            have n2_ : Aside0 (KeepBut w (((w13.setCell ⟨gb146, 0, none⟩ (.string ((rd_T64 s0_0 x4_1).f0))).setCell ⟨gb146, 1, none⟩ (.string ((rd_T64 s0_0 x4_1).f1))).setCell ⟨gb146, 2, none⟩ (.int .i64 ((rd_T64 s0_0 x4_1).f2))) g none) := ⟨by repeat (first | (with_reducible first | exact HK.out | apply KeepBut.set_ | apply keep_drewN | apply keep_drew | apply keep_alloc | refine keep_far ?_ GW146.out _) | exact HK.out)⟩
            have n3_ : Aside0 (Below w0.heap.size w0 (((w13.setCell ⟨gb146, 0, none⟩ (.string ((rd_T64 s0_0 x4_1).f0))).setCell ⟨gb146, 1, none⟩ (.string ((rd_T64 s0_0 x4_1).f1))).setCell ⟨gb146, 2, none⟩ (.int .i64 ((rd_T64 s0_0 x4_1).f2)))) := ⟨by repeat (first | (with_reducible first | exact HB.out | apply below_alloc | apply pw_below_drewN | apply below_drew1 | refine below_set ?_ (IsS32.ge HI0.out) | refine below_set ?_ GE146.out) | exact HB.out)⟩
            (try clear BK146)
            (try clear HI0)
            (try clear HK)
            (try clear HB)
            generalize (((w13.setCell ⟨gb146, 0, none⟩ (.string ((rd_T64 s0_0 x4_1).f0))).setCell ⟨gb146, 1, none⟩ (.string ((rd_T64 s0_0 x4_1).f1))).setCell ⟨gb146, 2, none⟩ (.int .i64 ((rd_T64 s0_0 x4_1).f2))) = w16 at n0_ n1_ n2_ n3_ ⊢
            have BK146 := n0_
            have HI0 := n1_
            have HK := n2_
            have HB := n3_
            clear n0_ n1_ n2_ n3_
            have n0_ := Aside0.mk (blk_drew BK146.out)
            have n1_ := Aside0.mk (IsS32.drew HI0.out)
            have n2_ := Aside0.mk (keep_drew HK.out)
            have n3_ := Aside0.mk (below_drew1 HB.out)
            clear BK146
            clear HI0
            clear HK
            clear HB
            have BK146 := n0_
            have HI0 := n1_
            have HK := n2_
            have HB := n3_
            clear n0_ n1_ n2_ n3_
            refine start_ (n := 16) (S := fun w' => w'.cell? ⟨gb146, 0, none⟩ = some (.string ((rd_T64 s0_0 x4_1).f0)) ∧ w'.cell? ⟨gb146, 1, none⟩ = some (.string ((rd_T64 s0_0 x4_1).f1)) ∧ w'.cell? ⟨gb146, 2, none⟩ = some (.int .i64 ((rd_T64 s0_0 x4_1).f2))) (ds := []) #[F_,F_,F_,F_,F_,F_,F_,F_,F_,F_,F_,F_,F_,F_,F_,F_] (by kernel_rfl) rfl rfl ⟨(blk_cell BK146.out 0).trans rfl, (blk_cell BK146.out 1).trans rfl, (blk_cell BK146.out 2).trans rfl⟩ (fun hHeld => ?_); refine with_tabW spec_l19Text.tab6 spec_l19Text.bits6 (fun HT_ HW_ => ?_)
            generalize w16.drew = w17 at BK146 HI0 HK HB hHeld ⊢
            refine pu (i := 0) (N := some 25) #[T_,F_,F_,F_,F_,F_,F_,F_,F_,F_,F_,F_,F_,F_,F_,F_] HT_ ?_
            refine pu (i := 1) (N := some 26) #[T_,T_,F_,F_,F_,F_,F_,F_,F_,F_,F_,F_,F_,F_,F_,F_] HT_ ?_
            refine pu (i := 5) (N := some 30) #[T_,T_,F_,F_,F_,T_,F_,F_,F_,F_,F_,F_,F_,F_,F_,F_] HT_ ?_
            refine pu (i := 9) (N := some 34) #[T_,T_,F_,F_,F_,T_,F_,F_,F_,T_,F_,F_,F_,F_,F_,F_] HT_ ?_
            refine take_ (i := 2) (N := some 27) (v := ?_) (a' := ?_) #[T_,T_,T_,F_,F_,T_,F_,F_,F_,T_,F_,F_,F_,F_,F_,F_] rfl rfl (take_ofW HT_.out HW_.out (by kernel_rfl)) (fun _ _ _ h => h) (Or.inl ⟨by rfl, ?_⟩) hHeld ?_ ?_
            rotate_left
            ·rintro w' ⟨s0, s1, s2⟩
             go_simp
             with_reducible rfl
            rotate_left
            ·simp only [Act.put, sT_, s0_, sS_, i64_w, i32_w]
             rfl
            refine pu (i := 3) (N := some 28) #[T_,T_,T_,T_,F_,T_,F_,F_,F_,T_,F_,F_,F_,F_,F_,F_] HT_ ?_
            refine pu (i := 4) (N := some 29) #[T_,T_,T_,T_,T_,T_,F_,F_,F_,T_,F_,F_,F_,F_,F_,F_] HT_ ?_
            refine take_ (i := 6) (N := some 31) (v := ?_) (a' := ?_) #[T_,T_,T_,T_,T_,T_,T_,F_,F_,T_,F_,F_,F_,F_,F_,F_] rfl rfl (take_ofW HT_.out HW_.out (by kernel_rfl)) (fun _ _ _ h => h) (Or.inl ⟨by rfl, ?_⟩) hHeld ?_ ?_
            rotate_left
            ·rintro w' ⟨s0, s1, s2⟩
             go_simp
             with_reducible rfl
            rotate_left
            ·simp only [Act.put, sT_, s0_, sS_, i64_w, i32_w]
             rfl
            refine pu (i := 7) (N := some 32) #[T_,T_,T_,T_,T_,T_,T_,T_,F_,T_,F_,F_,F_,F_,F_,F_] HT_ ?_
            refine pu (i := 8) (N := some 33) #[T_,T_,T_,T_,T_,T_,T_,T_,T_,T_,F_,F_,F_,F_,F_,F_] HT_ ?_
            refine take_ (i := 10) (N := some 35) (v := ?_) (a' := ?_) #[T_,T_,T_,T_,T_,T_,T_,T_,T_,T_,T_,F_,F_,F_,F_,F_] rfl rfl (take_ofW HT_.out HW_.out (by kernel_rfl)) (fun _ _ _ h => h) (Or.inl ⟨by rfl, ?_⟩) hHeld ?_ ?_
            rotate_left
            ·rintro w' ⟨s0, s1, s2⟩
             go_simp
             with_reducible rfl
            rotate_left
            ·simp only [Act.put, sT_, s0_, sS_, i64_w, i32_w]
             rfl
            refine one_ (i := 11) (N := some 36) #[T_,T_,T_,T_,T_,T_,T_,T_,T_,T_,T_,T_,F_,F_,F_,F_] rfl rfl (one_of HT_.out (by kernel_rfl)) (by decide) (fun K hK => ?_)
            refine goes_ Tryd.func66 (by kernel_rfl) rfl #[.int .i64 ((rd_T64 s0_0 x4_1).f2)] (by rfl) rfl rfl ln_ ?_
            with_reducible refine (spec_l01Dec.calls k1 ((rd_T64 s0_0 x4_1).f2) t147 _ A8.out).mono ?_
            rintro e w18 ⟨rfl, hb⟩
            refine ⟨_, rfl, ?_⟩
            have n0_ := Aside0.mk (IsS32.below (by repeat (first | (with_reducible first | exact HI0.out | apply IsS32.alloc | apply IsS32.drewN | apply IsS32.drew | refine IsS32.far ?_ NB0_146.out _) | exact HI0.out)) hb)
            have n1_ := Aside0.mk (blk_below (g := gb146) (o := .cells #[.string ((rd_T64 s0_0 x4_1).f0), .string ((rd_T64 s0_0 x4_1).f1), .int .i64 ((rd_T64 s0_0 x4_1).f2)] 64 (0, 0)) (bk_ BK146) hb)
            have n2_ := Aside0.mk (KeepBut.trans (by repeat (first | (with_reducible first | exact HK.out | apply KeepBut.set_ | apply keep_drewN | apply keep_drew | apply keep_alloc | refine keep_far ?_ GW146.out _) | exact HK.out)) (KeepBut.of_below hb g none) (.inl rfl))
            have n3_ := Aside0.mk (below_step (by repeat (first | (with_reducible first | exact HB.out | apply below_alloc | apply pw_below_drewN | apply below_drew1 | refine below_set ?_ (IsS32.ge HI0.out) | refine below_set ?_ GE146.out) | exact HB.out)) hb)
            clear HI0
            clear BK146
            clear HK
            clear HB
            have HI0 := n0_
            have BK146 := n1_
            have HK := n2_
            have HB := n3_
            clear n0_ n1_ n2_ n3_
            (try clear hb)
            (try clear hb2)
            (try clear hk)
            (try clear hi)
            refine hK.out _ _ ⟨(blk_cell BK146.out 0).trans rfl, (blk_cell BK146.out 1).trans rfl, (blk_cell BK146.out 2).trans rfl⟩ (fun hHeld => ?_)
            clear hK K
            refine norm_ (a' := ?_) ?_ ?_
            rotate_left
            ·show Act.put _ (some 36) _ = _
             simp only [Act.put, sT_, s0_, sS_, i64_w, i32_w]
             rfl
            refine pu (i := 12) (N := some 37) #[T_,T_,T_,T_,T_,T_,T_,T_,T_,T_,T_,T_,T_,F_,F_,F_] HT_ ?_
            refine pu (i := 13) (N := some 38) #[T_,T_,T_,T_,T_,T_,T_,T_,T_,T_,T_,T_,T_,T_,F_,F_] HT_ ?_
            refine pu (i := 14) (N := some 39) #[T_,T_,T_,T_,T_,T_,T_,T_,T_,T_,T_,T_,T_,T_,T_,F_] HT_ ?_
            refine pu (i := 15) (N := some 3) #[T_,T_,T_,T_,T_,T_,T_,T_,T_,T_,T_,T_,T_,T_,T_,T_] HT_ ?_
            refine done_ (done_of HT_.out (by kernel_rfl)) ?_
            try go_wp2
            go_roundg k1
            case measure => have := HK1.out; omega
            case rel => exact ⟨(x3_1 ++ (((((((⟨#[114, 97, 105, 108, 32]⟩ : ByteArray) ++ ((rd_T64 s0_0 x4_1).f0)) ++ (⟨#[32]⟩ : ByteArray)) ++ ((rd_T64 s0_0 x4_1).f1)) ++ (⟨#[32]⟩ : ByteArray)) ++ t147) ++ (⟨#[10]⟩ : ByteArray))), (wrap64 (x4_1 + 1)), (by first | rfl | (simp; done) | (simp [*]; done)), (by first | rfl | (simp; done) | (simp [*]; done)), H', ⟨by have := HK1.out; omega⟩, ⟨by repeat (first | (with_reducible first | exact HI0.out | apply IsS32.alloc | apply IsS32.drewN | apply IsS32.drew | refine IsS32.far ?_ NB0_146.out _) | exact HI0.out)⟩, ⟨by repeat (first | (with_reducible first | exact HK.out | apply KeepBut.set_ | apply keep_drewN | apply keep_drew | apply keep_alloc | refine keep_far ?_ GW146.out _) | exact HK.out)⟩, ⟨by repeat (first | (with_reducible first | exact HB.out | apply below_alloc | apply pw_below_drewN | apply below_drew1 | refine below_set ?_ (IsS32.ge HI0.out) | refine below_set ?_ GE146.out) | exact HB.out)⟩⟩
           ·rw [if_neg c11] at H
            exact absurd H (by simp)
          ·rw [if_neg c10] at H
           exact absurd H (by simp)
         ·rw [if_neg c9] at H
          exact absurd H (by simp)
        ·rw [if_neg c7] at H
         exact absurd H (by simp)
       ·rw [if_neg c6] at H
        exact absurd H (by simp)
      ·rw [if_neg c5] at H
       exact absurd H (by simp)
     ·rw [if_neg c4] at H
      exact absurd H (by simp)
    ·rw [if_neg c3] at H
     exact absurd H (by simp)
   ·rw [if_neg c2] at H
    have c2b0 : decide (x4_1 < (s0_0.length : Int)) = false := decide_eq_false c2
    clear c2
    have H' := Aside0.mk H
    clear H
    obtain ⟨ASz19_0, cSz19_0, ASz19_1, cSz19_1, ASz19_2, cSz19_2, HGz19, hgz19, HSz19_0, HSz19_1, HSz19_2⟩ := HI0.out
    have hcz19_0 := cellS32_0 HGz19
    have hcz19_1 := cellS32_1 HGz19
    have hcz19_2 := cellS32_2 HGz19
    clear HGz19 hgz19
    go_wp2
    go_loopg [3, 6] k1 (fun kq v3 v6 w' => ∃ (x3_2 : ByteArray) (x6_2 : Int), v3 = .string x3_2 ∧ v6 = .int .i64 x6_2 ∧ Aside0 (spec_l19Text.l1 kq x3_2 x6_2 s0_0 s0_1 s0_2 = some r) ∧ Aside0 (kq ≤ k1) ∧ Aside0 (IsS32 w0 w' g s0_0 s0_1 s0_2) ∧ Aside0 (KeepBut w w' g none) ∧ Aside0 (Below w0.heap.size w0 w'))
    case atStart => exact ⟨(x3_1), (0), (by first | rfl | (simp; done) | (simp [*]; done)), (by first | rfl | (simp; done) | (simp [*]; done)), H', ⟨Nat.le_refl _⟩, ⟨by repeat (first | (with_reducible first | exact HI0.out | apply IsS32.alloc | apply IsS32.drewN | apply IsS32.drew) | exact HI0.out)⟩, ⟨by repeat (first | (with_reducible first | exact HK.out | apply KeepBut.set_ | apply keep_drewN | apply keep_drew | apply keep_alloc) | exact HK.out)⟩, ⟨by repeat (first | (with_reducible first | exact HB.out | apply below_alloc | apply pw_below_drewN | apply below_drew1 | refine below_set ?_ (IsS32.ge HI0.out)) | exact HB.out)⟩⟩
    case round =>
     clear H'
     try clear c1
     try clear p1
     try clear q1
     try clear hx1
     try clear c2
     try clear c2b0
     try clear p2
     try clear c3
     try clear c3b0
     try clear c4
     try clear c4b0
     try clear c4b1
     try clear c4b2
     try clear c5
     try clear c5b0
     try clear c5b1
     try clear c5b2
     try clear c6
     try clear c6b0
     try clear c6b1
     try clear c6b2
     try clear p6
     try clear c7
     try clear c7b0
     try clear c7b1
     try clear c7b2
     try clear c9
     try clear c9b0
     try clear c9b1
     try clear c9b2
     try clear c10
     try clear c10b0
     try clear c10b1
     try clear c10b2
     try clear c11
     try clear c11b0
     try clear c11b1
     try clear c11b2
     try clear c14
     try clear p14
     try clear q14
     try clear hx14
     try clear hcz12_0
     try clear hcz12_1
     try clear hcz12_2
     try clear hcz15_0
     try clear hcz15_1
     try clear hcz15_2
     try clear hcz19_0
     try clear hcz19_1
     try clear hcz19_2
     try clear hfz15_0
     try clear hfz15_1
     try clear hfz15_2
     try clear hx145_0
     try clear hx145_1
     try clear hx145_2
     try clear p145
     try clear q145
     obtain ⟨x3_2, x6_2, rfl, rfl, HA, HK2, HI0, HK, HB⟩ := hrel
     cases gk with
     | zero => exact absurd HA.out (by simp [spec_l19Text.l1])
     | succ k2 =>
      have H := HA.out
      clear HA
      simp only [spec_l19Text.l1] at H
      by_cases c20 : x6_2 < (s0_1.length : Int)
      ·rw [if_pos c20] at H
       have c20b0 : decide (x6_2 < (s0_1.length : Int)) = true := decide_eq_true c20
       clear c20
       by_cases c21 : 0 ≤ x6_2
       ·rw [if_pos c21] at H
        have c21b0 : decide (0 ≤ x6_2) = true := decide_eq_true c21
        clear c21
        by_cases c22 : 5 + (rdOf ByteArray.empty s0_1 x6_2).size ≤ 9223372036854775807
        ·rw [if_pos c22] at H
         have c22b0 := eq_true c22
         have c22b1 : decide (5 + (rdOf ByteArray.empty s0_1 x6_2).size ≤ 9223372036854775807) = true := decide_eq_true c22
         try have c22b2 : (9223372036854775807 < 5 + (rdOf ByteArray.empty s0_1 x6_2).size) = False := eq_false (Nat.not_lt.2 c22)
         by_cases c23 : 5 + (rdOf ByteArray.empty s0_1 x6_2).size + 1 ≤ 9223372036854775807
         ·rw [if_pos c23] at H
          have c23b0 := eq_true c23
          have c23b1 : decide (5 + (rdOf ByteArray.empty s0_1 x6_2).size + 1 ≤ 9223372036854775807) = true := decide_eq_true c23
          try have c23b2 : (9223372036854775807 < 5 + (rdOf ByteArray.empty s0_1 x6_2).size + 1) = False := eq_false (Nat.not_lt.2 c23)
          by_cases c24 : x3_2.size + 5 + (rdOf ByteArray.empty s0_1 x6_2).size + 1 ≤ 9223372036854775807
          ·rw [if_pos c24] at H
           have c24b0 := eq_true c24
           have c24b1 : decide (x3_2.size + 5 + (rdOf ByteArray.empty s0_1 x6_2).size + 1 ≤ 9223372036854775807) = true := decide_eq_true c24
           try have c24b2 : (9223372036854775807 < x3_2.size + 5 + (rdOf ByteArray.empty s0_1 x6_2).size + 1) = False := eq_false (Nat.not_lt.2 c24)
           have H' := Aside0.mk H
           clear H
           obtain ⟨ASz25_0, cSz25_0, ASz25_1, cSz25_1, ASz25_2, cSz25_2, HGz25, hgz25, HSz25_0, HSz25_1, HSz25_2⟩ := HI0.out
           have hcz25_0 := cellS32_0 HGz25
           have hcz25_1 := cellS32_1 HGz25
           have hcz25_2 := cellS32_2 HGz25
           clear HGz25 hgz25
           have p148 : 0 ≤ (x6_2 : Int) := od_
           have q148 : x6_2 < (s0_1.length : Int) := od_
           obtain ⟨ad148, e148, hx148_0⟩ := Kd.at_string HSz25_1 x6_2 p148 q148
           cases e148
           replace hx148_0 := pw_cell_below HB.out hx148_0
           replace p148 := eq_true p148
           replace q148 := eq_true q148
           go_wp2
           go_roundg k2
           case measure => have := HK1.out; have := HK2.out; omega
           case rel => exact ⟨(x3_2 ++ (((⟨#[108, 105, 110, 101, 32]⟩ : ByteArray) ++ (rdOf ByteArray.empty s0_1 x6_2)) ++ (⟨#[10]⟩ : ByteArray))), (wrap64 (x6_2 + 1)), (by first | rfl | (simp; done) | (simp [*]; done)), (by first | rfl | (simp; done) | (simp [*]; done)), H', ⟨by have := HK1.out; have := HK2.out; omega⟩, ⟨by repeat (first | (with_reducible first | exact HI0.out | apply IsS32.alloc | apply IsS32.drewN | apply IsS32.drew) | exact HI0.out)⟩, ⟨by repeat (first | (with_reducible first | exact HK.out | apply KeepBut.set_ | apply keep_drewN | apply keep_drew | apply keep_alloc) | exact HK.out)⟩, ⟨by repeat (first | (with_reducible first | exact HB.out | apply below_alloc | apply pw_below_drewN | apply below_drew1 | refine below_set ?_ (IsS32.ge HI0.out)) | exact HB.out)⟩⟩
          ·rw [if_neg c24] at H
           exact absurd H (by simp)
         ·rw [if_neg c23] at H
          exact absurd H (by simp)
        ·rw [if_neg c22] at H
         exact absurd H (by simp)
       ·rw [if_neg c21] at H
        exact absurd H (by simp)
      ·rw [if_neg c20] at H
       have c20b0 : decide (x6_2 < (s0_1.length : Int)) = false := decide_eq_false c20
       clear c20
       have H' := Aside0.mk H
       clear H
       obtain ⟨ASz26_0, cSz26_0, ASz26_1, cSz26_1, ASz26_2, cSz26_2, HGz26, hgz26, HSz26_0, HSz26_1, HSz26_2⟩ := HI0.out
       have hcz26_0 := cellS32_0 HGz26
       have hcz26_1 := cellS32_1 HGz26
       have hcz26_2 := cellS32_2 HGz26
       clear HGz26 hgz26
       go_wp2
       go_loopg [3, 7] k2 (fun kq v3 v7 w' => ∃ (x3_3 : ByteArray) (x7_3 : Int), v3 = .string x3_3 ∧ v7 = .int .i64 x7_3 ∧ Aside0 (spec_l19Text.l2 kq x3_3 x7_3 s0_0 s0_1 s0_2 = some r) ∧ Aside0 (kq ≤ k2) ∧ Aside0 (IsS32 w0 w' g s0_0 s0_1 s0_2) ∧ Aside0 (KeepBut w w' g none) ∧ Aside0 (Below w0.heap.size w0 w'))
       case atStart => exact ⟨(x3_2), (0), (by first | rfl | (simp; done) | (simp [*]; done)), (by first | rfl | (simp; done) | (simp [*]; done)), H', ⟨Nat.le_refl _⟩, ⟨by repeat (first | (with_reducible first | exact HI0.out | apply IsS32.alloc | apply IsS32.drewN | apply IsS32.drew) | exact HI0.out)⟩, ⟨by repeat (first | (with_reducible first | exact HK.out | apply KeepBut.set_ | apply keep_drewN | apply keep_drew | apply keep_alloc) | exact HK.out)⟩, ⟨by repeat (first | (with_reducible first | exact HB.out | apply below_alloc | apply pw_below_drewN | apply below_drew1 | refine below_set ?_ (IsS32.ge HI0.out)) | exact HB.out)⟩⟩
       case round =>
        clear H'
        try clear c1
        try clear p1
        try clear q1
        try clear hx1
        try clear c2
        try clear c2b0
        try clear p2
        try clear c3
        try clear c3b0
        try clear c4
        try clear c4b0
        try clear c4b1
        try clear c4b2
        try clear c5
        try clear c5b0
        try clear c5b1
        try clear c5b2
        try clear c6
        try clear c6b0
        try clear c6b1
        try clear c6b2
        try clear p6
        try clear c7
        try clear c7b0
        try clear c7b1
        try clear c7b2
        try clear c9
        try clear c9b0
        try clear c9b1
        try clear c9b2
        try clear c10
        try clear c10b0
        try clear c10b1
        try clear c10b2
        try clear c11
        try clear c11b0
        try clear c11b1
        try clear c11b2
        try clear c14
        try clear p14
        try clear q14
        try clear hx14
        try clear c20
        try clear c20b0
        try clear c21
        try clear c21b0
        try clear c22
        try clear c22b0
        try clear c22b1
        try clear c22b2
        try clear c23
        try clear c23b0
        try clear c23b1
        try clear c23b2
        try clear c24
        try clear c24b0
        try clear c24b1
        try clear c24b2
        try clear hcz12_0
        try clear hcz12_1
        try clear hcz12_2
        try clear hcz15_0
        try clear hcz15_1
        try clear hcz15_2
        try clear hcz19_0
        try clear hcz19_1
        try clear hcz19_2
        try clear hcz25_0
        try clear hcz25_1
        try clear hcz25_2
        try clear hcz26_0
        try clear hcz26_1
        try clear hcz26_2
        try clear hfz15_0
        try clear hfz15_1
        try clear hfz15_2
        try clear hx145_0
        try clear hx145_1
        try clear hx145_2
        try clear hx148_0
        try clear p1
        try clear p14
        try clear p145
        try clear p148
        try clear p2
        try clear p6
        try clear q1
        try clear q14
        try clear q145
        try clear q148
        obtain ⟨x3_3, x7_3, rfl, rfl, HA, HK3, HI0, HK, HB⟩ := hrel
        cases gk with
        | zero => exact absurd HA.out (by simp [spec_l19Text.l2])
        | succ k3 =>
         have H := HA.out
         clear HA
         simp only [spec_l19Text.l2] at H
         by_cases c27 : x7_3 < (s0_2.length : Int)
         ·rw [if_pos c27] at H
          have c27b0 : decide (x7_3 < (s0_2.length : Int)) = true := decide_eq_true c27
          clear c27
          by_cases c28 : 0 ≤ x7_3
          ·rw [if_pos c28] at H
           have c28b0 : decide (0 ≤ x7_3) = true := decide_eq_true c28
           clear c28
           by_cases c29 : 6 + ((rd_T67 s0_2 x7_3).f0).size ≤ 9223372036854775807
           ·rw [if_pos c29] at H
            have c29b0 := eq_true c29
            have c29b1 : decide (6 + ((rd_T67 s0_2 x7_3).f0).size ≤ 9223372036854775807) = true := decide_eq_true c29
            try have c29b2 : (9223372036854775807 < 6 + ((rd_T67 s0_2 x7_3).f0).size) = False := eq_false (Nat.not_lt.2 c29)
            by_cases c30 : 6 + ((rd_T67 s0_2 x7_3).f0).size + 1 ≤ 9223372036854775807
            ·rw [if_pos c30] at H
             have c30b0 := eq_true c30
             have c30b1 : decide (6 + ((rd_T67 s0_2 x7_3).f0).size + 1 ≤ 9223372036854775807) = true := decide_eq_true c30
             try have c30b2 : (9223372036854775807 < 6 + ((rd_T67 s0_2 x7_3).f0).size + 1) = False := eq_false (Nat.not_lt.2 c30)
             by_cases c31 : 6 + ((rd_T67 s0_2 x7_3).f0).size + 1 + ((rd_T67 s0_2 x7_3).f1).size ≤ 9223372036854775807
             ·rw [if_pos c31] at H
              have c31b0 := eq_true c31
              have c31b1 : decide (6 + ((rd_T67 s0_2 x7_3).f0).size + 1 + ((rd_T67 s0_2 x7_3).f1).size ≤ 9223372036854775807) = true := decide_eq_true c31
              try have c31b2 : (9223372036854775807 < 6 + ((rd_T67 s0_2 x7_3).f0).size + 1 + ((rd_T67 s0_2 x7_3).f1).size) = False := eq_false (Nat.not_lt.2 c31)
              by_cases c32 : 6 + ((rd_T67 s0_2 x7_3).f0).size + 1 + ((rd_T67 s0_2 x7_3).f1).size + 1 ≤ 9223372036854775807
              ·rw [if_pos c32] at H
               have c32b0 := eq_true c32
               have c32b1 : decide (6 + ((rd_T67 s0_2 x7_3).f0).size + 1 + ((rd_T67 s0_2 x7_3).f1).size + 1 ≤ 9223372036854775807) = true := decide_eq_true c32
               try have c32b2 : (9223372036854775807 < 6 + ((rd_T67 s0_2 x7_3).f0).size + 1 + ((rd_T67 s0_2 x7_3).f1).size + 1) = False := eq_false (Nat.not_lt.2 c32)
               replace H := Option.bind_eq_some_iff.mp H
               obtain ⟨t151, A330, H⟩ := H
               replace H : (if 6 + ((rd_T67 s0_2 x7_3).f0).size + 1 + ((rd_T67 s0_2 x7_3).f1).size + 1 + t151.size ≤ 9223372036854775807 then (if 6 + ((rd_T67 s0_2 x7_3).f0).size + 1 + ((rd_T67 s0_2 x7_3).f1).size + 1 + t151.size + 1 ≤ 9223372036854775807 then (if x3_3.size + 6 + ((rd_T67 s0_2 x7_3).f0).size + 1 + ((rd_T67 s0_2 x7_3).f1).size + 1 + t151.size + 1 ≤ 9223372036854775807 then (spec_l19Text.l2 k3 (x3_3 ++ (((((((⟨#[98, 101, 108, 97, 121, 32]⟩ : ByteArray) ++ ((rd_T67 s0_2 x7_3).f0)) ++ (⟨#[32]⟩ : ByteArray)) ++ ((rd_T67 s0_2 x7_3).f1)) ++ (⟨#[32]⟩ : ByteArray)) ++ t151) ++ (⟨#[10]⟩ : ByteArray))) (wrap64 (x7_3 + 1)) s0_0 s0_1 s0_2) else (none)) else (none)) else (none)) = some r := H
               have A33 := Aside0.mk A330
               clear A330
               by_cases c34 : 6 + ((rd_T67 s0_2 x7_3).f0).size + 1 + ((rd_T67 s0_2 x7_3).f1).size + 1 + t151.size ≤ 9223372036854775807
               ·rw [if_pos c34] at H
                have c34b0 := eq_true c34
                have c34b1 : decide (6 + ((rd_T67 s0_2 x7_3).f0).size + 1 + ((rd_T67 s0_2 x7_3).f1).size + 1 + t151.size ≤ 9223372036854775807) = true := decide_eq_true c34
                try have c34b2 : (9223372036854775807 < 6 + ((rd_T67 s0_2 x7_3).f0).size + 1 + ((rd_T67 s0_2 x7_3).f1).size + 1 + t151.size) = False := eq_false (Nat.not_lt.2 c34)
                by_cases c35 : 6 + ((rd_T67 s0_2 x7_3).f0).size + 1 + ((rd_T67 s0_2 x7_3).f1).size + 1 + t151.size + 1 ≤ 9223372036854775807
                ·rw [if_pos c35] at H
                 have c35b0 := eq_true c35
                 have c35b1 : decide (6 + ((rd_T67 s0_2 x7_3).f0).size + 1 + ((rd_T67 s0_2 x7_3).f1).size + 1 + t151.size + 1 ≤ 9223372036854775807) = true := decide_eq_true c35
                 try have c35b2 : (9223372036854775807 < 6 + ((rd_T67 s0_2 x7_3).f0).size + 1 + ((rd_T67 s0_2 x7_3).f1).size + 1 + t151.size + 1) = False := eq_false (Nat.not_lt.2 c35)
                 by_cases c36 : x3_3.size + 6 + ((rd_T67 s0_2 x7_3).f0).size + 1 + ((rd_T67 s0_2 x7_3).f1).size + 1 + t151.size + 1 ≤ 9223372036854775807
                 ·rw [if_pos c36] at H
                  have c36b0 := eq_true c36
                  have c36b1 : decide (x3_3.size + 6 + ((rd_T67 s0_2 x7_3).f0).size + 1 + ((rd_T67 s0_2 x7_3).f1).size + 1 + t151.size + 1 ≤ 9223372036854775807) = true := decide_eq_true c36
                  try have c36b2 : (9223372036854775807 < x3_3.size + 6 + ((rd_T67 s0_2 x7_3).f0).size + 1 + ((rd_T67 s0_2 x7_3).f1).size + 1 + t151.size + 1) = False := eq_false (Nat.not_lt.2 c36)
                  have H' := Aside0.mk H
                  clear H
                  obtain ⟨ASz37_0, cSz37_0, ASz37_1, cSz37_1, ASz37_2, cSz37_2, HGz37, hgz37, HSz37_0, HSz37_1, HSz37_2⟩ := HI0.out
                  have hcz37_0 := cellS32_0 HGz37
                  have hcz37_1 := cellS32_1 HGz37
                  have hcz37_2 := cellS32_2 HGz37
                  clear HGz37 hgz37
                  have p149 : 0 ≤ (x7_3 : Int) := od_
                  have q149 : x7_3 < (s0_2.length : Int) := od_
                  obtain ⟨ad149, e149, hx149_0, hx149_1, hx149_2⟩ := at_T67 HSz37_2 x7_3 p149 q149
                  cases e149
                  replace hx149_0 := pw_cell_below HB.out hx149_0
                  replace hx149_1 := pw_cell_below HB.out hx149_1
                  replace hx149_2 := pw_cell_below HB.out hx149_2
                  replace p149 := eq_true p149
                  replace q149 := eq_true q149
                  try go_wp2_with (first | ((with_reducible refine gate_dst (N := 8) rfl ?_); refine box_event ?hg (N := 8) ?hd (cs := #[.string (⟨#[]⟩ : ByteArray), .string (⟨#[]⟩ : ByteArray), .int .i64 0]) (t := 67) ?hr ?_; (case hd => rfl); (case hg => rfl); (case hr => first | (go_simp; done) | (go_simp; rfl)); intro gb150 hg w38 hbox hb; have n0_ := Aside0.mk (IsS32.below (by repeat (first | (with_reducible first | exact HI0.out | apply IsS32.alloc | apply IsS32.drewN | apply IsS32.drew) | exact HI0.out)) hb); have n1_ := Aside0.mk (KeepBut.trans (by repeat (first | (with_reducible first | exact HK.out | apply KeepBut.set_ | apply keep_drewN | apply keep_drew | apply keep_alloc) | exact HK.out)) (KeepBut.of_below hb g none) (.inl rfl)); have n2_ := Aside0.mk (below_step (by repeat (first | (with_reducible first | exact HB.out | apply below_alloc | apply pw_below_drewN | apply below_drew1 | refine below_set ?_ (IsS32.ge HI0.out)) | exact HB.out)) hb); have n3_ := Aside0.mk (hbox); have n4_ := Aside0.mk ((by rw [hg]; exact (keep_size (w := w) (g := g) (row := none) (by repeat (first | (with_reducible first | exact HK.out | apply KeepBut.set_ | apply keep_drewN | apply keep_drew | apply keep_alloc) | exact HK.out))) : w.heap.size ≤ gb150)); have n5_ := Aside0.mk ((Nat.le_trans HW0.out (by rw [hg]; exact (keep_size (w := w) (g := g) (row := none) (by repeat (first | (with_reducible first | exact HK.out | apply KeepBut.set_ | apply keep_drewN | apply keep_drew | apply keep_alloc) | exact HK.out))) : w.heap.size ≤ gb150) : w0.heap.size ≤ gb150)); have n6_ := Aside0.mk ((by rw [hg]; exact Nat.ne_of_lt (IsS32.lt (show IsS32 w0 _ g s0_0 s0_1 s0_2 from by repeat (first | (with_reducible first | exact HI0.out | apply IsS32.alloc | apply IsS32.drewN | apply IsS32.drew) | exact HI0.out))) : g ≠ gb150)); have n7_ := Aside0.mk ((by rw [hg]; exact Nat.ne_of_gt (IsS32.lt (show IsS32 w0 _ g s0_0 s0_1 s0_2 from by repeat (first | (with_reducible first | exact HI0.out | apply IsS32.alloc | apply IsS32.drewN | apply IsS32.drew) | exact HI0.out))) : gb150 ≠ g)); clear HI0; clear HK; clear HB; have HI0 := n0_; have HK := n1_; have HB := n2_; have BK150 := n3_; have GW150 := n4_; have GE150 := n5_; have NB0_150 := n6_; have NB150_0 := n7_; clear n0_ n1_ n2_ n3_ n4_ n5_ n6_ n7_; clear hb hbox hg; have hnb39 := NB150_0.out; have hnc39 := NB0_150.out; have hcz40_0 : w38.cell? ⟨gb150, 0, none⟩ = some (.string (⟨#[]⟩ : ByteArray)) := (blk_cell BK150.out 0).trans rfl; have hcz40_1 : w38.cell? ⟨gb150, 1, none⟩ = some (.string (⟨#[]⟩ : ByteArray)) := (blk_cell BK150.out 1).trans rfl; have hcz40_2 : w38.cell? ⟨gb150, 2, none⟩ = some (.int .i64 0) := (blk_cell BK150.out 2).trans rfl; have hfz40_0 := blk_frozen BK150.out 0; have hfz40_1 := blk_frozen BK150.out 1; have hfz40_2 := blk_frozen BK150.out 2))
                  have n0_ : Aside0 ((((w38.setCell ⟨gb150, 0, none⟩ (.string ((rd_T67 s0_2 x7_3).f0))).setCell ⟨gb150, 1, none⟩ (.string ((rd_T67 s0_2 x7_3).f1))).setCell ⟨gb150, 2, none⟩ (.int .i64 ((rd_T67 s0_2 x7_3).f2))).heap[gb150]? = some (.cells #[.string ((rd_T67 s0_2 x7_3).f0), .string ((rd_T67 s0_2 x7_3).f1), .int .i64 ((rd_T67 s0_2 x7_3).f2)] 67 (0, 0))) := ⟨by (with_reducible repeat (first | refine blk_drewN ?_ _ | refine blk_drew ?_ | refine blk_alloc ?_ _)); refine blk_put (cs := #[.string ((rd_T67 s0_2 x7_3).f0), .string ((rd_T67 s0_2 x7_3).f1), .int .i64 0]) ?_ 2 _ rfl; (with_reducible repeat (first | refine blk_drewN ?_ _ | refine blk_drew ?_ | refine blk_alloc ?_ _)); refine blk_put (cs := #[.string ((rd_T67 s0_2 x7_3).f0), .string (⟨#[]⟩ : ByteArray), .int .i64 0]) ?_ 1 _ rfl; (with_reducible repeat (first | refine blk_drewN ?_ _ | refine blk_drew ?_ | refine blk_alloc ?_ _)); refine blk_put (cs := #[.string (⟨#[]⟩ : ByteArray), .string (⟨#[]⟩ : ByteArray), .int .i64 0]) ?_ 0 _ rfl; (with_reducible repeat (first | refine blk_drewN ?_ _ | refine blk_drew ?_ | refine blk_alloc ?_ _)); exact BK150.out⟩
                  have n1_ : Aside0 (IsS32 w0 (((w38.setCell ⟨gb150, 0, none⟩ (.string ((rd_T67 s0_2 x7_3).f0))).setCell ⟨gb150, 1, none⟩ (.string ((rd_T67 s0_2 x7_3).f1))).setCell ⟨gb150, 2, none⟩ (.int .i64 ((rd_T67 s0_2 x7_3).f2))) g s0_0 s0_1 s0_2) := ⟨by repeat (first | (with_reducible first | exact HI0.out | apply IsS32.alloc | apply IsS32.drewN | apply IsS32.drew | refine IsS32.far ?_ NB0_150.out _) | exact HI0.out)⟩
                  have n2_ : Aside0 (KeepBut w (((w38.setCell ⟨gb150, 0, none⟩ (.string ((rd_T67 s0_2 x7_3).f0))).setCell ⟨gb150, 1, none⟩ (.string ((rd_T67 s0_2 x7_3).f1))).setCell ⟨gb150, 2, none⟩ (.int .i64 ((rd_T67 s0_2 x7_3).f2))) g none) := ⟨by repeat (first | (with_reducible first | exact HK.out | apply KeepBut.set_ | apply keep_drewN | apply keep_drew | apply keep_alloc | refine keep_far ?_ GW150.out _) | exact HK.out)⟩
                  have n3_ : Aside0 (Below w0.heap.size w0 (((w38.setCell ⟨gb150, 0, none⟩ (.string ((rd_T67 s0_2 x7_3).f0))).setCell ⟨gb150, 1, none⟩ (.string ((rd_T67 s0_2 x7_3).f1))).setCell ⟨gb150, 2, none⟩ (.int .i64 ((rd_T67 s0_2 x7_3).f2)))) := ⟨by repeat (first | (with_reducible first | exact HB.out | apply below_alloc | apply pw_below_drewN | apply below_drew1 | refine below_set ?_ (IsS32.ge HI0.out) | refine below_set ?_ GE150.out) | exact HB.out)⟩
                  (try clear BK150)
                  (try clear HI0)
                  (try clear HK)
                  (try clear HB)
                  generalize (((w38.setCell ⟨gb150, 0, none⟩ (.string ((rd_T67 s0_2 x7_3).f0))).setCell ⟨gb150, 1, none⟩ (.string ((rd_T67 s0_2 x7_3).f1))).setCell ⟨gb150, 2, none⟩ (.int .i64 ((rd_T67 s0_2 x7_3).f2))) = w41 at n0_ n1_ n2_ n3_ ⊢
                  have BK150 := n0_
                  have HI0 := n1_
                  have HK := n2_
                  have HB := n3_
                  clear n0_ n1_ n2_ n3_
                  have n0_ := Aside0.mk (blk_drew BK150.out)
                  have n1_ := Aside0.mk (IsS32.drew HI0.out)
                  have n2_ := Aside0.mk (keep_drew HK.out)
                  have n3_ := Aside0.mk (below_drew1 HB.out)
                  clear BK150
                  clear HI0
                  clear HK
                  clear HB
                  have BK150 := n0_
                  have HI0 := n1_
                  have HK := n2_
                  have HB := n3_
                  clear n0_ n1_ n2_ n3_
                  refine start_ (n := 16) (S := fun w' => w'.cell? ⟨gb150, 0, none⟩ = some (.string ((rd_T67 s0_2 x7_3).f0)) ∧ w'.cell? ⟨gb150, 1, none⟩ = some (.string ((rd_T67 s0_2 x7_3).f1)) ∧ w'.cell? ⟨gb150, 2, none⟩ = some (.int .i64 ((rd_T67 s0_2 x7_3).f2))) (ds := []) #[F_,F_,F_,F_,F_,F_,F_,F_,F_,F_,F_,F_,F_,F_,F_,F_] (by kernel_rfl) rfl rfl ⟨(blk_cell BK150.out 0).trans rfl, (blk_cell BK150.out 1).trans rfl, (blk_cell BK150.out 2).trans rfl⟩ (fun hHeld => ?_); refine with_tabW spec_l19Text.tab15 spec_l19Text.bits15 (fun HT_ HW_ => ?_)
                  generalize w41.drew = w42 at BK150 HI0 HK HB hHeld ⊢
                  refine pu (i := 0) (N := some 76) #[T_,F_,F_,F_,F_,F_,F_,F_,F_,F_,F_,F_,F_,F_,F_,F_] HT_ ?_
                  refine pu (i := 1) (N := some 77) #[T_,T_,F_,F_,F_,F_,F_,F_,F_,F_,F_,F_,F_,F_,F_,F_] HT_ ?_
                  refine pu (i := 5) (N := some 81) #[T_,T_,F_,F_,F_,T_,F_,F_,F_,F_,F_,F_,F_,F_,F_,F_] HT_ ?_
                  refine pu (i := 9) (N := some 85) #[T_,T_,F_,F_,F_,T_,F_,F_,F_,T_,F_,F_,F_,F_,F_,F_] HT_ ?_
                  refine take_ (i := 2) (N := some 78) (v := ?_) (a' := ?_) #[T_,T_,T_,F_,F_,T_,F_,F_,F_,T_,F_,F_,F_,F_,F_,F_] rfl rfl (take_ofW HT_.out HW_.out (by kernel_rfl)) (fun _ _ _ h => h) (Or.inl ⟨by rfl, ?_⟩) hHeld ?_ ?_
                  rotate_left
                  ·rintro w' ⟨s0, s1, s2⟩
                   go_simp
                   with_reducible rfl
                  rotate_left
                  ·simp only [Act.put, sT_, s0_, sS_, i64_w, i32_w]
                   rfl
                  refine pu (i := 3) (N := some 79) #[T_,T_,T_,T_,F_,T_,F_,F_,F_,T_,F_,F_,F_,F_,F_,F_] HT_ ?_
                  refine pu (i := 4) (N := some 80) #[T_,T_,T_,T_,T_,T_,F_,F_,F_,T_,F_,F_,F_,F_,F_,F_] HT_ ?_
                  refine take_ (i := 6) (N := some 82) (v := ?_) (a' := ?_) #[T_,T_,T_,T_,T_,T_,T_,F_,F_,T_,F_,F_,F_,F_,F_,F_] rfl rfl (take_ofW HT_.out HW_.out (by kernel_rfl)) (fun _ _ _ h => h) (Or.inl ⟨by rfl, ?_⟩) hHeld ?_ ?_
                  rotate_left
                  ·rintro w' ⟨s0, s1, s2⟩
                   go_simp
                   with_reducible rfl
                  rotate_left
                  ·simp only [Act.put, sT_, s0_, sS_, i64_w, i32_w]
                   rfl
                  refine pu (i := 7) (N := some 83) #[T_,T_,T_,T_,T_,T_,T_,T_,F_,T_,F_,F_,F_,F_,F_,F_] HT_ ?_
                  refine pu (i := 8) (N := some 84) #[T_,T_,T_,T_,T_,T_,T_,T_,T_,T_,F_,F_,F_,F_,F_,F_] HT_ ?_
                  refine take_ (i := 10) (N := some 86) (v := ?_) (a' := ?_) #[T_,T_,T_,T_,T_,T_,T_,T_,T_,T_,T_,F_,F_,F_,F_,F_] rfl rfl (take_ofW HT_.out HW_.out (by kernel_rfl)) (fun _ _ _ h => h) (Or.inl ⟨by rfl, ?_⟩) hHeld ?_ ?_
                  rotate_left
                  ·rintro w' ⟨s0, s1, s2⟩
                   go_simp
                   with_reducible rfl
                  rotate_left
                  ·simp only [Act.put, sT_, s0_, sS_, i64_w, i32_w]
                   rfl
                  refine one_ (i := 11) (N := some 87) #[T_,T_,T_,T_,T_,T_,T_,T_,T_,T_,T_,T_,F_,F_,F_,F_] rfl rfl (one_of HT_.out (by kernel_rfl)) (by decide) (fun K hK => ?_)
                  refine goes_ Tryd.func66 (by kernel_rfl) rfl #[.int .i64 ((rd_T67 s0_2 x7_3).f2)] (by rfl) rfl rfl ln_ ?_
                  with_reducible refine (spec_l01Dec.calls k3 ((rd_T67 s0_2 x7_3).f2) t151 _ A33.out).mono ?_
                  rintro e w43 ⟨rfl, hb⟩
                  refine ⟨_, rfl, ?_⟩
                  have n0_ := Aside0.mk (IsS32.below (by repeat (first | (with_reducible first | exact HI0.out | apply IsS32.alloc | apply IsS32.drewN | apply IsS32.drew | refine IsS32.far ?_ NB0_150.out _) | exact HI0.out)) hb)
                  have n1_ := Aside0.mk (blk_below (g := gb150) (o := .cells #[.string ((rd_T67 s0_2 x7_3).f0), .string ((rd_T67 s0_2 x7_3).f1), .int .i64 ((rd_T67 s0_2 x7_3).f2)] 67 (0, 0)) (bk_ BK150) hb)
                  have n2_ := Aside0.mk (KeepBut.trans (by repeat (first | (with_reducible first | exact HK.out | apply KeepBut.set_ | apply keep_drewN | apply keep_drew | apply keep_alloc | refine keep_far ?_ GW150.out _) | exact HK.out)) (KeepBut.of_below hb g none) (.inl rfl))
                  have n3_ := Aside0.mk (below_step (by repeat (first | (with_reducible first | exact HB.out | apply below_alloc | apply pw_below_drewN | apply below_drew1 | refine below_set ?_ (IsS32.ge HI0.out) | refine below_set ?_ GE150.out) | exact HB.out)) hb)
                  clear HI0
                  clear BK150
                  clear HK
                  clear HB
                  have HI0 := n0_
                  have BK150 := n1_
                  have HK := n2_
                  have HB := n3_
                  clear n0_ n1_ n2_ n3_
                  (try clear hb)
                  (try clear hb2)
                  (try clear hk)
                  (try clear hi)
                  refine hK.out _ _ ⟨(blk_cell BK150.out 0).trans rfl, (blk_cell BK150.out 1).trans rfl, (blk_cell BK150.out 2).trans rfl⟩ (fun hHeld => ?_)
                  clear hK K
                  refine norm_ (a' := ?_) ?_ ?_
                  rotate_left
                  ·show Act.put _ (some 87) _ = _
                   simp only [Act.put, sT_, s0_, sS_, i64_w, i32_w]
                   rfl
                  refine pu (i := 12) (N := some 88) #[T_,T_,T_,T_,T_,T_,T_,T_,T_,T_,T_,T_,T_,F_,F_,F_] HT_ ?_
                  refine pu (i := 13) (N := some 89) #[T_,T_,T_,T_,T_,T_,T_,T_,T_,T_,T_,T_,T_,T_,F_,F_] HT_ ?_
                  refine pu (i := 14) (N := some 90) #[T_,T_,T_,T_,T_,T_,T_,T_,T_,T_,T_,T_,T_,T_,T_,F_] HT_ ?_
                  refine pu (i := 15) (N := some 3) #[T_,T_,T_,T_,T_,T_,T_,T_,T_,T_,T_,T_,T_,T_,T_,T_] HT_ ?_
                  refine done_ (done_of HT_.out (by kernel_rfl)) ?_
                  try go_wp2
                  go_roundg k3
                  case measure => have := HK1.out; have := HK2.out; have := HK3.out; omega
                  case rel => exact ⟨(x3_3 ++ (((((((⟨#[98, 101, 108, 97, 121, 32]⟩ : ByteArray) ++ ((rd_T67 s0_2 x7_3).f0)) ++ (⟨#[32]⟩ : ByteArray)) ++ ((rd_T67 s0_2 x7_3).f1)) ++ (⟨#[32]⟩ : ByteArray)) ++ t151) ++ (⟨#[10]⟩ : ByteArray))), (wrap64 (x7_3 + 1)), (by first | rfl | (simp; done) | (simp [*]; done)), (by first | rfl | (simp; done) | (simp [*]; done)), H', ⟨by have := HK1.out; have := HK2.out; have := HK3.out; omega⟩, ⟨by repeat (first | (with_reducible first | exact HI0.out | apply IsS32.alloc | apply IsS32.drewN | apply IsS32.drew | refine IsS32.far ?_ NB0_150.out _) | exact HI0.out)⟩, ⟨by repeat (first | (with_reducible first | exact HK.out | apply KeepBut.set_ | apply keep_drewN | apply keep_drew | apply keep_alloc | refine keep_far ?_ GW150.out _) | exact HK.out)⟩, ⟨by repeat (first | (with_reducible first | exact HB.out | apply below_alloc | apply pw_below_drewN | apply below_drew1 | refine below_set ?_ (IsS32.ge HI0.out) | refine below_set ?_ GE150.out) | exact HB.out)⟩⟩
                 ·rw [if_neg c36] at H
                  exact absurd H (by simp)
                ·rw [if_neg c35] at H
                 exact absurd H (by simp)
               ·rw [if_neg c34] at H
                exact absurd H (by simp)
              ·rw [if_neg c32] at H
               exact absurd H (by simp)
             ·rw [if_neg c31] at H
              exact absurd H (by simp)
            ·rw [if_neg c30] at H
             exact absurd H (by simp)
           ·rw [if_neg c29] at H
            exact absurd H (by simp)
          ·rw [if_neg c28] at H
           exact absurd H (by simp)
         ·rw [if_neg c27] at H
          have c27b0 : decide (x7_3 < (s0_2.length : Int)) = false := decide_eq_false c27
          clear c27
          obtain rfl := Option.some.inj H
          obtain ⟨ASz44_0, cSz44_0, ASz44_1, cSz44_1, ASz44_2, cSz44_2, HGz44, hgz44, HSz44_0, HSz44_1, HSz44_2⟩ := HI0.out
          have hcz44_0 := cellS32_0 HGz44
          have hcz44_1 := cellS32_1 HGz44
          have hcz44_2 := cellS32_2 HGz44
          clear HGz44 hgz44
          go_wp2
          go_ret
          exact ⟨ew_, by repeat (first | (with_reducible first | exact HI0.out | apply IsS32.alloc | apply IsS32.drewN | apply IsS32.drew) | exact HI0.out), by repeat (first | (with_reducible first | exact HB.out | apply below_alloc | apply pw_below_drewN | apply below_drew1 | refine below_set ?_ (IsS32.ge HI0.out)) | exact HB.out), by repeat (first | (with_reducible first | exact HK.out | apply KeepBut.set_ | apply keep_drewN | apply keep_drew | apply keep_alloc) | exact HK.out)⟩

/-! ### spec_RigText: function 7 -/
def spec_RigText.f (k : Nat) (l0_0 : List (S64)) (l0_1 : List ByteArray) (l0_2 : List (S67)) : Option (ByteArray) := (spec_l19Ok.f k l0_0 l0_1 l0_2).bind fun t153 => (if t153 = true then ((spec_l19Text.f k l0_0 l0_1 l0_2).bind fun t154 => (some t154)) else (some (⟨#[]⟩ : ByteArray)))
set_option maxHeartbeats 8000000 in
set_option maxRecDepth 100000 in
theorem spec_RigText.calls (k : Nat) (A0_0 : Option Addr) (c0_0 : Nat) (l0_0 : List (S64)) (A0_1 : Option Addr) (c0_1 : Nat) (l0_1 : List ByteArray) (A0_2 : Option Addr) (c0_2 : Nat) (l0_2 : List (S67)) (r : ByteArray) (w : World) (hr0_0 : Kd.C k64 w A0_0 l0_0.length l0_0) (hc0_0 : l0_0.length ≤ c0_0) (hr0_1 : Kd.C Kd.string w A0_1 l0_1.length l0_1) (hc0_1 : l0_1.length ≤ c0_1) (hr0_2 : Kd.C k67 w A0_2 l0_2.length l0_2) (hc0_2 : l0_2.length ≤ c0_2) (h : spec_RigText.f k l0_0 l0_1 l0_2 = some r) :
  Calls Tryd.prog 7 #[.agg #[.slice A0_0 l0_0.length c0_0, .slice A0_1 l0_1.length c0_1, .slice A0_2 l0_2.length c0_2]] w fun e w' => e = .returned (.string r) ∧ Below w.heap.size w w' := by
 have hu32 := Tryd.underlying32
 have HR0_0 := Aside0.mk hr0_0
 have HC0_0 := Aside0.mk hc0_0
 clear hr0_0 hc0_0
 have HR0_1 := Aside0.mk hr0_1
 have HC0_1 := Aside0.mk hc0_1
 clear hr0_1 hc0_1
 have HR0_2 := Aside0.mk hr0_2
 have HC0_2 := Aside0.mk hc0_2
 clear hr0_2 hc0_2
 have HB := Aside0.mk (Below.refl w.heap.size w)
 have H : ((spec_l19Ok.f k l0_0 l0_1 l0_2).bind fun t153 => (if t153 = true then ((spec_l19Text.f k l0_0 l0_1 l0_2).bind fun t154 => (some t154)) else (some (⟨#[]⟩ : ByteArray)))) = some r := h
 clear h
 replace H := Option.bind_eq_some_iff.mp H
 obtain ⟨t153, A20, H⟩ := H
 replace H : (if t153 = true then ((spec_l19Text.f k l0_0 l0_1 l0_2).bind fun t154 => (some t154)) else (some (⟨#[]⟩ : ByteArray))) = some r := H
 have A2 := Aside0.mk A20
 clear A20
 by_cases c3 : t153 = true
 ·subst c3
  have H1 : ((spec_l19Text.f k l0_0 l0_1 l0_2).bind fun t154 => (some t154)) = some r := by rw [if_pos rfl] at H; exact H
  clear H
  have H := H1
  clear H1
  replace H := Option.bind_eq_some_iff.mp H
  obtain ⟨t154, A40, H⟩ := H
  replace H : (some t154) = some r := H
  have A4 := Aside0.mk A40
  clear A40
  obtain rfl := Option.some.inj H
  go_enter Tryd.func7, Tryd.ntmps7
  go_wp2_with (first | ((with_reducible refine gate_dst (N := 1) rfl ?_); refine box_event ?hg (N := 1) ?hd (cs := #[.slice A0_0 l0_0.length c0_0, .slice A0_1 l0_1.length c0_1, .slice A0_2 l0_2.length c0_2]) (t := 32) ?hr ?_; (case hd => rfl); (case hg => rfl); (case hr => first | (go_simp; done) | (go_simp; rfl)); intro gb152 hg w5 hbox hb; have n0_ := Aside0.mk (below_step hb_ hb); have n1_ := Aside0.mk ((show IsS32 w _ gb152 l0_0 l0_1 l0_2 from ⟨_, _, _, _, _, _, hbox, (by rw [hg]; exact (below_size hb_) : w.heap.size ≤ gb152), HR0_0.out, HR0_1.out, HR0_2.out⟩)); have n2_ := Aside0.mk ((by rw [hg]; exact (below_size hb_) : w.heap.size ≤ gb152)); have n3_ := Aside0.mk ((by rw [hg]; exact (below_size hb_) : w.heap.size ≤ gb152)); clear HB; have HB := n0_; have HI152 := n1_; have GW152 := n2_; have GE152 := n3_; clear n0_ n1_ n2_ n3_; clear hb hbox hg) | ((with_reducible refine gate_callee (f := 32) rfl ?_); refine goesL_ (some 3) rfl rfl Tryd.func32 (by kernel_rfl) rfl #[.pointer (some ⟨gb152, 0, none⟩)] rfl ln_ ?_; (with_reducible refine (spec_l19Ok.calls k gb152 l0_0 l0_1 l0_2 true w _ ?side1 ?side2 A2.out).mono ?_); (case side1 => repeat (first | (with_reducible first | exact HI152.out | apply IsS32.alloc | apply IsS32.drewN | apply IsS32.drew) | exact HI152.out)); (case side2 => repeat (first | (with_reducible first | exact HB.out | apply below_alloc | apply pw_below_drewN | apply below_drew1 | refine below_set ?_ (IsS32.ge HI152.out)) | exact HB.out)); rintro e w6 ⟨rfl, hi, hb, hk⟩; refine ⟨_, rfl, ?_⟩; have n0_ := Aside0.mk (hb); have n1_ := Aside0.mk (hi); clear HB; clear HI152; have HB := n0_; have HI152 := n1_; clear n0_ n1_; (try clear hb); (try clear hb2); (try clear hk); (try clear hi)) | ((with_reducible refine gate_callee (f := 33) rfl ?_); refine goesL_ (some 5) rfl rfl Tryd.func33 (by kernel_rfl) rfl #[.pointer (some ⟨gb152, 0, none⟩)] rfl ln_ ?_; (with_reducible refine (spec_l19Text.calls k gb152 l0_0 l0_1 l0_2 t154 w _ ?side1 ?side2 A4.out).mono ?_); (case side1 => repeat (first | (with_reducible first | exact HI152.out | apply IsS32.alloc | apply IsS32.drewN | apply IsS32.drew) | exact HI152.out)); (case side2 => repeat (first | (with_reducible first | exact HB.out | apply below_alloc | apply pw_below_drewN | apply below_drew1 | refine below_set ?_ (IsS32.ge HI152.out)) | exact HB.out)); rintro e w7 ⟨rfl, hi, hb, hk⟩; refine ⟨_, rfl, ?_⟩; have n0_ := Aside0.mk (hb); have n1_ := Aside0.mk (hi); clear HB; clear HI152; have HB := n0_; have HI152 := n1_; clear n0_ n1_; (try clear hb); (try clear hb2); (try clear hk); (try clear hi)))
  go_ret
  exact ⟨ew_, by repeat (first | (with_reducible first | exact HB.out | apply below_alloc | apply pw_below_drewN | apply below_drew1 | refine below_set ?_ (IsS32.ge HI152.out)) | exact HB.out)⟩
 ·replace c3 := Bool.eq_false_iff.mpr c3
  subst c3
  have H1 : (some (⟨#[]⟩ : ByteArray)) = some r := by rw [if_neg (show ¬ (false = true) by decide)] at H; exact H
  clear H
  have H := H1
  clear H1
  obtain rfl := Option.some.inj H
  go_enter Tryd.func7, Tryd.ntmps7
  go_wp2_with (first | ((with_reducible refine gate_dst (N := 1) rfl ?_); refine box_event ?hg (N := 1) ?hd (cs := #[.slice A0_0 l0_0.length c0_0, .slice A0_1 l0_1.length c0_1, .slice A0_2 l0_2.length c0_2]) (t := 32) ?hr ?_; (case hd => rfl); (case hg => rfl); (case hr => first | (go_simp; done) | (go_simp; rfl)); intro gb152 hg w8 hbox hb; have n0_ := Aside0.mk (below_step hb_ hb); have n1_ := Aside0.mk ((show IsS32 w _ gb152 l0_0 l0_1 l0_2 from ⟨_, _, _, _, _, _, hbox, (by rw [hg]; exact (below_size hb_) : w.heap.size ≤ gb152), HR0_0.out, HR0_1.out, HR0_2.out⟩)); have n2_ := Aside0.mk ((by rw [hg]; exact (below_size hb_) : w.heap.size ≤ gb152)); have n3_ := Aside0.mk ((by rw [hg]; exact (below_size hb_) : w.heap.size ≤ gb152)); clear HB; have HB := n0_; have HI152 := n1_; have GW152 := n2_; have GE152 := n3_; clear n0_ n1_ n2_ n3_; clear hb hbox hg) | ((with_reducible refine gate_callee (f := 32) rfl ?_); refine goesL_ (some 3) rfl rfl Tryd.func32 (by kernel_rfl) rfl #[.pointer (some ⟨gb152, 0, none⟩)] rfl ln_ ?_; (with_reducible refine (spec_l19Ok.calls k gb152 l0_0 l0_1 l0_2 false w _ ?side1 ?side2 A2.out).mono ?_); (case side1 => repeat (first | (with_reducible first | exact HI152.out | apply IsS32.alloc | apply IsS32.drewN | apply IsS32.drew) | exact HI152.out)); (case side2 => repeat (first | (with_reducible first | exact HB.out | apply below_alloc | apply pw_below_drewN | apply below_drew1 | refine below_set ?_ (IsS32.ge HI152.out)) | exact HB.out)); rintro e w9 ⟨rfl, hi, hb, hk⟩; refine ⟨_, rfl, ?_⟩; have n0_ := Aside0.mk (hb); have n1_ := Aside0.mk (hi); clear HB; clear HI152; have HB := n0_; have HI152 := n1_; clear n0_ n1_; (try clear hb); (try clear hb2); (try clear hk); (try clear hi)))
  go_ret
  exact ⟨ew_, by repeat (first | (with_reducible first | exact HB.out | apply below_alloc | apply pw_below_drewN | apply below_drew1 | refine below_set ?_ (IsS32.ge HI152.out)) | exact HB.out)⟩

end Go.Proofs.YtcenjcgfdghfnaaDoor.P
end
