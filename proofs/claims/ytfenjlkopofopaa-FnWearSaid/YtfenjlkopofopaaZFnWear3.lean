/- Texts of this claim, packed: Px1. -/
import Derived.Test.YtfenjlkopofopaaZFnWear2
section
-- Written by gprint.py (own program, over the printer of the kit) out of the translation. Lean checks it.
namespace Go.Proofs.Ytfenjlkopofopaa.P
open Go.RowKit Go.Proofs.YtfenjlkopofopaaW.PrintWords Go.Proofs.YtfenjlkopofopaaW.PrintLast Go.Proofs.YtfenjlkopofopaaW.PrintMore Go.Proofs.YtfenjlkopofopaaW.Pk
open Bool renaming true → T_, false → F_
open List renaming setIfInBounds_toArray → sT_, set_cons_zero → s0_, set_cons_succ → sS_
attribute [local go_sem] max2_int min2_int max_two min_two max_three min_three max_four min_four   -- for this text's walks alone
set_option linter.unusedVariables false
set_option linter.unusedSimpArgs false

/-! ### laws_f6big: function 6 -/
def laws_f6big.f (l0 : List Int) : Option (Bool) := some (decide ((l0.length : Int) > 4096))
set_option maxHeartbeats 8000000 in
set_option maxRecDepth 100000 in
theorem laws_f6big.calls (A0 : Option Addr) (c0 : Nat) (l0 : List Int) (r : Bool) (w : World) (hr0 : Kd.C (Kd.int .u8) w A0 l0.length l0) (hc0 : l0.length ≤ c0) (h : laws_f6big.f l0 = some r) :
  Calls Try.prog 6 #[.slice A0 l0.length c0] w fun e w' => e = .returned (.bool r) ∧ Drawn0 w w' := by
 have HR0 := ak_ hr0
 have HC0 := ak_ hc0
 clear hr0 hc0
 have H : (some (decide ((l0.length : Int) > 4096))) = some r := h
 clear h
 obtain rfl := Option.some.inj H
 go_enter Try.func6, Try.ntmps6
 go_wp2
 go_ret
 exact ⟨by first | rfl | (simp; done) | (simp [*]; done), by repeat (first | exact Drawn0.refl _ | apply Drawn0.step)⟩

/-! ### spec_l00From: function 72 -/
def spec_l00From.f (l0 : List Int) : Option (List Int × Int × Int) := some (l0, 0, 0)
set_option maxHeartbeats 8000000 in
set_option maxRecDepth 100000 in
theorem spec_l00From.calls (A0 : Option Addr) (c0 : Nat) (l0 : List Int) (r1 : List Int) (r2 : Int) (r3 : Int) (w0 w : World) (hB : Below w0.heap.size w0 w) (hr0 : Kd.C (Kd.int .u8) w0 A0 l0.length l0) (hc0 : l0.length ≤ c0) (h : spec_l00From.f l0 = some (r1, r2, r3)) :
  Calls Try.prog 72 #[.slice A0 l0.length c0] w fun e w' => ∃ g_ : Nat, e = .returned (.pointer (some ⟨g_, 0, none⟩)) ∧ IsS135 w0 w' g_ r1 r2 r3 ∧ Below w0.heap.size w0 w' ∧ Below w.heap.size w w' := by
 have hu135 := Try.underlying135
 have HR0 := ak_ hr0
 have HC0 := ak_ hc0
 clear hr0 hc0
 have HBW := ak_ (Below.refl w.heap.size w)
 have HW0 := ak_ hB.size
 have HB := ak_ hB
 clear hB
 have H : (some (l0, 0, 0)) = some (r1, r2, r3) := h
 clear h
 simp only [Option.some.injEq, Prod.mk.injEq] at H
 obtain ⟨rfl, rfl, rfl⟩ := H
 go_enter Try.func72, Try.ntmps72
 go_wp2_with (first | ((with_reducible refine gate_dst (N := 5) rfl ?_); refine box_event ?hg (N := 5) ?hd (cs := #[.slice A0 l0.length c0, .int .i64 0, .int .u64 0]) (t := 135) ?hr ?_; (case hd => rfl); (case hg => rfl); (case hr => first | (go_simp; done) | (go_simp; rfl)); intro gb101 hg w2 hbox hb; have n0_ := ak_ (below_step HBW.out hb); have n1_ := ak_ (below_step hb_ hb); have n2_ := ak_ (hbox); have n3_ := ak_ ((by rw [hg]; exact (below_size (by repeat (first | (with_reducible first | exact HBW.out | apply below_alloc | apply pw_below_drewN | apply below_drew1) | exact HBW.out))) : w.heap.size ≤ gb101)); have n4_ := ak_ ((Nat.le_trans HW0.out (by rw [hg]; exact (below_size (by repeat (first | (with_reducible first | exact HBW.out | apply below_alloc | apply pw_below_drewN | apply below_drew1) | exact HBW.out))) : w.heap.size ≤ gb101) : w0.heap.size ≤ gb101)); clear HBW HB; have HBW := n0_; have HB := n1_; have BK101 := n2_; have GW101 := n3_; have GE101 := n4_; clear n0_ n1_ n2_ n3_ n4_; clear hb hbox hg))
 go_ret
 exact ⟨_, rfl, (show IsS135 w0 _ gb101 l0 0 0 from ⟨_, _, by (with_reducible repeat (first | refine blk_drewN ?_ _ | refine blk_drew ?_ | refine blk_alloc ?_ _)); exact BK101.out, GE101.out, HR0.out⟩), (hg_ GE101), by repeat (first | (with_reducible first | exact HBW.out | apply below_alloc | apply pw_below_drewN | apply below_drew1 | refine below_set ?_ GW101.out) | exact HBW.out)⟩

/-! ### spec_l00Src_next: function 127 -/
def spec_l00Src_next.f (s0_0 : List Int) (s0_1 : Int) (s0_2 : Int) : Option (Int × Int × Int) := if s0_1 < (s0_0.length : Int) then (if 0 ≤ s0_1 then (if (wrap64 (s0_1 + 1)) ≤ (s0_0.length : Int) then (some (wrap64 (rd s0_0 s0_1), wrap64 (s0_1 + 1), IntKind.u64.wrap ((IntKind.u64.wrap ((IntKind.u64.wrap (s0_2 * 6364136223846793005)) + (IntKind.u64.wrap (wrap64 (rd s0_0 s0_1))))) + 1442695040888963407))) else (some (wrap64 (Go.bits .and .u64 ((IntKind.u64.wrap ((IntKind.u64.wrap ((IntKind.u64.wrap (s0_2 * 6364136223846793005)) + (IntKind.u64.wrap (wrap64 (rd s0_0 s0_1))))) + 1442695040888963407)) / 1099511627776) 255), wrap64 (s0_1 + 1), IntKind.u64.wrap ((IntKind.u64.wrap ((IntKind.u64.wrap (s0_2 * 6364136223846793005)) + (IntKind.u64.wrap (wrap64 (rd s0_0 s0_1))))) + 1442695040888963407)))) else (none)) else (if (wrap64 (s0_1 + 1)) ≤ (s0_0.length : Int) then (some (0, wrap64 (s0_1 + 1), IntKind.u64.wrap ((IntKind.u64.wrap (IntKind.u64.wrap (s0_2 * 6364136223846793005))) + 1442695040888963407))) else (some (wrap64 (Go.bits .and .u64 ((IntKind.u64.wrap ((IntKind.u64.wrap (IntKind.u64.wrap (s0_2 * 6364136223846793005))) + 1442695040888963407)) / 1099511627776) 255), wrap64 (s0_1 + 1), IntKind.u64.wrap ((IntKind.u64.wrap (IntKind.u64.wrap (s0_2 * 6364136223846793005))) + 1442695040888963407))))
set_option maxHeartbeats 8000000 in
set_option maxRecDepth 100000 in
theorem spec_l00Src_next.calls (g : Nat) (s0_0 : List Int) (s0_1 : Int) (s0_2 : Int) (r1 : Int) (r2 : Int) (r3 : Int) (w0 w : World) (hI : IsS135 w0 w g s0_0 s0_1 s0_2) (hB : Below w0.heap.size w0 w) (h : spec_l00Src_next.f s0_0 s0_1 s0_2 = some (r1, r2, r3)) :
  Calls Try.prog 127 #[.pointer (some ⟨g, 0, none⟩)] w fun e w' => e = .returned (.int .i64 r1) ∧ IsS135 w0 w' g s0_0 r2 r3 ∧ Below w0.heap.size w0 w' ∧ KeepBut w w' g none := by
 have HI0 := ak_ hI
 have HK := ak_ (KeepBut.refl w g none)
 have HL := ak_ hB.size
 clear hI
 have HW0 := ak_ hB.size
 have HB := ak_ hB
 clear hB
 have H : (if s0_1 < (s0_0.length : Int) then (if 0 ≤ s0_1 then (if (wrap64 (s0_1 + 1)) ≤ (s0_0.length : Int) then (some (wrap64 (rd s0_0 s0_1), wrap64 (s0_1 + 1), IntKind.u64.wrap ((IntKind.u64.wrap ((IntKind.u64.wrap (s0_2 * 6364136223846793005)) + (IntKind.u64.wrap (wrap64 (rd s0_0 s0_1))))) + 1442695040888963407))) else (some (wrap64 (Go.bits .and .u64 ((IntKind.u64.wrap ((IntKind.u64.wrap ((IntKind.u64.wrap (s0_2 * 6364136223846793005)) + (IntKind.u64.wrap (wrap64 (rd s0_0 s0_1))))) + 1442695040888963407)) / 1099511627776) 255), wrap64 (s0_1 + 1), IntKind.u64.wrap ((IntKind.u64.wrap ((IntKind.u64.wrap (s0_2 * 6364136223846793005)) + (IntKind.u64.wrap (wrap64 (rd s0_0 s0_1))))) + 1442695040888963407)))) else (none)) else (if (wrap64 (s0_1 + 1)) ≤ (s0_0.length : Int) then (some (0, wrap64 (s0_1 + 1), IntKind.u64.wrap ((IntKind.u64.wrap (IntKind.u64.wrap (s0_2 * 6364136223846793005))) + 1442695040888963407))) else (some (wrap64 (Go.bits .and .u64 ((IntKind.u64.wrap ((IntKind.u64.wrap (IntKind.u64.wrap (s0_2 * 6364136223846793005))) + 1442695040888963407)) / 1099511627776) 255), wrap64 (s0_1 + 1), IntKind.u64.wrap ((IntKind.u64.wrap (IntKind.u64.wrap (s0_2 * 6364136223846793005))) + 1442695040888963407))))) = some (r1, r2, r3) := h
 clear h
 by_cases c2 : s0_1 < (s0_0.length : Int)
 ·rw [if_pos c2] at H
  have c2b0 : decide (s0_1 < (s0_0.length : Int)) = true := dt_ c2
  clear c2
  by_cases c3 : 0 ≤ s0_1
  ·rw [if_pos c3] at H
   have c3b0 : decide (0 ≤ s0_1) = true := dt_ c3
   clear c3
   by_cases c4 : (wrap64 (s0_1 + 1)) ≤ (s0_0.length : Int)
   ·rw [if_pos c4] at H
    have c4b0 : decide ((wrap64 (s0_1 + 1)) ≤ (s0_0.length : Int)) = true := dt_ c4
    clear c4
    simp only [Option.some.injEq, Prod.mk.injEq] at H
    obtain ⟨rfl, rfl, rfl⟩ := H
    obtain ⟨ASz5_0, cSz5_0, HGz5, hgz5, HSz5_0⟩ := HI0.out
    have hcz5_0 := cellS135_0 HGz5
    have hcz5_1 := cellS135_1 HGz5
    have hcz5_2 := cellS135_2 HGz5
    have hfz5_1 := blk_frozen HGz5 1
    have hfz5_2 := blk_frozen HGz5 2
    clear HGz5 hgz5
    have p102 : 0 ≤ (s0_1 : Int) := od_
    have q102 : s0_1 < (s0_0.length : Int) := od_
    obtain ⟨ad102, e102, hx102_0⟩ := Kd.at_int HSz5_0 s0_1 p102 q102
    cases e102
    replace hx102_0 := pw_cell_below HB.out hx102_0
    replace p102 := eq_true p102
    replace q102 := eq_true q102
    go_enter Try.func127, Try.ntmps127
    go_wp2
    repeat (go_quiet (fail); try go_wp2)
    go_ret
    exact ⟨ew_, isS135_a HI0, hz_ (IsS135.ge HI0.out), kb_⟩
   ·rw [if_neg c4] at H
    have c4b0 : decide ((wrap64 (s0_1 + 1)) ≤ (s0_0.length : Int)) = false := decide_eq_false c4
    clear c4
    simp only [Option.some.injEq, Prod.mk.injEq] at H
    obtain ⟨rfl, rfl, rfl⟩ := H
    obtain ⟨ASz6_0, cSz6_0, HGz6, hgz6, HSz6_0⟩ := HI0.out
    have hcz6_0 := cellS135_0 HGz6
    have hcz6_1 := cellS135_1 HGz6
    have hcz6_2 := cellS135_2 HGz6
    have hfz6_1 := blk_frozen HGz6 1
    have hfz6_2 := blk_frozen HGz6 2
    clear HGz6 hgz6
    have p102 : 0 ≤ (s0_1 : Int) := od_
    have q102 : s0_1 < (s0_0.length : Int) := od_
    obtain ⟨ad102, e102, hx102_0⟩ := Kd.at_int HSz6_0 s0_1 p102 q102
    cases e102
    replace hx102_0 := pw_cell_below HB.out hx102_0
    replace p102 := eq_true p102
    replace q102 := eq_true q102
    go_enter Try.func127, Try.ntmps127
    go_wp2
    repeat (go_quiet (fail); try go_wp2)
    go_ret
    exact ⟨ew_, isS135_a HI0, hz_ (IsS135.ge HI0.out), kb_⟩
  ·rw [if_neg c3] at H
   exact absurd H (by simp)
 ·rw [if_neg c2] at H
  have c2b0 : decide (s0_1 < (s0_0.length : Int)) = false := decide_eq_false c2
  clear c2
  by_cases c7 : (wrap64 (s0_1 + 1)) ≤ (s0_0.length : Int)
  ·rw [if_pos c7] at H
   have c7b0 : decide ((wrap64 (s0_1 + 1)) ≤ (s0_0.length : Int)) = true := dt_ c7
   clear c7
   simp only [Option.some.injEq, Prod.mk.injEq] at H
   obtain ⟨rfl, rfl, rfl⟩ := H
   obtain ⟨ASz8_0, cSz8_0, HGz8, hgz8, HSz8_0⟩ := HI0.out
   have hcz8_0 := cellS135_0 HGz8
   have hcz8_1 := cellS135_1 HGz8
   have hcz8_2 := cellS135_2 HGz8
   have hfz8_1 := blk_frozen HGz8 1
   have hfz8_2 := blk_frozen HGz8 2
   clear HGz8 hgz8
   go_enter Try.func127, Try.ntmps127
   go_wp2
   repeat (go_quiet (fail); try go_wp2)
   go_ret
   exact ⟨ew_, isS135_a HI0, hz_ (IsS135.ge HI0.out), kb_⟩
  ·rw [if_neg c7] at H
   have c7b0 : decide ((wrap64 (s0_1 + 1)) ≤ (s0_0.length : Int)) = false := decide_eq_false c7
   clear c7
   simp only [Option.some.injEq, Prod.mk.injEq] at H
   obtain ⟨rfl, rfl, rfl⟩ := H
   obtain ⟨ASz9_0, cSz9_0, HGz9, hgz9, HSz9_0⟩ := HI0.out
   have hcz9_0 := cellS135_0 HGz9
   have hcz9_1 := cellS135_1 HGz9
   have hcz9_2 := cellS135_2 HGz9
   have hfz9_1 := blk_frozen HGz9 1
   have hfz9_2 := blk_frozen HGz9 2
   clear HGz9 hgz9
   go_enter Try.func127, Try.ntmps127
   go_wp2
   repeat (go_quiet (fail); try go_wp2)
   go_ret
   exact ⟨ew_, isS135_a HI0, hz_ (IsS135.ge HI0.out), kb_⟩

/-! ### spec_l00Src_pick: function 104 -/
def spec_l00Src_pick.f (s0_0 : List Int) (s0_1 : Int) (s0_2 : Int) (a1 : Int) : Option (Int × Int × Int) := if a1 ≤ 1 then (some (0, s0_1, s0_2)) else ((spec_l00Src_next.f s0_0 s0_1 s0_2).bind fun bt103 => (if a1 > 200 then ((spec_l00Src_next.f s0_0 bt103.2.1 bt103.2.2).bind fun bt106 => (if a1 = 0 then (none) else (some (Int.tmod (wrap64 ((wrap64 (bt103.1 * 256)) + bt106.1)) a1, bt106.2.1, bt106.2.2)))) else (if a1 = 0 then (none) else (some (Int.tmod bt103.1 a1, bt103.2.1, bt103.2.2)))))
set_option maxHeartbeats 8000000 in
set_option maxRecDepth 100000 in
theorem spec_l00Src_pick.calls (g : Nat) (s0_0 : List Int) (s0_1 : Int) (s0_2 : Int) (a1 : Int) (r1 : Int) (r2 : Int) (r3 : Int) (w0 w : World) (hI : IsS135 w0 w g s0_0 s0_1 s0_2) (hB : Below w0.heap.size w0 w) (h : spec_l00Src_pick.f s0_0 s0_1 s0_2 a1 = some (r1, r2, r3)) :
  Calls Try.prog 104 #[.pointer (some ⟨g, 0, none⟩), .int .i64 a1] w fun e w' => e = .returned (.int .i64 r1) ∧ IsS135 w0 w' g s0_0 r2 r3 ∧ Below w0.heap.size w0 w' ∧ KeepBut w w' g none := by
 have HI0 := ak_ hI
 have HK := ak_ (KeepBut.refl w g none)
 have HL := ak_ hB.size
 clear hI
 have HW0 := ak_ hB.size
 have HB := ak_ hB
 clear hB
 have H : (if a1 ≤ 1 then (some (0, s0_1, s0_2)) else ((spec_l00Src_next.f s0_0 s0_1 s0_2).bind fun bt103 => (if a1 > 200 then ((spec_l00Src_next.f s0_0 bt103.2.1 bt103.2.2).bind fun bt106 => (if a1 = 0 then (none) else (some (Int.tmod (wrap64 ((wrap64 (bt103.1 * 256)) + bt106.1)) a1, bt106.2.1, bt106.2.2)))) else (if a1 = 0 then (none) else (some (Int.tmod bt103.1 a1, bt103.2.1, bt103.2.2)))))) = some (r1, r2, r3) := h
 clear h
 by_cases c3 : a1 ≤ 1
 ·rw [if_pos c3] at H
  have c3b0 : decide (a1 ≤ 1) = true := dt_ c3
  clear c3
  simp only [Option.some.injEq, Prod.mk.injEq] at H
  obtain ⟨rfl, rfl, rfl⟩ := H
  go_enter Try.func104, Try.ntmps104
  go_wp2
  go_ret
  exact ⟨ew_, isS135_a HI0, hz_ (IsS135.ge HI0.out), kb_⟩
 ·rw [if_neg c3] at H
  have c3b0 : decide (a1 ≤ 1) = false := decide_eq_false c3
  clear c3
  replace H := ob_ H
  obtain ⟨⟨t103, t104, t105⟩, A40, H⟩ := H
  replace H : (if a1 > 200 then ((spec_l00Src_next.f s0_0 t104 t105).bind fun bt106 => (if a1 = 0 then (none) else (some (Int.tmod (wrap64 ((wrap64 (t103 * 256)) + bt106.1)) a1, bt106.2.1, bt106.2.2)))) else (if a1 = 0 then (none) else (some (Int.tmod t103 a1, t104, t105)))) = some (r1, r2, r3) := H
  have A4 := ak_ A40
  clear A40
  by_cases c5 : a1 > 200
  ·rw [if_pos c5] at H
   have c5b0 : decide (200 < a1) = true := dt_ c5
   clear c5
   replace H := ob_ H
   obtain ⟨⟨t106, t107, t108⟩, A60, H⟩ := H
   replace H : (if a1 = 0 then (none) else (some (Int.tmod (wrap64 ((wrap64 (t103 * 256)) + t106)) a1, t107, t108))) = some (r1, r2, r3) := H
   have A6 := ak_ A60
   clear A60
   by_cases c7 : a1 = 0
   ·rw [if_pos c7] at H
    exact absurd H (by simp)
   ·rw [if_neg c7] at H
    have c7b0 : (a1 == 0) = false := beq_eq_false_iff_ne.mpr c7
    have c7b1 : (a1 != 0) = true := bne_iff_ne.mpr c7
    simp only [Option.some.injEq, Prod.mk.injEq] at H
    obtain ⟨rfl, rfl, rfl⟩ := H
    go_enter Try.func104, Try.ntmps104
    go_wp2_with (first | ((with_reducible refine gate_callee (f := 127) rfl ?_); refine goesL_ (some 9) rfl rfl Try.func127 (by kernel_rfl) rfl #[.pointer (some ⟨g, 0, none⟩)] rfl ln_ ?_; (with_reducible refine (spec_l00Src_next.calls g s0_0 s0_1 s0_2 t103 t104 t105 w0 _ ?side1 ?side2 A4.out).mono ?_); (case side1 => exact isS135_a HI0); (case side2 => exact hz_ (IsS135.ge HI0.out)); rintro e w8 ⟨rfl, hi, hb, hk⟩; refine ⟨_, rfl, ?_⟩; have n0_ := ak_ (KeepBut.trans kb_ hk (.inl rfl)); have n1_ := ak_ (hb); have n2_ := ak_ (hi); clear HK HB HI0; have HK := n0_; have HB := n1_; have HI0 := n2_; clear n0_ n1_ n2_; clear hb hk hi) | ((with_reducible refine gate_callee (f := 127) rfl ?_); refine goesL_ (some 15) rfl rfl Try.func127 (by kernel_rfl) rfl #[.pointer (some ⟨g, 0, none⟩)] rfl ln_ ?_; (with_reducible refine (spec_l00Src_next.calls g s0_0 t104 t105 t106 t107 t108 w0 _ ?side1 ?side2 A6.out).mono ?_); (case side1 => exact isS135_a HI0); (case side2 => exact hz_ (IsS135.ge HI0.out)); rintro e w9 ⟨rfl, hi, hb, hk⟩; refine ⟨_, rfl, ?_⟩; have n0_ := ak_ (KeepBut.trans kb_ hk (.inl rfl)); have n1_ := ak_ (hb); have n2_ := ak_ (hi); clear HK HB HI0; have HK := n0_; have HB := n1_; have HI0 := n2_; clear n0_ n1_ n2_; clear hb hk hi))
    go_ret
    exact ⟨ew_, isS135_a HI0, hz_ (IsS135.ge HI0.out), kb_⟩
  ·rw [if_neg c5] at H
   have c5b0 : decide (200 < a1) = false := decide_eq_false c5
   clear c5
   by_cases c10 : a1 = 0
   ·rw [if_pos c10] at H
    exact absurd H (by simp)
   ·rw [if_neg c10] at H
    have c10b0 : (a1 == 0) = false := beq_eq_false_iff_ne.mpr c10
    have c10b1 : (a1 != 0) = true := bne_iff_ne.mpr c10
    simp only [Option.some.injEq, Prod.mk.injEq] at H
    obtain ⟨rfl, rfl, rfl⟩ := H
    go_enter Try.func104, Try.ntmps104
    go_wp2_with (first | ((with_reducible refine gate_callee (f := 127) rfl ?_); refine goesL_ (some 9) rfl rfl Try.func127 (by kernel_rfl) rfl #[.pointer (some ⟨g, 0, none⟩)] rfl ln_ ?_; (with_reducible refine (spec_l00Src_next.calls g s0_0 s0_1 s0_2 t103 t104 t105 w0 _ ?side1 ?side2 A4.out).mono ?_); (case side1 => exact isS135_a HI0); (case side2 => exact hz_ (IsS135.ge HI0.out)); rintro e w11 ⟨rfl, hi, hb, hk⟩; refine ⟨_, rfl, ?_⟩; have n0_ := ak_ (KeepBut.trans kb_ hk (.inl rfl)); have n1_ := ak_ (hb); have n2_ := ak_ (hi); clear HK HB HI0; have HK := n0_; have HB := n1_; have HI0 := n2_; clear n0_ n1_ n2_; clear hb hk hi))
    go_ret
    exact ⟨ew_, isS135_a HI0, hz_ (IsS135.ge HI0.out), kb_⟩

/-! ### spec_l00Src_one: function 103 -/
def spec_l00Src_one.f (s0_0 : List Int) (s0_1 : Int) (s0_2 : Int) (a1 : Int) : Option (Bool × Int × Int) := (spec_l00Src_pick.f s0_0 s0_1 s0_2 a1).bind fun bt109 => (some ((bt109.1 == 0), bt109.2.1, bt109.2.2))
set_option maxHeartbeats 8000000 in
set_option maxRecDepth 100000 in
theorem spec_l00Src_one.calls (g : Nat) (s0_0 : List Int) (s0_1 : Int) (s0_2 : Int) (a1 : Int) (r1 : Bool) (r2 : Int) (r3 : Int) (w0 w : World) (hI : IsS135 w0 w g s0_0 s0_1 s0_2) (hB : Below w0.heap.size w0 w) (h : spec_l00Src_one.f s0_0 s0_1 s0_2 a1 = some (r1, r2, r3)) :
  Calls Try.prog 103 #[.pointer (some ⟨g, 0, none⟩), .int .i64 a1] w fun e w' => e = .returned (.bool r1) ∧ IsS135 w0 w' g s0_0 r2 r3 ∧ Below w0.heap.size w0 w' ∧ KeepBut w w' g none := by
 have HI0 := ak_ hI
 have HK := ak_ (KeepBut.refl w g none)
 have HL := ak_ hB.size
 clear hI
 have HW0 := ak_ hB.size
 have HB := ak_ hB
 clear hB
 have H : ((spec_l00Src_pick.f s0_0 s0_1 s0_2 a1).bind fun bt109 => (some ((bt109.1 == 0), bt109.2.1, bt109.2.2))) = some (r1, r2, r3) := h
 clear h
 replace H := ob_ H
 obtain ⟨⟨t109, t110, t111⟩, A30, H⟩ := H
 replace H : (some ((t109 == 0), t110, t111)) = some (r1, r2, r3) := H
 have A3 := ak_ A30
 clear A30
 simp only [Option.some.injEq, Prod.mk.injEq] at H
 obtain ⟨rfl, rfl, rfl⟩ := H
 go_enter Try.func103, Try.ntmps103
 go_wp2_with (first | ((with_reducible refine gate_callee (f := 104) rfl ?_); refine goesL_ (some 7) rfl rfl Try.func104 (by kernel_rfl) rfl #[.pointer (some ⟨g, 0, none⟩), .int .i64 a1] rfl ln_ ?_; (with_reducible refine (spec_l00Src_pick.calls g s0_0 s0_1 s0_2 a1 t109 t110 t111 w0 _ ?side1 ?side2 A3.out).mono ?_); (case side1 => exact isS135_a HI0); (case side2 => exact hz_ (IsS135.ge HI0.out)); rintro e w4 ⟨rfl, hi, hb, hk⟩; refine ⟨_, rfl, ?_⟩; have n0_ := ak_ (KeepBut.trans kb_ hk (.inl rfl)); have n1_ := ak_ (hb); have n2_ := ak_ (hi); clear HK HB HI0; have HK := n0_; have HB := n1_; have HI0 := n2_; clear n0_ n1_ n2_; clear hb hk hi))
 go_ret
 exact ⟨ew_, isS135_a HI0, hz_ (IsS135.ge HI0.out), kb_⟩

/-! ### spec_l00Src_text: function 105 -/
def spec_l00Src_text.f (s0_0 : List Int) (s0_1 : Int) (s0_2 : Int) (l1 : List ByteArray) : Option (ByteArray × Int × Int) := (spec_l00Src_pick.f s0_0 s0_1 s0_2 (l1.length : Int)).bind fun bt112 => (if 0 ≤ bt112.1 then (if bt112.1 < (l1.length : Int) then (some (rdOf ByteArray.empty l1 bt112.1, bt112.2.1, bt112.2.2)) else (none)) else (none))
set_option maxHeartbeats 8000000 in
set_option maxRecDepth 100000 in
theorem spec_l00Src_text.calls (g : Nat) (s0_0 : List Int) (s0_1 : Int) (s0_2 : Int) (A1 : Option Addr) (c1 : Nat) (l1 : List ByteArray) (r1 : ByteArray) (r2 : Int) (r3 : Int) (w0 w : World) (hI : IsS135 w0 w g s0_0 s0_1 s0_2) (hB : Below w0.heap.size w0 w) (hr1 : Kd.C Kd.string w A1 l1.length l1) (hc1 : l1.length ≤ c1) (hf1 : ∀ ad, A1 = some ad → 0 < l1.length → ad.block ≠ g) (h : spec_l00Src_text.f s0_0 s0_1 s0_2 l1 = some (r1, r2, r3)) :
  Calls Try.prog 105 #[.pointer (some ⟨g, 0, none⟩), .slice A1 l1.length c1] w fun e w' => e = .returned (.string r1) ∧ IsS135 w0 w' g s0_0 r2 r3 ∧ Below w0.heap.size w0 w' ∧ KeepBut w w' g none := by
 have HR1 := ak_ hr1
 have HC1 := ak_ hc1
 clear hr1 hc1
 have HI0 := ak_ hI
 have HK := ak_ (KeepBut.refl w g none)
 have HL := ak_ hB.size
 clear hI
 have HW0 := ak_ hB.size
 have HB := ak_ hB
 clear hB
 have H : ((spec_l00Src_pick.f s0_0 s0_1 s0_2 (l1.length : Int)).bind fun bt112 => (if 0 ≤ bt112.1 then (if bt112.1 < (l1.length : Int) then (some (rdOf ByteArray.empty l1 bt112.1, bt112.2.1, bt112.2.2)) else (none)) else (none))) = some (r1, r2, r3) := h
 clear h
 replace H := ob_ H
 obtain ⟨⟨t112, t113, t114⟩, A30, H⟩ := H
 replace H : (if 0 ≤ t112 then (if t112 < (l1.length : Int) then (some (rdOf ByteArray.empty l1 t112, t113, t114)) else (none)) else (none)) = some (r1, r2, r3) := H
 have A3 := ak_ A30
 clear A30
 by_cases c4 : 0 ≤ t112
 ·rw [if_pos c4] at H
  have c4b0 : decide (0 ≤ t112) = true := dt_ c4
  clear c4
  by_cases c5 : t112 < (l1.length : Int)
  ·rw [if_pos c5] at H
   have c5b0 : decide (t112 < (l1.length : Int)) = true := dt_ c5
   clear c5
   simp only [Option.some.injEq, Prod.mk.injEq] at H
   obtain ⟨rfl, rfl, rfl⟩ := H
   go_enter Try.func105, Try.ntmps105
   go_wp2_with (first | ((with_reducible refine gate_callee (f := 104) rfl ?_); refine goesL_ (some 9) rfl rfl Try.func104 (by kernel_rfl) rfl #[.pointer (some ⟨g, 0, none⟩), .int .i64 (l1.length : Int)] rfl ln_ ?_; (with_reducible refine (spec_l00Src_pick.calls g s0_0 s0_1 s0_2 (l1.length : Int) t112 t113 t114 w0 _ ?side1 ?side2 A3.out).mono ?_); (case side1 => exact isS135_a HI0); (case side2 => exact hz_ (IsS135.ge HI0.out)); rintro e w6 ⟨rfl, hi, hb, hk⟩; refine ⟨_, rfl, ?_⟩; have n0_ := ak_ (KeepBut.trans kb_ hk (.inl rfl)); have n1_ := ak_ (hb); have n2_ := ak_ (hi); clear HK HB HI0; have HK := n0_; have HB := n1_; have HI0 := n2_; clear n0_ n1_ n2_; (try clear hb); (try clear hb2); (try clear hk); (try clear hi); have p115 : 0 ≤ (t112 : Int) := od_; have q115 : t112 < (l1.length : Int) := od_; obtain ⟨ad115, e115, hx115_0⟩ := Kd.at_string HR1.out t112 p115 q115; cases e115; replace hx115_0 := keep_cell HK.out hx115_0 (by first | (rw [add_block]; exact hf1 _ rfl (by omega)) | exact hf1 _ rfl (by omega) | exact hf1 ad115 rfl (by omega)); replace p115 := eq_true p115; replace q115 := eq_true q115))
   go_ret
   exact ⟨ew_, isS135_a HI0, hz_ (IsS135.ge HI0.out), kb_⟩
  ·rw [if_neg c5] at H
   exact absurd H (by simp)
 ·rw [if_neg c4] at H
  exact absurd H (by simp)

/-! ### spec_l00Src_among: function 106 -/
def spec_l00Src_among.f (s0_0 : List Int) (s0_1 : Int) (s0_2 : Int) (l1 : List Int) : Option (Int × Int × Int) := (spec_l00Src_pick.f s0_0 s0_1 s0_2 (l1.length : Int)).bind fun bt116 => (if 0 ≤ bt116.1 then (if bt116.1 < (l1.length : Int) then (some (rd l1 bt116.1, bt116.2.1, bt116.2.2)) else (none)) else (none))
set_option maxHeartbeats 8000000 in
set_option maxRecDepth 100000 in
theorem spec_l00Src_among.calls (g : Nat) (s0_0 : List Int) (s0_1 : Int) (s0_2 : Int) (A1 : Option Addr) (c1 : Nat) (l1 : List Int) (r1 : Int) (r2 : Int) (r3 : Int) (w0 w : World) (hI : IsS135 w0 w g s0_0 s0_1 s0_2) (hB : Below w0.heap.size w0 w) (hr1 : Kd.C (Kd.int .i64) w A1 l1.length l1) (hc1 : l1.length ≤ c1) (hf1 : ∀ ad, A1 = some ad → 0 < l1.length → ad.block ≠ g) (h : spec_l00Src_among.f s0_0 s0_1 s0_2 l1 = some (r1, r2, r3)) :
  Calls Try.prog 106 #[.pointer (some ⟨g, 0, none⟩), .slice A1 l1.length c1] w fun e w' => e = .returned (.int .i64 r1) ∧ IsS135 w0 w' g s0_0 r2 r3 ∧ Below w0.heap.size w0 w' ∧ KeepBut w w' g none := by
 have HR1 := ak_ hr1
 have HC1 := ak_ hc1
 clear hr1 hc1
 have HI0 := ak_ hI
 have HK := ak_ (KeepBut.refl w g none)
 have HL := ak_ hB.size
 clear hI
 have HW0 := ak_ hB.size
 have HB := ak_ hB
 clear hB
 have H : ((spec_l00Src_pick.f s0_0 s0_1 s0_2 (l1.length : Int)).bind fun bt116 => (if 0 ≤ bt116.1 then (if bt116.1 < (l1.length : Int) then (some (rd l1 bt116.1, bt116.2.1, bt116.2.2)) else (none)) else (none))) = some (r1, r2, r3) := h
 clear h
 replace H := ob_ H
 obtain ⟨⟨t116, t117, t118⟩, A30, H⟩ := H
 replace H : (if 0 ≤ t116 then (if t116 < (l1.length : Int) then (some (rd l1 t116, t117, t118)) else (none)) else (none)) = some (r1, r2, r3) := H
 have A3 := ak_ A30
 clear A30
 by_cases c4 : 0 ≤ t116
 ·rw [if_pos c4] at H
  have c4b0 : decide (0 ≤ t116) = true := dt_ c4
  clear c4
  by_cases c5 : t116 < (l1.length : Int)
  ·rw [if_pos c5] at H
   have c5b0 : decide (t116 < (l1.length : Int)) = true := dt_ c5
   clear c5
   simp only [Option.some.injEq, Prod.mk.injEq] at H
   obtain ⟨rfl, rfl, rfl⟩ := H
   go_enter Try.func106, Try.ntmps106
   go_wp2_with (first | ((with_reducible refine gate_callee (f := 104) rfl ?_); refine goesL_ (some 9) rfl rfl Try.func104 (by kernel_rfl) rfl #[.pointer (some ⟨g, 0, none⟩), .int .i64 (l1.length : Int)] rfl ln_ ?_; (with_reducible refine (spec_l00Src_pick.calls g s0_0 s0_1 s0_2 (l1.length : Int) t116 t117 t118 w0 _ ?side1 ?side2 A3.out).mono ?_); (case side1 => exact isS135_a HI0); (case side2 => exact hz_ (IsS135.ge HI0.out)); rintro e w6 ⟨rfl, hi, hb, hk⟩; refine ⟨_, rfl, ?_⟩; have n0_ := ak_ (KeepBut.trans kb_ hk (.inl rfl)); have n1_ := ak_ (hb); have n2_ := ak_ (hi); clear HK HB HI0; have HK := n0_; have HB := n1_; have HI0 := n2_; clear n0_ n1_ n2_; (try clear hb); (try clear hb2); (try clear hk); (try clear hi); have p119 : 0 ≤ (t116 : Int) := od_; have q119 : t116 < (l1.length : Int) := od_; obtain ⟨ad119, e119, hx119_0⟩ := Kd.at_int HR1.out t116 p119 q119; cases e119; replace hx119_0 := keep_cell HK.out hx119_0 (by first | (rw [add_block]; exact hf1 _ rfl (by omega)) | exact hf1 _ rfl (by omega) | exact hf1 ad119 rfl (by omega)); replace p119 := eq_true p119; replace q119 := eq_true q119))
   go_ret
   exact ⟨ew_, isS135_a HI0, hz_ (IsS135.ge HI0.out), kb_⟩
  ·rw [if_neg c5] at H
   exact absurd H (by simp)
 ·rw [if_neg c4] at H
  exact absurd H (by simp)

/-! ### spec_l21New: function 125 -/
def spec_l21New.f (s0_0 : List Int) (s0_1 : Int) (s0_2 : Int) (a1 : ByteArray) : Option (ByteArray × Int × Int × Int × Int × Int) := (spec_l00Src_pick.f s0_0 s0_1 s0_2 100).bind fun bt121 => ((spec_l00Src_pick.f s0_0 bt121.2.1 bt121.2.2 20).bind fun bt125 => ((spec_l00Src_pick.f s0_0 bt125.2.1 bt125.2.2 100).bind fun bt128 => (some (a1, bt121.1, bt125.1, wrap64 (50 + (wrap64 (10 * bt128.1))), bt128.2.1, bt128.2.2))))
set_option maxHeartbeats 8000000 in
set_option maxRecDepth 100000 in
theorem spec_l21New.calls (g : Nat) (s0_0 : List Int) (s0_1 : Int) (s0_2 : Int) (a1 : ByteArray) (r1 : ByteArray) (r2 : Int) (r3 : Int) (r4 : Int) (r5 : Int) (r6 : Int) (w0 w : World) (hI : IsS135 w0 w g s0_0 s0_1 s0_2) (hB : Below w0.heap.size w0 w) (h : spec_l21New.f s0_0 s0_1 s0_2 a1 = some (r1, r2, r3, r4, r5, r6)) :
  Calls Try.prog 125 #[.pointer (some ⟨g, 0, none⟩), .string a1] w fun e w' => e = .returned (.agg #[.string r1, .int .i64 r2, .int .i64 r3, .int .i64 r4]) ∧ IsS135 w0 w' g s0_0 r5 r6 ∧ Below w0.heap.size w0 w' ∧ KeepBut w w' g none := by
 have hu72 := Try.underlying72
 have HI0 := ak_ hI
 have HK := ak_ (KeepBut.refl w g none)
 have HL := ak_ hB.size
 clear hI
 have HW0 := ak_ hB.size
 have HB := ak_ hB
 clear hB
 have H : ((spec_l00Src_pick.f s0_0 s0_1 s0_2 100).bind fun bt121 => ((spec_l00Src_pick.f s0_0 bt121.2.1 bt121.2.2 20).bind fun bt125 => ((spec_l00Src_pick.f s0_0 bt125.2.1 bt125.2.2 100).bind fun bt128 => (some (a1, bt121.1, bt125.1, wrap64 (50 + (wrap64 (10 * bt128.1))), bt128.2.1, bt128.2.2))))) = some (r1, r2, r3, r4, r5, r6) := h
 clear h
 replace H := ob_ H
 obtain ⟨⟨t121, t122, t123⟩, A30, H⟩ := H
 replace H : ((spec_l00Src_pick.f s0_0 t122 t123 20).bind fun bt125 => ((spec_l00Src_pick.f s0_0 bt125.2.1 bt125.2.2 100).bind fun bt128 => (some (a1, t121, bt125.1, wrap64 (50 + (wrap64 (10 * bt128.1))), bt128.2.1, bt128.2.2)))) = some (r1, r2, r3, r4, r5, r6) := H
 have A3 := ak_ A30
 clear A30
 replace H := ob_ H
 obtain ⟨⟨t125, t126, t127⟩, A40, H⟩ := H
 replace H : ((spec_l00Src_pick.f s0_0 t126 t127 100).bind fun bt128 => (some (a1, t121, t125, wrap64 (50 + (wrap64 (10 * bt128.1))), bt128.2.1, bt128.2.2))) = some (r1, r2, r3, r4, r5, r6) := H
 have A4 := ak_ A40
 clear A40
 replace H := ob_ H
 obtain ⟨⟨t128, t129, t130⟩, A50, H⟩ := H
 replace H : (some (a1, t121, t125, wrap64 (50 + (wrap64 (10 * t128))), t129, t130)) = some (r1, r2, r3, r4, r5, r6) := H
 have A5 := ak_ A50
 clear A50
 simp only [Option.some.injEq, Prod.mk.injEq] at H
 obtain ⟨rfl, rfl, rfl, rfl, rfl, rfl⟩ := H
 go_enter Try.func125, Try.ntmps125
 go_wp2_with (first | ((with_reducible refine gate_dst (N := 4) rfl ?_); refine box_event ?hg (N := 4) ?hd (cs := #[.string (⟨#[]⟩ : ByteArray), .int .i64 0, .int .i64 0, .int .i64 0]) (t := 72) ?hr ?_; (case hd => rfl); (case hg => rfl); (case hr => first | (go_simp; done) | (go_simp; rfl)); intro gb120 hg w6 hbox hb; have n0_ := ak_ (IsS135.below (isS135_a HI0) hb); have n1_ := ak_ (KeepBut.trans kb_ (KeepBut.of_below hb g none) (.inl rfl)); have n2_ := ak_ (below_step (hz_ (IsS135.ge HI0.out)) hb); have n3_ := ak_ (hbox); have n4_ := ak_ ((by rw [hg]; exact (keep_size (w := w) (g := g) (row := none) kb_) : w.heap.size ≤ gb120)); have n5_ := ak_ ((Nat.le_trans HW0.out (by rw [hg]; exact (keep_size (w := w) (g := g) (row := none) kb_) : w.heap.size ≤ gb120) : w0.heap.size ≤ gb120)); have n6_ := ak_ ((by rw [hg]; exact Nat.ne_of_lt (IsS135.lt (show IsS135 w0 _ g s0_0 s0_1 s0_2 from isS135_a HI0)) : g ≠ gb120)); have n7_ := ak_ ((by rw [hg]; exact Nat.ne_of_gt (IsS135.lt (show IsS135 w0 _ g s0_0 s0_1 s0_2 from isS135_a HI0)) : gb120 ≠ g)); clear HI0 HK HB; have HI0 := n0_; have HK := n1_; have HB := n2_; have BK120 := n3_; have GW120 := n4_; have GE120 := n5_; have NB0_120 := n6_; have NB120_0 := n7_; clear n0_ n1_ n2_ n3_ n4_ n5_ n6_ n7_; clear hb hbox hg) | ((with_reducible refine gate_callee (f := 104) rfl ?_); refine goesL_ (some 8) rfl rfl Try.func104 (by kernel_rfl) rfl #[.pointer (some ⟨g, 0, none⟩), .int .i64 100] rfl ln_ ?_; (with_reducible refine (spec_l00Src_pick.calls g s0_0 s0_1 s0_2 100 t121 t122 t123 w0 _ ?side1 ?side2 A3.out).mono ?_); (case side1 => repeat (first | (with_reducible first | exact HI0.out | apply IsS135.alloc | apply IsS135.drewN | apply IsS135.drew | apply IsS135.set_1 | apply IsS135.set_2 | refine IsS135.far ?_ NB0_120.out _) | exact HI0.out)); (case side2 => repeat (first | (with_reducible first | exact HB.out | apply below_alloc | apply pw_below_drewN | apply below_drew1 | refine below_set ?_ (IsS135.ge HI0.out) | refine below_set ?_ GE120.out) | exact HB.out)); rintro e w7 ⟨rfl, hi, hb, hk⟩; refine ⟨_, rfl, ?_⟩; have n0_ := ak_ (KeepBut.blk hk (g' := gb120) (o := .cells #[.string (⟨#[]⟩ : ByteArray), .int .i64 0, .int .i64 0, .int .i64 0] 72 (0, 0)) (bk_ BK120) NB120_0.out (by simp)); have n1_ := ak_ (KeepBut.trans (by repeat (first | (with_reducible first | exact HK.out | apply KeepBut.set_ | apply keep_drewN | apply keep_drew | apply keep_alloc | refine keep_far ?_ GW120.out _) | exact HK.out)) hk (.inl rfl)); have n2_ := ak_ (hb); have n3_ := ak_ (hi); clear BK120 HK HB HI0; have BK120 := n0_; have HK := n1_; have HB := n2_; have HI0 := n3_; clear n0_ n1_ n2_ n3_; clear hb hk hi) | ((with_reducible refine gate_dst (N := 5) rfl ?_); refine box_event ?hg (N := 5) ?hd (cs := #[.string (⟨#[]⟩ : ByteArray), .int .i64 0, .int .i64 0, .int .i64 0]) (t := 72) ?hr ?_; (case hd => rfl); (case hg => rfl); (case hr => first | (go_simp; done) | (go_simp; rfl)); intro gb124 hg w8 hbox hb; have n0_ := ak_ (IsS135.below (by repeat (first | (with_reducible first | exact HI0.out | apply IsS135.alloc | apply IsS135.drewN | apply IsS135.drew | apply IsS135.set_1 | apply IsS135.set_2 | refine IsS135.far ?_ NB0_120.out _) | exact HI0.out)) hb); have n1_ := ak_ (blk_below (g := gb120) (o := .cells #[.string (⟨#[]⟩ : ByteArray), .int .i64 0, .int .i64 0, .int .i64 0] 72 (0, 0)) (bk_ BK120) hb); have n2_ := ak_ (KeepBut.trans (by repeat (first | (with_reducible first | exact HK.out | apply KeepBut.set_ | apply keep_drewN | apply keep_drew | apply keep_alloc | refine keep_far ?_ GW120.out _) | exact HK.out)) (KeepBut.of_below hb g none) (.inl rfl)); have n3_ := ak_ (below_step (by repeat (first | (with_reducible first | exact HB.out | apply below_alloc | apply pw_below_drewN | apply below_drew1 | refine below_set ?_ (IsS135.ge HI0.out) | refine below_set ?_ GE120.out) | exact HB.out)) hb); have n4_ := ak_ (hbox); have n5_ := ak_ ((by rw [hg]; exact (keep_size (w := w) (g := g) (row := none) (by repeat (first | (with_reducible first | exact HK.out | apply KeepBut.set_ | apply keep_drewN | apply keep_drew | apply keep_alloc | refine keep_far ?_ GW120.out _) | exact HK.out))) : w.heap.size ≤ gb124)); have n6_ := ak_ ((Nat.le_trans HW0.out (by rw [hg]; exact (keep_size (w := w) (g := g) (row := none) (by repeat (first | (with_reducible first | exact HK.out | apply KeepBut.set_ | apply keep_drewN | apply keep_drew | apply keep_alloc | refine keep_far ?_ GW120.out _) | exact HK.out))) : w.heap.size ≤ gb124) : w0.heap.size ≤ gb124)); have n7_ := ak_ ((by rw [hg]; exact Nat.ne_of_lt (blk_lt (g := gb120) (o := .cells #[.string (⟨#[]⟩ : ByteArray), .int .i64 0, .int .i64 0, .int .i64 0] 72 (0, 0)) (bk_ BK120)) : gb120 ≠ gb124)); have n8_ := ak_ ((by rw [hg]; exact Nat.ne_of_gt (blk_lt (g := gb120) (o := .cells #[.string (⟨#[]⟩ : ByteArray), .int .i64 0, .int .i64 0, .int .i64 0] 72 (0, 0)) (bk_ BK120)) : gb124 ≠ gb120)); have n9_ := ak_ ((by rw [hg]; exact Nat.ne_of_lt (IsS135.lt (show IsS135 w0 _ g s0_0 t122 t123 from by repeat (first | (with_reducible first | exact HI0.out | apply IsS135.alloc | apply IsS135.drewN | apply IsS135.drew | apply IsS135.set_1 | apply IsS135.set_2 | refine IsS135.far ?_ NB0_120.out _) | exact HI0.out))) : g ≠ gb124)); have n10_ := ak_ ((by rw [hg]; exact Nat.ne_of_gt (IsS135.lt (show IsS135 w0 _ g s0_0 t122 t123 from by repeat (first | (with_reducible first | exact HI0.out | apply IsS135.alloc | apply IsS135.drewN | apply IsS135.drew | apply IsS135.set_1 | apply IsS135.set_2 | refine IsS135.far ?_ NB0_120.out _) | exact HI0.out))) : gb124 ≠ g)); clear HI0 BK120 HK HB; have HI0 := n0_; have BK120 := n1_; have HK := n2_; have HB := n3_; have BK124 := n4_; have GW124 := n5_; have GE124 := n6_; have NB120_124 := n7_; have NB124_120 := n8_; have NB0_124 := n9_; have NB124_0 := n10_; clear n0_ n1_ n2_ n3_ n4_ n5_ n6_ n7_ n8_ n9_ n10_; clear hb hbox hg; have hnb9 := NB124_120.out; have hnc9 := NB120_124.out; have hnb10 := NB124_0.out; have hnc10 := NB0_124.out; have hcz11_0 : w8.cell? ⟨gb124, 0, none⟩ = some (.string (⟨#[]⟩ : ByteArray)) := (blk_cell BK124.out 0).trans rfl; have hcz11_1 : w8.cell? ⟨gb124, 1, none⟩ = some (.int .i64 0) := (blk_cell BK124.out 1).trans rfl; have hcz11_2 : w8.cell? ⟨gb124, 2, none⟩ = some (.int .i64 0) := (blk_cell BK124.out 2).trans rfl; have hcz11_3 : w8.cell? ⟨gb124, 3, none⟩ = some (.int .i64 0) := (blk_cell BK124.out 3).trans rfl; have hfz11_0 := blk_frozen BK124.out 0; have hfz11_1 := blk_frozen BK124.out 1; have hfz11_2 := blk_frozen BK124.out 2; have hfz11_3 := blk_frozen BK124.out 3) | ((with_reducible refine gate_callee (f := 104) rfl ?_); refine goesL_ (some 11) rfl rfl Try.func104 (by kernel_rfl) rfl #[.pointer (some ⟨g, 0, none⟩), .int .i64 20] rfl ln_ ?_; (with_reducible refine (spec_l00Src_pick.calls g s0_0 t122 t123 20 t125 t126 t127 w0 _ ?side1 ?side2 A4.out).mono ?_); (case side1 => repeat (first | (with_reducible first | exact HI0.out | apply IsS135.alloc | apply IsS135.drewN | apply IsS135.drew | apply IsS135.set_1 | apply IsS135.set_2 | refine IsS135.far ?_ NB0_120.out _ | refine IsS135.far ?_ NB0_124.out _) | exact HI0.out)); (case side2 => repeat (first | (with_reducible first | exact HB.out | apply below_alloc | apply pw_below_drewN | apply below_drew1 | refine below_set ?_ (IsS135.ge HI0.out) | refine below_set ?_ GE120.out | refine below_set ?_ GE124.out) | exact HB.out)); rintro e w12 ⟨rfl, hi, hb, hk⟩; refine ⟨_, rfl, ?_⟩; have n0_ := ak_ (KeepBut.blk hk (g' := gb120) (o := .cells #[.string (⟨#[]⟩ : ByteArray), .int .i64 0, .int .i64 0, .int .i64 0] 72 (0, 0)) (by (with_reducible repeat (first | refine blk_drewN ?_ _ | refine blk_drew ?_ | refine blk_alloc ?_ _)); refine blk_far ?_ NB120_124.out _; (with_reducible repeat (first | refine blk_drewN ?_ _ | refine blk_drew ?_ | refine blk_alloc ?_ _)); refine blk_far ?_ NB120_124.out _; (with_reducible repeat (first | refine blk_drewN ?_ _ | refine blk_drew ?_ | refine blk_alloc ?_ _)); refine blk_far ?_ NB120_124.out _; (with_reducible repeat (first | refine blk_drewN ?_ _ | refine blk_drew ?_ | refine blk_alloc ?_ _)); refine blk_far ?_ NB120_124.out _; (with_reducible repeat (first | refine blk_drewN ?_ _ | refine blk_drew ?_ | refine blk_alloc ?_ _)); exact BK120.out) NB120_0.out (by simp)); have n1_ := ak_ (KeepBut.blk hk (g' := gb124) (o := .cells #[.string a1, .int .i64 t121, .int .i64 0, .int .i64 0] 72 (0, 0)) (by (with_reducible repeat (first | refine blk_drewN ?_ _ | refine blk_drew ?_ | refine blk_alloc ?_ _)); refine blk_put (cs := #[.string a1, .int .i64 t121, .int .i64 0, .int .i64 0]) ?_ 3 _ rfl; (with_reducible repeat (first | refine blk_drewN ?_ _ | refine blk_drew ?_ | refine blk_alloc ?_ _)); refine blk_put (cs := #[.string a1, .int .i64 t121, .int .i64 0, .int .i64 0]) ?_ 2 _ rfl; (with_reducible repeat (first | refine blk_drewN ?_ _ | refine blk_drew ?_ | refine blk_alloc ?_ _)); refine blk_put (cs := #[.string a1, .int .i64 0, .int .i64 0, .int .i64 0]) ?_ 1 _ rfl; (with_reducible repeat (first | refine blk_drewN ?_ _ | refine blk_drew ?_ | refine blk_alloc ?_ _)); refine blk_put (cs := #[.string (⟨#[]⟩ : ByteArray), .int .i64 0, .int .i64 0, .int .i64 0]) ?_ 0 _ rfl; (with_reducible repeat (first | refine blk_drewN ?_ _ | refine blk_drew ?_ | refine blk_alloc ?_ _)); exact BK124.out) NB124_0.out (by simp)); have n2_ := ak_ (KeepBut.trans (by repeat (first | (with_reducible first | exact HK.out | apply KeepBut.set_ | apply keep_drewN | apply keep_drew | apply keep_alloc | refine keep_far ?_ GW120.out _ | refine keep_far ?_ GW124.out _) | exact HK.out)) hk (.inl rfl)); have n3_ := ak_ (hb); have n4_ := ak_ (hi); clear BK120 BK124 HK HB HI0; have BK120 := n0_; have BK124 := n1_; have HK := n2_; have HB := n3_; have HI0 := n4_; clear n0_ n1_ n2_ n3_ n4_; (try clear hb); (try clear hb2); (try clear hk); (try clear hi); have hcz13_0 : w12.cell? ⟨gb124, 0, none⟩ = some (.string a1) := (blk_cell BK124.out 0).trans rfl; have hcz13_1 : w12.cell? ⟨gb124, 1, none⟩ = some (.int .i64 t121) := (blk_cell BK124.out 1).trans rfl; have hcz13_2 : w12.cell? ⟨gb124, 2, none⟩ = some (.int .i64 0) := (blk_cell BK124.out 2).trans rfl; have hcz13_3 : w12.cell? ⟨gb124, 3, none⟩ = some (.int .i64 0) := (blk_cell BK124.out 3).trans rfl; have hfz13_0 := blk_frozen BK124.out 0; have hfz13_1 := blk_frozen BK124.out 1; have hfz13_2 := blk_frozen BK124.out 2; have hfz13_3 := blk_frozen BK124.out 3) | ((with_reducible refine gate_callee (f := 104) rfl ?_); refine goesL_ (some 14) rfl rfl Try.func104 (by kernel_rfl) rfl #[.pointer (some ⟨g, 0, none⟩), .int .i64 100] rfl ln_ ?_; (with_reducible refine (spec_l00Src_pick.calls g s0_0 t126 t127 100 t128 t129 t130 w0 _ ?side1 ?side2 A5.out).mono ?_); (case side1 => repeat (first | (with_reducible first | exact HI0.out | apply IsS135.alloc | apply IsS135.drewN | apply IsS135.drew | apply IsS135.set_1 | apply IsS135.set_2 | refine IsS135.far ?_ NB0_120.out _ | refine IsS135.far ?_ NB0_124.out _) | exact HI0.out)); (case side2 => repeat (first | (with_reducible first | exact HB.out | apply below_alloc | apply pw_below_drewN | apply below_drew1 | refine below_set ?_ (IsS135.ge HI0.out) | refine below_set ?_ GE120.out | refine below_set ?_ GE124.out) | exact HB.out)); rintro e w14 ⟨rfl, hi, hb, hk⟩; refine ⟨_, rfl, ?_⟩; have n0_ := ak_ (KeepBut.blk hk (g' := gb120) (o := .cells #[.string (⟨#[]⟩ : ByteArray), .int .i64 0, .int .i64 0, .int .i64 0] 72 (0, 0)) (by (with_reducible repeat (first | refine blk_drewN ?_ _ | refine blk_drew ?_ | refine blk_alloc ?_ _)); refine blk_far ?_ NB120_124.out _; (with_reducible repeat (first | refine blk_drewN ?_ _ | refine blk_drew ?_ | refine blk_alloc ?_ _)); exact BK120.out) NB120_0.out (by simp)); have n1_ := ak_ (KeepBut.blk hk (g' := gb124) (o := .cells #[.string a1, .int .i64 t121, .int .i64 t125, .int .i64 0] 72 (0, 0)) (by (with_reducible repeat (first | refine blk_drewN ?_ _ | refine blk_drew ?_ | refine blk_alloc ?_ _)); refine blk_put (cs := #[.string a1, .int .i64 t121, .int .i64 0, .int .i64 0]) ?_ 2 _ rfl; (with_reducible repeat (first | refine blk_drewN ?_ _ | refine blk_drew ?_ | refine blk_alloc ?_ _)); exact BK124.out) NB124_0.out (by simp)); have n2_ := ak_ (KeepBut.trans (by repeat (first | (with_reducible first | exact HK.out | apply KeepBut.set_ | apply keep_drewN | apply keep_drew | apply keep_alloc | refine keep_far ?_ GW120.out _ | refine keep_far ?_ GW124.out _) | exact HK.out)) hk (.inl rfl)); have n3_ := ak_ (hb); have n4_ := ak_ (hi); clear BK120 BK124 HK HB HI0; have BK120 := n0_; have BK124 := n1_; have HK := n2_; have HB := n3_; have HI0 := n4_; clear n0_ n1_ n2_ n3_ n4_; (try clear hb); (try clear hb2); (try clear hk); (try clear hi); have hcz15_0 : w14.cell? ⟨gb124, 0, none⟩ = some (.string a1) := (blk_cell BK124.out 0).trans rfl; have hcz15_1 : w14.cell? ⟨gb124, 1, none⟩ = some (.int .i64 t121) := (blk_cell BK124.out 1).trans rfl; have hcz15_2 : w14.cell? ⟨gb124, 2, none⟩ = some (.int .i64 t125) := (blk_cell BK124.out 2).trans rfl; have hcz15_3 : w14.cell? ⟨gb124, 3, none⟩ = some (.int .i64 0) := (blk_cell BK124.out 3).trans rfl; have hfz15_0 := blk_frozen BK124.out 0; have hfz15_1 := blk_frozen BK124.out 1; have hfz15_2 := blk_frozen BK124.out 2; have hfz15_3 := blk_frozen BK124.out 3; have hnb16 := NB120_0.out; have hnc16 := NB0_120.out; have hcz17_0 : w14.cell? ⟨gb120, 0, none⟩ = some (.string (⟨#[]⟩ : ByteArray)) := (blk_cell BK120.out 0).trans rfl; have hcz17_1 : w14.cell? ⟨gb120, 1, none⟩ = some (.int .i64 0) := (blk_cell BK120.out 1).trans rfl; have hcz17_2 : w14.cell? ⟨gb120, 2, none⟩ = some (.int .i64 0) := (blk_cell BK120.out 2).trans rfl; have hcz17_3 : w14.cell? ⟨gb120, 3, none⟩ = some (.int .i64 0) := (blk_cell BK120.out 3).trans rfl; have hfz17_0 := blk_frozen BK120.out 0; have hfz17_1 := blk_frozen BK120.out 1; have hfz17_2 := blk_frozen BK120.out 2; have hfz17_3 := blk_frozen BK120.out 3))
 refine bodyPost_ret (results_cell_row rfl _ _ gb120 72 #[.string a1, .int .i64 t121, .int .i64 t125, .int .i64 (wrap64 (50 + (wrap64 (10 * t128))))] (0, 0) _ rfl (by (with_reducible repeat (first | refine blk_drewN ?_ _ | refine blk_drew ?_ | refine blk_alloc ?_ _)); refine blk_put (cs := #[.string a1, .int .i64 t121, .int .i64 t125, .int .i64 0]) ?_ 3 _ rfl; (with_reducible repeat (first | refine blk_drewN ?_ _ | refine blk_drew ?_ | refine blk_alloc ?_ _)); refine blk_put (cs := #[.string a1, .int .i64 t121, .int .i64 0, .int .i64 0]) ?_ 2 _ rfl; (with_reducible repeat (first | refine blk_drewN ?_ _ | refine blk_drew ?_ | refine blk_alloc ?_ _)); refine blk_put (cs := #[.string a1, .int .i64 0, .int .i64 0, .int .i64 0]) ?_ 1 _ rfl; (with_reducible repeat (first | refine blk_drewN ?_ _ | refine blk_drew ?_ | refine blk_alloc ?_ _)); refine blk_put (cs := #[.string (⟨#[]⟩ : ByteArray), .int .i64 0, .int .i64 0, .int .i64 0]) ?_ 0 _ rfl; (with_reducible repeat (first | refine blk_drewN ?_ _ | refine blk_drew ?_ | refine blk_alloc ?_ _)); refine blk_far ?_ NB120_124.out _; (with_reducible repeat (first | refine blk_drewN ?_ _ | refine blk_drew ?_ | refine blk_alloc ?_ _)); exact BK120.out) Try.underlying72 rfl (by kernel_rfl)) rfl ?_
 exact ⟨ew_, by repeat (first | (with_reducible first | exact HI0.out | apply IsS135.alloc | apply IsS135.drewN | apply IsS135.drew | apply IsS135.set_1 | apply IsS135.set_2 | refine IsS135.far ?_ NB0_120.out _ | refine IsS135.far ?_ NB0_124.out _) | exact HI0.out), by repeat (first | (with_reducible first | exact HB.out | apply below_alloc | apply pw_below_drewN | apply below_drew1 | refine below_set ?_ (IsS135.ge HI0.out) | refine below_set ?_ GE120.out | refine below_set ?_ GE124.out) | exact HB.out), by repeat (first | (with_reducible first | exact HK.out | apply KeepBut.set_ | apply keep_drewN | apply keep_drew | apply keep_alloc | refine keep_far ?_ GW120.out _ | refine keep_far ?_ GW124.out _) | exact HK.out)⟩

/-! ### spec_l21Draw: function 124 -/
def spec_l21Draw.l0 : Nat → List ByteArray → List (S72) → Int → List Int → Int → Int → Option ((List (S72)) × Int × Int)
 | 0, _, _, _, _, _, _ => none
 | k + 1, x3, x4, x5, x1000, x1001, x1002 => if x5 > 0 then (if 0 ≤ (x4.length : Int) then (if (x4.length : Int) < (x3.length : Int) then ((spec_l21New.f x1000 x1001 x1002 (rdOf ByteArray.empty x3 (x4.length : Int))).bind fun bt141 => (if x4.length < 3518437208883 then (spec_l21Draw.l0 k x3 (x4 ++ [(⟨bt141.1, bt141.2.1, bt141.2.2.1, bt141.2.2.2.1⟩ : S72)]) (wrap64 (x5 - 1)) x1000 bt141.2.2.2.2.1 bt141.2.2.2.2.2) else (none))) else (none)) else (none)) else (some (x4, x1001, x1002))
def spec_l21Draw.f (k : Nat) (s0_0 : List Int) (s0_1 : Int) (s0_2 : Int) : Option ((List (S72)) × Int × Int) := (spec_l00Src_pick.f s0_0 s0_1 s0_2 7).bind fun bt137 => (spec_l21Draw.l0 k (([(⟨#[98, 97, 99, 107, 115, 116, 97, 121]⟩ : ByteArray), (⟨#[102, 111, 114, 101, 115, 116, 97, 121]⟩ : ByteArray), (⟨#[104, 97, 108, 121, 97, 114, 100]⟩ : ByteArray), (⟨#[108, 97, 110, 121, 97, 114, 100]⟩ : ByteArray), (⟨#[115, 104, 114, 111, 117, 100, 45, 49]⟩ : ByteArray), (⟨#[115, 104, 114, 111, 117, 100, 45, 50]⟩ : ByteArray)] : List ByteArray)) (([] : List (S72))) bt137.1 s0_0 bt137.2.1 bt137.2.2)
set_option maxHeartbeats 8000000 in
set_option maxRecDepth 100000 in
theorem spec_l21Draw.calls (k : Nat) (g : Nat) (s0_0 : List Int) (s0_1 : Int) (s0_2 : Int) (r1 : List (S72)) (r2 : Int) (r3 : Int) (w0 w : World) (hI : IsS135 w0 w g s0_0 s0_1 s0_2) (hB : Below w0.heap.size w0 w) (h : spec_l21Draw.f k s0_0 s0_1 s0_2 = some (r1, r2, r3)) :
  Calls Try.prog 124 #[.pointer (some ⟨g, 0, none⟩)] w fun e w' => ∃ v0_ : Value, e = .returned (v0_) ∧ Kd.R k72 72 w' w.heap.size (fun _ => True) v0_ r1 ∧ IsS135 w0 w' g s0_0 r2 r3 ∧ Below w0.heap.size w0 w' ∧ KeepBut w w' g none := by
 have HI0 := ak_ hI
 have HK := ak_ (KeepBut.refl w g none)
 have HL := ak_ hB.size
 clear hI
 have HW0 := ak_ hB.size
 have HB := ak_ hB
 clear hB
 have H : ((spec_l00Src_pick.f s0_0 s0_1 s0_2 7).bind fun bt137 => (spec_l21Draw.l0 k (([(⟨#[98, 97, 99, 107, 115, 116, 97, 121]⟩ : ByteArray), (⟨#[102, 111, 114, 101, 115, 116, 97, 121]⟩ : ByteArray), (⟨#[104, 97, 108, 121, 97, 114, 100]⟩ : ByteArray), (⟨#[108, 97, 110, 121, 97, 114, 100]⟩ : ByteArray), (⟨#[115, 104, 114, 111, 117, 100, 45, 49]⟩ : ByteArray), (⟨#[115, 104, 114, 111, 117, 100, 45, 50]⟩ : ByteArray)] : List ByteArray)) (([] : List (S72))) bt137.1 s0_0 bt137.2.1 bt137.2.2)) = some (r1, r2, r3) := h
 clear h
 obtain ⟨y131, hy131⟩ : ∃ y_ : List ByteArray, y_ = (([(⟨#[98, 97, 99, 107, 115, 116, 97, 121]⟩ : ByteArray), (⟨#[102, 111, 114, 101, 115, 116, 97, 121]⟩ : ByteArray), (⟨#[104, 97, 108, 121, 97, 114, 100]⟩ : ByteArray), (⟨#[108, 97, 110, 121, 97, 114, 100]⟩ : ByteArray), (⟨#[115, 104, 114, 111, 117, 100, 45, 49]⟩ : ByteArray), (⟨#[115, 104, 114, 111, 117, 100, 45, 50]⟩ : ByteArray)] : List ByteArray)) := ⟨_, rfl⟩
 replace H : ((spec_l00Src_pick.f s0_0 s0_1 s0_2 7).bind fun bt137 => (spec_l21Draw.l0 k y131 (([] : List (S72))) bt137.1 s0_0 bt137.2.1 bt137.2.2)) = some (r1, r2, r3) := by first | (rw [hy131]; with_reducible exact H) | (have H2_ := (Option.bind_some _ _).symm.trans H; rw [hy131]; with_reducible exact H2_) | (have H2_ := (Option.bind_some _ _).symm.trans H; with_reducible exact H2_) | with_reducible exact H | (rw [hy131]; exact H) | exact H
 have Ny131 := ak_ hy131
 clear hy131
 obtain ⟨y134, hy134⟩ : ∃ y_ : List (S72), y_ = (([] : List (S72))) := ⟨_, rfl⟩
 replace H : ((spec_l00Src_pick.f s0_0 s0_1 s0_2 7).bind fun bt137 => (spec_l21Draw.l0 k y131 y134 bt137.1 s0_0 bt137.2.1 bt137.2.2)) = some (r1, r2, r3) := by first | (rw [hy134]; with_reducible exact H) | (have H2_ := (Option.bind_some _ _).symm.trans H; rw [hy134]; with_reducible exact H2_) | (have H2_ := (Option.bind_some _ _).symm.trans H; with_reducible exact H2_) | with_reducible exact H | (rw [hy134]; exact H) | exact H
 have Ny134 := ak_ hy134
 clear hy134
 replace H := ob_ H
 obtain ⟨⟨t137, t138, t139⟩, A20, H⟩ := H
 replace H : (spec_l21Draw.l0 k y131 y134 t137 s0_0 t138 t139) = some (r1, r2, r3) := H
 have A2 := ak_ A20
 clear A20
 have H' := ak_ H
 clear H
 go_enter Try.func124, Try.ntmps124
 go_wp2_with (first | ((with_reducible refine gate_dst (N := 6) rfl ?_); refine Kd.R_lit Kd.string _ 9 ?hg (N := 6) ?hd (xs := ([(⟨#[98, 97, 99, 107, 115, 116, 97, 121]⟩ : ByteArray), (⟨#[102, 111, 114, 101, 115, 116, 97, 121]⟩ : ByteArray), (⟨#[104, 97, 108, 121, 97, 114, 100]⟩ : ByteArray), (⟨#[108, 97, 110, 121, 97, 114, 100]⟩ : ByteArray), (⟨#[115, 104, 114, 111, 117, 100, 45, 49]⟩ : ByteArray), (⟨#[115, 104, 114, 111, 117, 100, 45, 50]⟩ : ByteArray)] : List ByteArray)) (inner := [.string (⟨#[98, 97, 99, 107, 115, 116, 97, 121]⟩ : ByteArray), .string (⟨#[102, 111, 114, 101, 115, 116, 97, 121]⟩ : ByteArray), .string (⟨#[104, 97, 108, 121, 97, 114, 100]⟩ : ByteArray), .string (⟨#[108, 97, 110, 121, 97, 114, 100]⟩ : ByteArray), .string (⟨#[115, 104, 114, 111, 117, 100, 45, 49]⟩ : ByteArray), .string (⟨#[115, 104, 114, 111, 117, 100, 45, 50]⟩ : ByteArray)]) (ok := fun _ => True) (okp := fun _ => True) ?hr ?hp (fun _ hk => hk) trivial (Below.refl _ _) (Nat.le_refl _) (by simp) ?_; (case hd => rfl); (case hg => rfl); (case hr => first | (go_simp; done) | (go_simp; rfl)); (case hp => exact (Reps.one (show Kd.M Kd.string _ _ _ (⟨#[98, 97, 99, 107, 115, 116, 97, 121]⟩ : ByteArray) [.string (⟨#[98, 97, 99, 107, 115, 116, 97, 121]⟩ : ByteArray)] from rfl) (Reps.one (show Kd.M Kd.string _ _ _ (⟨#[102, 111, 114, 101, 115, 116, 97, 121]⟩ : ByteArray) [.string (⟨#[102, 111, 114, 101, 115, 116, 97, 121]⟩ : ByteArray)] from rfl) (Reps.one (show Kd.M Kd.string _ _ _ (⟨#[104, 97, 108, 121, 97, 114, 100]⟩ : ByteArray) [.string (⟨#[104, 97, 108, 121, 97, 114, 100]⟩ : ByteArray)] from rfl) (Reps.one (show Kd.M Kd.string _ _ _ (⟨#[108, 97, 110, 121, 97, 114, 100]⟩ : ByteArray) [.string (⟨#[108, 97, 110, 121, 97, 114, 100]⟩ : ByteArray)] from rfl) (Reps.one (show Kd.M Kd.string _ _ _ (⟨#[115, 104, 114, 111, 117, 100, 45, 49]⟩ : ByteArray) [.string (⟨#[115, 104, 114, 111, 117, 100, 45, 49]⟩ : ByteArray)] from rfl) (Reps.one (show Kd.M Kd.string _ _ _ (⟨#[115, 104, 114, 111, 117, 100, 45, 50]⟩ : ByteArray) [.string (⟨#[115, 104, 114, 111, 117, 100, 45, 50]⟩ : ByteArray)] from rfl) (Reps.none _ _)))))))); intro v132 w3 ho4 hb hg_ hnew_; clear hg_ hnew_; (first | rw [← Ny131.out] at ho4 | (simp only [Int.reduceToNat] at ho4; rw [← Ny131.out] at ho4)); have n0_ := ak_ (Kd.R_lower ho4 (keep_size (w := w) (g := g) (row := none) kb_)); have n1_ := ak_ (IsS135.below (isS135_a HI0) hb); have n2_ := ak_ (KeepBut.trans kb_ (KeepBut.of_below hb g none) (.inl rfl)); have n3_ := ak_ (below_step (hz_ (IsS135.ge HI0.out)) hb); clear HI0 HK HB; have HO133 := n0_; have HI0 := n1_; have HK := n2_; have HB := n3_; clear n0_ n1_ n2_ n3_; clear hb ho4) | ((with_reducible refine gate_dst (N := 7) rfl ?_); refine Kd.R_lit k72 _ 72 ?hg (N := 7) ?hd (xs := ([] : List (S72))) (inner := []) (ok := fun _ => True) (okp := fun _ => True) ?hr ?hp (fun _ hk => hk) trivial (Below.refl _ _) (Nat.le_refl _) (by simp) ?_; (case hd => rfl); (case hg => rfl); (case hr => first | (go_simp; done) | (go_simp; rfl)); (case hp => exact (Reps.none _ _)); intro v135 w5 ho6 hb hg_ hnew_; clear hg_ hnew_; (first | rw [← Ny134.out] at ho6 | (simp only [Int.reduceToNat] at ho6; rw [← Ny134.out] at ho6)); have n0_ := ak_ (Kd.R_below (kr_ HO133) hb); have n1_ := ak_ (Kd.R_lower ho6 (keep_size (w := w) (g := g) (row := none) kb_)); have n2_ := ak_ (IsS135.below (isS135_a HI0) hb); have n3_ := ak_ (KeepBut.trans kb_ (KeepBut.of_below hb g none) (.inl rfl)); have n4_ := ak_ (below_step (hz_ (IsS135.ge HI0.out)) hb); clear HO133 HI0 HK HB; have HO133 := n0_; have HO136 := n1_; have HI0 := n2_; have HK := n3_; have HB := n4_; clear n0_ n1_ n2_ n3_ n4_; clear hb ho6) | ((with_reducible refine gate_callee (f := 104) rfl ?_); refine goesL_ (some 9) rfl rfl Try.func104 (by kernel_rfl) rfl #[.pointer (some ⟨g, 0, none⟩), .int .i64 7] rfl ln_ ?_; (with_reducible refine (spec_l00Src_pick.calls g s0_0 s0_1 s0_2 7 t137 t138 t139 w0 _ ?side1 ?side2 A2.out).mono ?_); (case side1 => exact isS135_a HI0); (case side2 => exact hz_ (IsS135.ge HI0.out)); rintro e w7 ⟨rfl, hi, hb, hk⟩; refine ⟨_, rfl, ?_⟩; have n0_ := ak_ (Kd.R_mono (Kd.R_keep (IsS135.apart (show IsS135 w0 _ g s0_0 s0_1 s0_2 from isS135_a HI0) (kr_ HO133) (by decide)) hk (fun _ h => h.2)) (fun _ h => h.1)); have n1_ := ak_ (Kd.R_mono (Kd.R_keep (IsS135.apart (show IsS135 w0 _ g s0_0 s0_1 s0_2 from isS135_a HI0) (kr_ HO136) (by decide)) hk (fun _ h => h.2)) (fun _ h => h.1)); have n2_ := ak_ (KeepBut.trans kb_ hk (.inl rfl)); have n3_ := ak_ (hb); have n4_ := ak_ (hi); clear HO133 HO136 HK HB HI0; have HO133 := n0_; have HO136 := n1_; have HK := n2_; have HB := n3_; have HI0 := n4_; clear n0_ n1_ n2_ n3_ n4_; clear hb hk hi))
 go_loopg [4, 5] k (fun kq v4 v5 w' => ∃ (x4_1 : List (S72)) (x5_1 : Int) (x1001_1 : Int) (x1002_1 : Int), v5 = .int .i64 x5_1 ∧ Aside0 (spec_l21Draw.l0 kq y131 x4_1 x5_1 s0_0 x1001_1 x1002_1 = some (r1, r2, r3)) ∧ Aside0 (kq ≤ k) ∧ Aside0 (Kd.R Kd.string 9 w' w.heap.size (fun _ => True) v132 y131) ∧ Aside0 (Kd.R k72 72 w' w.heap.size (fun _ => True) v4 x4_1) ∧ Aside0 (IsS135 w0 w' g s0_0 x1001_1 x1002_1) ∧ Aside0 (KeepBut w w' g none) ∧ Aside0 (Below w0.heap.size w0 w'))
 case atStart => exact ⟨(y134), (t137), (t138), (t139), fr_, H', ⟨Nat.le_refl _⟩, ⟨kr_ HO133⟩, ⟨kr_ HO136⟩, ⟨by repeat (first | (with_reducible first | exact HI0.out | apply IsS135.alloc | apply IsS135.drewN | apply IsS135.drew | apply IsS135.set_1 | apply IsS135.set_2) | exact HI0.out)⟩, ⟨kb_⟩, ⟨hz_ (IsS135.ge HI0.out)⟩⟩
 case round =>
  clear H'
  try clear c1
  try clear p2
  obtain ⟨x4_1, x5_1, x1001_1, x1002_1, rfl, HA, HK1, HO_3, HO_4, HI0, HK, HB⟩ := hrel
  cases gk with
  | zero => exact absurd HA.out (by simp [spec_l21Draw.l0])
  | succ k1 =>
   have H := HA.out
   clear HA
   simp only [spec_l21Draw.l0] at H
   by_cases c8 : x5_1 > 0
   ·rw [if_pos c8] at H
    have c8b0 : decide (0 < x5_1) = true := dt_ c8
    clear c8
    by_cases c9 : 0 ≤ (x4_1.length : Int)
    ·rw [if_pos c9] at H
     have c9b0 : decide (0 ≤ (x4_1.length : Int)) = true := dt_ c9
     have c9b1 : decide (0 ≤ x4_1.length) = true := dt_ (by omega)
     clear c9
     by_cases c10 : (x4_1.length : Int) < (y131.length : Int)
     ·rw [if_pos c10] at H
      have c10b0 : decide ((x4_1.length : Int) < (y131.length : Int)) = true := dt_ c10
      have c10b1 : decide (x4_1.length < y131.length) = true := dt_ (Int.ofNat_lt.mp c10)
      clear c10
      replace H := ob_ H
      obtain ⟨⟨t141, t142, t143, t144, t145, t146⟩, A110, H⟩ := H
      replace H : (if x4_1.length < 3518437208883 then (spec_l21Draw.l0 k1 y131 (x4_1 ++ [(⟨t141, t142, t143, t144⟩ : S72)]) (wrap64 (x5_1 - 1)) s0_0 t145 t146) else (none)) = some (r1, r2, r3) := H
      have A11 := ak_ A110
      clear A110
      by_cases c12 : x4_1.length < 3518437208883
      ·rw [if_pos c12] at H
       have LMc12 := ak_ c12
       clear c12
       obtain ⟨y147, hy147⟩ : ∃ y_ : List (S72), y_ = (x4_1 ++ [(⟨t141, t142, t143, t144⟩ : S72)]) := ⟨_, rfl⟩
       replace H : (spec_l21Draw.l0 k1 y131 y147 (wrap64 (x5_1 - 1)) s0_0 t145 t146) = some (r1, r2, r3) := by first | (rw [hy147]; with_reducible exact H) | (have H2_ := (Option.bind_some _ _).symm.trans H; rw [hy147]; with_reducible exact H2_) | (have H2_ := (Option.bind_some _ _).symm.trans H; with_reducible exact H2_) | with_reducible exact H | (rw [hy147]; exact H) | exact H
       have Ny147 := ak_ hy147
       clear hy147
       have H' := ak_ H
       clear H
       obtain ⟨Ao13, co13, eo13⟩ := Kd.R_slice HO_4.out
       subst eo13
       obtain ⟨Ao14, co14, eo14⟩ := Kd.R_slice HO_3.out
       subst eo14
       have p140 : 0 ≤ ((x4_1.length : Int) : Int) := od_
       have q140 : (x4_1.length : Int) < (y131.length : Int) := od_
       obtain ⟨ad140, e140, hx140_0⟩ := Kd.at_string (Kd.R_reads' HO_3.out).2.2 (x4_1.length : Int) p140 q140
       cases e140
       (try simp only [Go.IntWalk.toNatUp] at hx140_0)
       replace p140 := eq_true p140
       replace q140 := eq_true q140
       go_wp2_with (first | ((with_reducible refine gate_callee (f := 125) rfl ?_); refine goesL_ (some 21) rfl rfl Try.func125 (by kernel_rfl) rfl #[.pointer (some ⟨g, 0, none⟩), .string (rdOf ByteArray.empty y131 (x4_1.length : Int))] rfl ln_ ?_; (with_reducible refine (spec_l21New.calls g s0_0 x1001_1 x1002_1 (rdOf ByteArray.empty y131 (x4_1.length : Int)) t141 t142 t143 t144 t145 t146 w0 _ ?side1 ?side2 A11.out).mono ?_); (case side1 => exact isS135_a HI0); (case side2 => exact hz_ (IsS135.ge HI0.out)); rintro e w15 ⟨rfl, hi, hb, hk⟩; refine ⟨_, rfl, ?_⟩; have n0_ := ak_ (Kd.R_mono (Kd.R_keep (IsS135.apart (show IsS135 w0 _ g s0_0 x1001_1 x1002_1 from isS135_a HI0) (kr_ HO_3) (by decide)) hk (fun _ h => h.2)) (fun _ h => h.1)); have n1_ := ak_ (Kd.R_mono (Kd.R_keep (IsS135.apart (show IsS135 w0 _ g s0_0 x1001_1 x1002_1 from isS135_a HI0) (kr_ HO_4) (by decide)) hk (fun _ h => h.2)) (fun _ h => h.1)); have n2_ := ak_ (KeepBut.trans kb_ hk (.inl rfl)); have n3_ := ak_ (hb); have n4_ := ak_ (hi); clear HO_3 HO_4 HK HB HI0; have HO_3 := n0_; have HO_4 := n1_; have HK := n2_; have HB := n3_; have HI0 := n4_; clear n0_ n1_ n2_ n3_ n4_; clear hb hk hi) | ((with_reducible refine gate_builtin (b := .append) (xs := #[.tmp 14, .tmp 22]) rfl ?_); at_builtin; refine Kd.R_append k72 w.heap.size rfl (.tmp 14) (.tmp 22) 53 72 (.agg #[(.string ⟨#[]⟩), (.int .i64 0), (.int .i64 0), (.int .i64 0)]) 40 rfl Try.underlying53 info72 rfl (by decide) (by omega) (.slice Ao13 x4_1.length co13) x4_1 (⟨t141, t142, t143, t144⟩ : S72) [.string t141, .int .i64 t142, .int .i64 t143, .int .i64 t144] (fun _ => True) (fun _ => False) rfl rfl ?aP (fun _ hk => hk.elim) ?aF ?aO (Below.refl _ _) ?aS ?aL ?_; (case aP => exact k72_mkM _ _ _ (⟨t141, t142, t143, t144⟩ : S72)); (case aF => exact (fun _ _ => trivial)); (case aO => exact (kr_ HO_4)); (case aS => exact (keep_size (w := w) (g := g) (row := none) kb_)); (case aL => have := LMc12.out; omega); intro v148 w16 ho hb hg hat; rw [← Ny147.out] at ho; have n0_ := ak_ (Kd.R_over' (kr_ HO_3) (Kd.R_typed (kr_ HO_4)) (by decide) hg); have n1_ := ak_ (IsS135.grown (isS135_a HI0) hg (IsS135.own_ne HI0.out HO_4.out (by decide))); have n2_ := ak_ (below_weaken (hz_ (IsS135.ge HI0.out)) HL.out hb); have n3_ := ak_ (KeepBut.trans kb_ (KeepBut.of_grown hg g) (Kd.R_base2 HO_4.out)); have n4_ := ak_ (ho); clear HO_3 HI0 HB HK HO_4; have HO_3 := n0_; have HI0 := n1_; have HB := n2_; have HK := n3_; have HO149 := n4_; clear n0_ n1_ n2_ n3_ n4_; clear ho hb hg hat))
       go_roundg k1
       case measure => have := HK1.out; omega
       case rel => exact ⟨(y147), (wrap64 (x5_1 - 1)), (t145), (t146), fr_, H', ⟨by have := HK1.out; omega⟩, ⟨kr_ HO_3⟩, ⟨kr_ HO149⟩, ⟨by repeat (first | (with_reducible first | exact HI0.out | apply IsS135.alloc | apply IsS135.drewN | apply IsS135.drew | apply IsS135.set_1 | apply IsS135.set_2) | exact HI0.out)⟩, ⟨kb_⟩, ⟨hz_ (IsS135.ge HI0.out)⟩⟩
      ·rw [if_neg c12] at H
       exact absurd H (by simp)
     ·rw [if_neg c10] at H
      exact absurd H (by simp)
    ·rw [if_neg c9] at H
     exact absurd H (by simp)
   ·rw [if_neg c8] at H
    have c8b0 : decide (0 < x5_1) = false := decide_eq_false c8
    clear c8
    simp only [Option.some.injEq, Prod.mk.injEq] at H
    obtain ⟨rfl, rfl, rfl⟩ := H
    go_wp2
    go_ret
    exact ⟨_, ew_, by (with_reducible repeat (first | apply Kd.R_alloc | apply Kd.R_drewN | apply Kd.R_drew)); exact HO_4.out, isS135_a HI0, hz_ (IsS135.ge HI0.out), kb_⟩

/-! ### spec_l21Bent: function 101 -/
mutual
def spec_l21Bent.j1 : Nat → List (S72) → List Int → Int → Int → Option ((List (S72)) × Int × Int)
 | 0, _, _, _, _ => none
 | k + 1, x3, x1000, x1001, x1002 => if (x3.length : Int) = 0 then (some (x3, x1001, x1002)) else ((spec_l00Src_pick.f x1000 x1001 x1002 (x3.length : Int)).bind fun bt176 => (if 0 ≤ bt176.1 then (if bt176.1 < (x3.length : Int) then ((spec_l00Src_pick.f x1000 bt176.2.1 bt176.2.2 24).bind fun bt179 => (if bt179.1 = 0 then ((spec_l00Src_text.f x1000 bt179.2.1 bt179.2.2 (([(⟨#[]⟩ : ByteArray), (⟨#[66, 111, 108, 116]⟩ : ByteArray), (⟨#[98, 97, 99, 107, 115, 116, 97, 121]⟩ : ByteArray)] : List ByteArray))).bind fun bt185 => (some ((x3.set (bt176.1 : Int).toNat (⟨bt185.1, (rd_T72 x3 bt176.1).f1, (rd_T72 x3 bt176.1).f2, (rd_T72 x3 bt176.1).f3⟩ : S72)), bt185.2.1, bt185.2.2))) else (if bt179.1 = 1 then ((spec_l00Src_among.f x1000 bt179.2.1 bt179.2.2 (([(-1), 0, 20000, 20001, (-9223372036854775808)] : List Int))).bind fun bt192 => (some ((x3.set (bt176.1 : Int).toNat (⟨(rd_T72 x3 bt176.1).f0, bt192.1, (rd_T72 x3 bt176.1).f2, (rd_T72 x3 bt176.1).f3⟩ : S72)), bt192.2.1, bt192.2.2))) else (if bt179.1 = 2 then ((spec_l00Src_among.f x1000 bt179.2.1 bt179.2.2 (([(-1), 0, 1000, 1001] : List Int))).bind fun bt199 => (some ((x3.set (bt176.1 : Int).toNat (⟨(rd_T72 x3 bt176.1).f0, (rd_T72 x3 bt176.1).f1, bt199.1, (rd_T72 x3 bt176.1).f3⟩ : S72)), bt199.2.1, bt199.2.2))) else (if bt179.1 = 3 then ((spec_l00Src_among.f x1000 bt179.2.1 bt179.2.2 (([0, 1, 1000000, 1000001] : List Int))).bind fun bt206 => (some ((x3.set (bt176.1 : Int).toNat (⟨(rd_T72 x3 bt176.1).f0, (rd_T72 x3 bt176.1).f1, (rd_T72 x3 bt176.1).f2, bt206.1⟩ : S72)), bt206.2.1, bt206.2.2))) else (some (x3, bt179.2.1, bt179.2.2))))))) else (none)) else (none)))
def spec_l21Bent.l0 : Nat → List (S72) → Int → List Int → Int → Int → Option ((List (S72)) × Int × Int)
 | 0, _, _, _, _, _ => none
 | k + 1, x3, x4, x1000, x1001, x1002 => if x4 > 0 then ((spec_l21New.f x1000 x1001 x1002 (strOfNums (([97 + ((((x3.length : Int)) % 256) / 26), 97 + ((((x3.length : Int)) % 256) % 26)] : List Int)))).bind fun bt167 => (if x3.length < 3518437208883 then (spec_l21Bent.l0 k (x3 ++ [(⟨bt167.1, bt167.2.1, bt167.2.2.1, bt167.2.2.2.1⟩ : S72)]) (wrap64 (x4 - 1)) x1000 bt167.2.2.2.2.1 bt167.2.2.2.2.2) else (none))) else (spec_l21Bent.j1 k x3 x1000 x1001 x1002)
end
def spec_l21Bent.f (k : Nat) (s0_0 : List Int) (s0_1 : Int) (s0_2 : Int) : Option ((List (S72)) × Int × Int) := (spec_l21Draw.f k s0_0 s0_1 s0_2).bind fun bt150 => ((spec_l00Src_one.f s0_0 bt150.2.1 bt150.2.2 24).bind fun bt155 => (if bt155.1 = true then ((spec_l00Src_pick.f s0_0 bt155.2.1 bt155.2.2 2).bind fun bt161 => (spec_l21Bent.l0 k (([] : List (S72))) (wrap64 (40 + bt161.1)) s0_0 bt161.2.1 bt161.2.2)) else (spec_l21Bent.j1 k bt150.1 s0_0 bt155.2.1 bt155.2.2)))
set_option maxHeartbeats 8000000 in
set_option maxRecDepth 100000 in
theorem spec_l21Bent.calls (k : Nat) (g : Nat) (s0_0 : List Int) (s0_1 : Int) (s0_2 : Int) (r1 : List (S72)) (r2 : Int) (r3 : Int) (w0 w : World) (hI : IsS135 w0 w g s0_0 s0_1 s0_2) (hB : Below w0.heap.size w0 w) (h : spec_l21Bent.f k s0_0 s0_1 s0_2 = some (r1, r2, r3)) :
  Calls Try.prog 101 #[.pointer (some ⟨g, 0, none⟩)] w fun e w' => ∃ v0_ : Value, e = .returned (v0_) ∧ Kd.R k72 72 w' w.heap.size (fun _ => True) v0_ r1 ∧ IsS135 w0 w' g s0_0 r2 r3 ∧ Below w0.heap.size w0 w' ∧ KeepBut w w' g none := by
 have HI0 := ak_ hI
 have HK := ak_ (KeepBut.refl w g none)
 have HL := ak_ hB.size
 clear hI
 have HW0 := ak_ hB.size
 have HB := ak_ hB
 clear hB
 have H : ((spec_l21Draw.f k s0_0 s0_1 s0_2).bind fun bt150 => ((spec_l00Src_one.f s0_0 bt150.2.1 bt150.2.2 24).bind fun bt155 => (if bt155.1 = true then ((spec_l00Src_pick.f s0_0 bt155.2.1 bt155.2.2 2).bind fun bt161 => (spec_l21Bent.l0 k (([] : List (S72))) (wrap64 (40 + bt161.1)) s0_0 bt161.2.1 bt161.2.2)) else (spec_l21Bent.j1 k bt150.1 s0_0 bt155.2.1 bt155.2.2)))) = some (r1, r2, r3) := h
 clear h
 replace H := ob_ H
 obtain ⟨⟨t150, t153, t154⟩, A20, H⟩ := H
 replace H : ((spec_l00Src_one.f s0_0 t153 t154 24).bind fun bt155 => (if bt155.1 = true then ((spec_l00Src_pick.f s0_0 bt155.2.1 bt155.2.2 2).bind fun bt161 => (spec_l21Bent.l0 k (([] : List (S72))) (wrap64 (40 + bt161.1)) s0_0 bt161.2.1 bt161.2.2)) else (spec_l21Bent.j1 k t150 s0_0 bt155.2.1 bt155.2.2))) = some (r1, r2, r3) := H
 have A2 := ak_ A20
 clear A20
 replace H := ob_ H
 obtain ⟨⟨t155, t156, t157⟩, A30, H⟩ := H
 replace H : (if t155 = true then ((spec_l00Src_pick.f s0_0 t156 t157 2).bind fun bt161 => (spec_l21Bent.l0 k (([] : List (S72))) (wrap64 (40 + bt161.1)) s0_0 bt161.2.1 bt161.2.2)) else (spec_l21Bent.j1 k t150 s0_0 t156 t157)) = some (r1, r2, r3) := H
 have A3 := ak_ A30
 clear A30
 have HC4 := ak_ H
 clear H
 go_enter Try.func101, Try.ntmps101
 go_upto_if 10 with (first | ((with_reducible refine gate_callee (f := 124) rfl ?_); refine goesL_ (some 8) rfl rfl Try.func124 (by kernel_rfl) rfl #[.pointer (some ⟨g, 0, none⟩)] rfl ln_ ?_; (with_reducible refine (spec_l21Draw.calls k g s0_0 s0_1 s0_2 t150 t153 t154 w0 _ ?side1 ?side2 A2.out).mono ?_); (case side1 => exact isS135_a HI0); (case side2 => exact hz_ (IsS135.ge HI0.out)); rintro e w5 ⟨v151, rfl, ho0, hi, hb, hk⟩; refine ⟨_, rfl, ?_⟩; have n0_ := ak_ (Kd.R_lower ho0 (keep_size (w := w) (g := g) (row := none) kb_)); have n1_ := ak_ (KeepBut.trans kb_ hk (.inl rfl)); have n2_ := ak_ (hb); have n3_ := ak_ (hi); clear HK HB HI0; have HO152 := n0_; have HK := n1_; have HB := n2_; have HI0 := n3_; clear n0_ n1_ n2_ n3_; clear hb hk hi ho0) | ((with_reducible refine gate_callee (f := 103) rfl ?_); refine goesL_ (some 10) rfl rfl Try.func103 (by kernel_rfl) rfl #[.pointer (some ⟨g, 0, none⟩), .int .i64 24] rfl ln_ ?_; (with_reducible refine (spec_l00Src_one.calls g s0_0 t153 t154 24 t155 t156 t157 w0 _ ?side1 ?side2 A3.out).mono ?_); (case side1 => exact isS135_a HI0); (case side2 => exact hz_ (IsS135.ge HI0.out)); rintro e w6 ⟨rfl, hi, hb, hk⟩; refine ⟨_, rfl, ?_⟩; have n0_ := ak_ (Kd.R_mono (Kd.R_keep (IsS135.apart (show IsS135 w0 _ g s0_0 t153 t154 from isS135_a HI0) (kr_ HO152) (by decide)) hk (fun _ h => h.2)) (fun _ h => h.1)); have n1_ := ak_ (KeepBut.trans kb_ hk (.inl rfl)); have n2_ := ak_ (hb); have n3_ := ak_ (hi); clear HO152 HK HB HI0; have HO152 := n0_; have HK := n1_; have HB := n2_; have HI0 := n3_; clear n0_ n1_ n2_ n3_; clear hb hk hi))
 (try simp only [Act.put, List.setIfInBounds_toArray, List.set_cons_zero, List.set_cons_succ])
 go_cut [3] (fun v3 wc => ∃ (kq : Nat) (x3_3 : List (S72)) (x1001_3 : Int) (x1002_3 : Int), Aside0 (spec_l21Bent.j1 kq x3_3 s0_0 x1001_3 x1002_3 = some (r1, r2, r3)) ∧ Aside0 (kq ≤ k) ∧ Aside0 (Kd.R k72 72 wc w.heap.size (fun _ => True) v3 x3_3) ∧ Aside0 (IsS135 w0 wc g s0_0 x1001_3 x1002_3) ∧ Aside0 (KeepBut w wc g none) ∧ Aside0 (Below w0.heap.size w0 wc))
 case first =>
  have H := HC4.out
  clear HC4
  by_cases c7 : t155 = true
  ·subst c7
   have H1 : ((spec_l00Src_pick.f s0_0 t156 t157 2).bind fun bt161 => (spec_l21Bent.l0 k (([] : List (S72))) (wrap64 (40 + bt161.1)) s0_0 bt161.2.1 bt161.2.2)) = some (r1, r2, r3) := by rw [if_pos rfl] at H; exact H
   clear H
   have H := H1
   clear H1
   obtain ⟨y158, hy158⟩ : ∃ y_ : List (S72), y_ = (([] : List (S72))) := ⟨_, rfl⟩
   replace H : ((spec_l00Src_pick.f s0_0 t156 t157 2).bind fun bt161 => (spec_l21Bent.l0 k y158 (wrap64 (40 + bt161.1)) s0_0 bt161.2.1 bt161.2.2)) = some (r1, r2, r3) := by first | (rw [hy158]; with_reducible exact H) | (have H2_ := (Option.bind_some _ _).symm.trans H; rw [hy158]; with_reducible exact H2_) | (have H2_ := (Option.bind_some _ _).symm.trans H; with_reducible exact H2_) | with_reducible exact H | (rw [hy158]; exact H) | exact H
   have Ny158 := ak_ hy158
   clear hy158
   replace H := ob_ H
   obtain ⟨⟨t161, t162, t163⟩, A80, H⟩ := H
   replace H : (spec_l21Bent.l0 k y158 (wrap64 (40 + t161)) s0_0 t162 t163) = some (r1, r2, r3) := H
   have A8 := ak_ A80
   clear A80
   have H' := ak_ H
   clear H
   go_wp2_with (first | ((with_reducible refine gate_dst (N := 11) rfl ?_); refine Kd.R_lit k72 _ 72 ?hg (N := 11) ?hd (xs := ([] : List (S72))) (inner := []) (ok := fun _ => True) (okp := fun _ => True) ?hr ?hp (fun _ hk => hk) trivial (Below.refl _ _) (Nat.le_refl _) (by simp) ?_; (case hd => rfl); (case hg => rfl); (case hr => first | (go_simp; done) | (go_simp; rfl)); (case hp => exact (Reps.none _ _)); intro v159 w9 ho10 hb hg_ hnew_; clear hg_ hnew_; (first | rw [← Ny158.out] at ho10 | (simp only [Int.reduceToNat] at ho10; rw [← Ny158.out] at ho10)); have n0_ := ak_ (Kd.R_elder' (kr_ HO152) (Kd.R_base ho10) hb); have n1_ := ak_ (Kd.R_lower (Kd.R_new' ho10 (Kd.R_lt (kr_ HO152))) (keep_size (w := w) (g := g) (row := none) kb_)); have n2_ := ak_ (IsS135.below (isS135_a HI0) hb); have n3_ := ak_ (KeepBut.trans kb_ (KeepBut.of_below hb g none) (.inl rfl)); have n4_ := ak_ (below_step (hz_ (IsS135.ge HI0.out)) hb); clear HO152 HI0 HK HB; have HO152 := n0_; have HO160 := n1_; have HI0 := n2_; have HK := n3_; have HB := n4_; clear n0_ n1_ n2_ n3_ n4_; clear hb ho10) | ((with_reducible refine gate_callee (f := 104) rfl ?_); refine goesL_ (some 13) rfl rfl Try.func104 (by kernel_rfl) rfl #[.pointer (some ⟨g, 0, none⟩), .int .i64 2] rfl ln_ ?_; (with_reducible refine (spec_l00Src_pick.calls g s0_0 t156 t157 2 t161 t162 t163 w0 _ ?side1 ?side2 A8.out).mono ?_); (case side1 => exact isS135_a HI0); (case side2 => exact hz_ (IsS135.ge HI0.out)); rintro e w11 ⟨rfl, hi, hb, hk⟩; refine ⟨_, rfl, ?_⟩; have n0_ := ak_ (Kd.R_mono (Kd.R_keep (IsS135.apart (show IsS135 w0 _ g s0_0 t156 t157 from isS135_a HI0) (kr_ HO152) (by decide)) hk (fun _ h => h.2)) (fun _ h => h.1)); have n1_ := ak_ (Kd.R_mono (Kd.R_keep (IsS135.apart (show IsS135 w0 _ g s0_0 t156 t157 from isS135_a HI0) (kr_ HO160) (by decide)) hk (fun _ h => h.2)) (fun _ h => h.1)); have n2_ := ak_ (KeepBut.trans kb_ hk (.inl rfl)); have n3_ := ak_ (hb); have n4_ := ak_ (hi); clear HO152 HO160 HK HB HI0; have HO152 := n0_; have HO160 := n1_; have HK := n2_; have HB := n3_; have HI0 := n4_; clear n0_ n1_ n2_ n3_ n4_; clear hb hk hi))
   go_loopg [3, 4] k (fun kq v3 v4 w' => ∃ (x3_1 : List (S72)) (x4_1 : Int) (x1001_1 : Int) (x1002_1 : Int), v4 = .int .i64 x4_1 ∧ Aside0 (spec_l21Bent.l0 kq x3_1 x4_1 s0_0 x1001_1 x1002_1 = some (r1, r2, r3)) ∧ Aside0 (kq ≤ k) ∧ Aside0 (Kd.R k72 72 w' w.heap.size (fun _ => True) v3 x3_1) ∧ Aside0 (IsS135 w0 w' g s0_0 x1001_1 x1002_1) ∧ Aside0 (KeepBut w w' g none) ∧ Aside0 (Below w0.heap.size w0 w'))
   case atStart => exact ⟨(y158), (wrap64 (40 + t161)), (t162), (t163), fr_, H', ⟨Nat.le_refl _⟩, ⟨by (with_reducible repeat (first | apply Kd.R_alloc | apply Kd.R_drewN | apply Kd.R_drew)); exact Kd.R_mono HO160.out (fun _ hk => trivial)⟩, ⟨by repeat (first | (with_reducible first | exact HI0.out | apply IsS135.alloc | apply IsS135.drewN | apply IsS135.drew | apply IsS135.set_1 | apply IsS135.set_2) | exact HI0.out)⟩, ⟨kb_⟩, ⟨hz_ (IsS135.ge HI0.out)⟩⟩
   case round =>
    clear H'
    try clear c1
    try clear p2
    try clear p6
    try clear c7
    try clear c10
    obtain ⟨x3_1, x4_1, x1001_1, x1002_1, rfl, HA, HK1, HO_3, HI0, HK, HB⟩ := hrel
    cases gk with
    | zero => exact absurd HA.out (by simp [spec_l21Bent.l0])
    | succ k1 =>
     have H := HA.out
     clear HA
     simp only [spec_l21Bent.l0] at H
     by_cases c12 : x4_1 > 0
     ·rw [if_pos c12] at H
      have c12b0 : decide (0 < x4_1) = true := dt_ c12
      clear c12
      (first | rw [c12b0] | (simp only [i64_w, i32_w]; rw [c12b0]) | skip)
      obtain ⟨y164, hy164⟩ : ∃ y_ : List Int, y_ = (([97 + ((((x3_1.length : Int)) % 256) / 26), 97 + ((((x3_1.length : Int)) % 256) % 26)] : List Int)) := ⟨_, rfl⟩
      replace H : ((spec_l21New.f s0_0 x1001_1 x1002_1 (strOfNums y164)).bind fun bt167 => (if x3_1.length < 3518437208883 then (spec_l21Bent.l0 k1 (x3_1 ++ [(⟨bt167.1, bt167.2.1, bt167.2.2.1, bt167.2.2.2.1⟩ : S72)]) (wrap64 (x4_1 - 1)) s0_0 bt167.2.2.2.2.1 bt167.2.2.2.2.2) else (none))) = some (r1, r2, r3) := by first | (rw [hy164]; with_reducible exact H) | (have H2_ := (Option.bind_some _ _).symm.trans H; rw [hy164]; with_reducible exact H2_) | (have H2_ := (Option.bind_some _ _).symm.trans H; with_reducible exact H2_) | with_reducible exact H | (rw [hy164]; exact H) | exact H
      have Ny164 := ak_ hy164
      clear hy164
      replace H := ob_ H
      obtain ⟨⟨t167, t168, t169, t170, t171, t172⟩, A130, H⟩ := H
      replace H : (if x3_1.length < 3518437208883 then (spec_l21Bent.l0 k1 (x3_1 ++ [(⟨t167, t168, t169, t170⟩ : S72)]) (wrap64 (x4_1 - 1)) s0_0 t171 t172) else (none)) = some (r1, r2, r3) := H
      have A13 := ak_ A130
      clear A130
      by_cases c14 : x3_1.length < 3518437208883
      ·rw [if_pos c14] at H
       have LMc14 := ak_ c14
       clear c14
       obtain ⟨y173, hy173⟩ : ∃ y_ : List (S72), y_ = (x3_1 ++ [(⟨t167, t168, t169, t170⟩ : S72)]) := ⟨_, rfl⟩
       replace H : (spec_l21Bent.l0 k1 y173 (wrap64 (x4_1 - 1)) s0_0 t171 t172) = some (r1, r2, r3) := by first | (rw [hy173]; with_reducible exact H) | (have H2_ := (Option.bind_some _ _).symm.trans H; rw [hy173]; with_reducible exact H2_) | (have H2_ := (Option.bind_some _ _).symm.trans H; with_reducible exact H2_) | with_reducible exact H | (rw [hy173]; exact H) | exact H
       have Ny173 := ak_ hy173
       clear hy173
       have H' := ak_ H
       clear H
       obtain ⟨Ao15, co15, eo15⟩ := Kd.R_slice HO_3.out
       subst eo15
       go_wp2_with (first | ((with_reducible refine gate_dst (N := 30) rfl ?_); refine Kd.R_lit (Kd.int .u8) _ 5 ?hg (N := 30) ?hd (xs := ([97 + ((((x3_1.length : Int)) % 256) / 26), 97 + ((((x3_1.length : Int)) % 256) % 26)] : List Int)) (inner := [.int .u8 (97 + ((((x3_1.length : Int)) % 256) / 26)), .int .u8 (97 + ((((x3_1.length : Int)) % 256) % 26))]) (ok := fun _ => True) (okp := fun _ => True) ?hr ?hp (fun _ hk => hk) trivial (Below.refl _ _) (Nat.le_refl _) (by simp) ?_; (case hd => rfl); (case hg => rfl); (case hr => first | (go_simp; done) | (go_simp; rfl)); (case hp => exact (Reps.one (show Kd.M (Kd.int .u8) _ _ _ (97 + ((((x3_1.length : Int)) % 256) / 26)) [.int .u8 (97 + ((((x3_1.length : Int)) % 256) / 26))] from rfl) (Reps.one (show Kd.M (Kd.int .u8) _ _ _ (97 + ((((x3_1.length : Int)) % 256) % 26)) [.int .u8 (97 + ((((x3_1.length : Int)) % 256) % 26))] from rfl) (Reps.none _ _)))); intro v165 w16 ho17 hb hg_ hnew_; clear hg_ hnew_; (first | rw [← Ny164.out] at ho17 | (simp only [Int.reduceToNat] at ho17; rw [← Ny164.out] at ho17)); have n0_ := ak_ (Kd.R_below (kr_ HO_3) hb); have n1_ := ak_ (Kd.R_lower ho17 (keep_size (w := w) (g := g) (row := none) kb_)); have n2_ := ak_ (IsS135.below (isS135_a HI0) hb); have n3_ := ak_ (KeepBut.trans kb_ (KeepBut.of_below hb g none) (.inl rfl)); have n4_ := ak_ (below_step (hz_ (IsS135.ge HI0.out)) hb); clear HO_3 HI0 HK HB; have HO_3 := n0_; have HO166 := n1_; have HI0 := n2_; have HK := n3_; have HB := n4_; clear n0_ n1_ n2_ n3_ n4_; clear hb ho17; have hcv18 := own_string (P := Try.prog) Try.underlying22 Try.underlying5 Try.underlying9 (Kd.own_of_R HO166.out)) | ((with_reducible refine gate_callee (f := 125) rfl ?_); refine goesL_ (some 32) rfl rfl Try.func125 (by kernel_rfl) rfl #[.pointer (some ⟨g, 0, none⟩), .string (strOfNums y164)] rfl ln_ ?_; (with_reducible refine (spec_l21New.calls g s0_0 x1001_1 x1002_1 (strOfNums y164) t167 t168 t169 t170 t171 t172 w0 _ ?side1 ?side2 A13.out).mono ?_); (case side1 => exact isS135_a HI0); (case side2 => exact hz_ (IsS135.ge HI0.out)); rintro e w19 ⟨rfl, hi, hb, hk⟩; refine ⟨_, rfl, ?_⟩; have n0_ := ak_ (Kd.R_mono (Kd.R_keep (IsS135.apart (show IsS135 w0 _ g s0_0 x1001_1 x1002_1 from isS135_a HI0) (kr_ HO_3) (by decide)) hk (fun _ h => h.2)) (fun _ h => h.1)); have n1_ := ak_ (Kd.R_mono (Kd.R_keep (IsS135.apart (show IsS135 w0 _ g s0_0 x1001_1 x1002_1 from isS135_a HI0) (kr_ HO166) (by decide)) hk (fun _ h => h.2)) (fun _ h => h.1)); have n2_ := ak_ (KeepBut.trans kb_ hk (.inl rfl)); have n3_ := ak_ (hb); have n4_ := ak_ (hi); clear HO_3 HO166 HK HB HI0; have HO_3 := n0_; have HO166 := n1_; have HK := n2_; have HB := n3_; have HI0 := n4_; clear n0_ n1_ n2_ n3_ n4_; clear hb hk hi) | ((with_reducible refine gate_builtin (b := .append) (xs := #[.tmp 22, .tmp 33]) rfl ?_); at_builtin; refine Kd.R_append k72 w.heap.size rfl (.tmp 22) (.tmp 33) 53 72 (.agg #[(.string ⟨#[]⟩), (.int .i64 0), (.int .i64 0), (.int .i64 0)]) 40 rfl Try.underlying53 info72 rfl (by decide) (by omega) (.slice Ao15 x3_1.length co15) x3_1 (⟨t167, t168, t169, t170⟩ : S72) [.string t167, .int .i64 t168, .int .i64 t169, .int .i64 t170] (fun _ => True) (fun _ => False) rfl rfl ?aP (fun _ hk => hk.elim) ?aF ?aO (Below.refl _ _) ?aS ?aL ?_; (case aP => exact k72_mkM _ _ _ (⟨t167, t168, t169, t170⟩ : S72)); (case aF => exact (fun _ _ => trivial)); (case aO => exact (kr_ HO_3)); (case aS => exact (keep_size (w := w) (g := g) (row := none) kb_)); (case aL => have := LMc14.out; omega); intro v174 w20 ho hb hg hat; rw [← Ny173.out] at ho; have n0_ := ak_ (IsS135.grown (isS135_a HI0) hg (IsS135.own_ne HI0.out HO_3.out (by decide))); have n1_ := ak_ (Kd.R_over' (kr_ HO166) (Kd.R_typed (kr_ HO_3)) (by decide) hg); have n2_ := ak_ (below_weaken (hz_ (IsS135.ge HI0.out)) HL.out hb); have n3_ := ak_ (KeepBut.trans kb_ (KeepBut.of_grown hg g) (Kd.R_base2 HO_3.out)); have n4_ := ak_ (ho); clear HI0 HO166 HB HK HO_3; have HI0 := n0_; have HO166 := n1_; have HB := n2_; have HK := n3_; have HO175 := n4_; clear n0_ n1_ n2_ n3_ n4_; clear ho hb hg hat))
       go_roundg k1
       case measure => have := HK1.out; omega
       case rel => exact ⟨(y173), (wrap64 (x4_1 - 1)), (t171), (t172), fr_, H', ⟨by have := HK1.out; omega⟩, ⟨kr_ HO175⟩, ⟨by repeat (first | (with_reducible first | exact HI0.out | apply IsS135.alloc | apply IsS135.drewN | apply IsS135.drew | apply IsS135.set_1 | apply IsS135.set_2) | exact HI0.out)⟩, ⟨kb_⟩, ⟨hz_ (IsS135.ge HI0.out)⟩⟩
      ·rw [if_neg c14] at H
       exact absurd H (by simp)
     ·rw [if_neg c12] at H
      have c12b0 : decide (0 < x4_1) = false := decide_eq_false c12
      clear c12
      (first | rw [c12b0] | (simp only [i64_w, i32_w]; rw [c12b0]) | skip)
      have H' := ak_ H
      clear H
      go_wp2
      go_meet
      case rel => exact ⟨_, (x3_1), (x1001_1), (x1002_1), H', ⟨by have := HK1.out; first | omega | exact Nat.le_refl _⟩, ⟨kr_ HO_3⟩, ⟨by repeat (first | (with_reducible first | exact HI0.out | apply IsS135.alloc | apply IsS135.drewN | apply IsS135.drew | apply IsS135.set_1 | apply IsS135.set_2) | exact HI0.out)⟩, ⟨kb_⟩, ⟨hz_ (IsS135.ge HI0.out)⟩⟩
  ·replace c7 := Bool.eq_false_iff.mpr c7
   subst c7
   have H1 : (spec_l21Bent.j1 k t150 s0_0 t156 t157) = some (r1, r2, r3) := by rw [if_neg (show ¬ (false = true) by decide)] at H; exact H
   clear H
   have H := H1
   clear H1
   have H' := ak_ H
   clear H
   go_wp2
   go_meet
   case rel => exact ⟨_, (t150), (t156), (t157), H', ⟨by first | omega | exact Nat.le_refl _⟩, ⟨kr_ HO152⟩, ⟨by repeat (first | (with_reducible first | exact HI0.out | apply IsS135.alloc | apply IsS135.drewN | apply IsS135.drew | apply IsS135.set_1 | apply IsS135.set_2) | exact HI0.out)⟩, ⟨kb_⟩, ⟨hz_ (IsS135.ge HI0.out)⟩⟩
 case rest =>
  clear HC4
  try clear c1
  try clear hcv1
  try clear p2
  try clear p6
  try clear c7
  try clear c10
  try clear c12
  try clear c12b0
  try clear c14
  try clear hcv18
  try clear p2
  try clear p6
  obtain ⟨kq, x3_3, x1001_3, x1002_3, HA, HJ3, HO_3, HI0, HK, HB⟩ := hcut
  cases kq with
  | zero => exact absurd HA.out (by simp [spec_l21Bent.j1])
  | succ kj3 =>
   have H := HA.out
   clear HA
   simp only [spec_l21Bent.j1] at H
   by_cases c21 : (x3_3.length : Int) = 0
   ·rw [if_pos c21] at H
    have c21b0 : ((x3_3.length : Int) == 0) = true := beq_iff_eq.mpr c21
    have c21b1 : ((x3_3.length : Int) != 0) = false := bne_eq_false_iff_eq.mpr c21
    clear c21
    simp only [Option.some.injEq, Prod.mk.injEq] at H
    obtain ⟨rfl, rfl, rfl⟩ := H
    obtain ⟨Ao22, co22, eo22⟩ := Kd.R_slice HO_3.out
    subst eo22
    go_wp2
    go_ret
    exact ⟨_, ew_, by (with_reducible repeat (first | apply Kd.R_alloc | apply Kd.R_drewN | apply Kd.R_drew)); exact HO_3.out, isS135_a HI0, hz_ (IsS135.ge HI0.out), kb_⟩
   ·rw [if_neg c21] at H
    have c21b0 : ((x3_3.length : Int) == 0) = false := beq_eq_false_iff_ne.mpr c21
    have c21b1 : ((x3_3.length : Int) != 0) = true := bne_iff_ne.mpr c21
    have c21b2 : ¬ (x3_3 = []) := fun h_ => c21 (by rw [h_]; rfl)
    replace H := ob_ H
    obtain ⟨⟨t176, t177, t178⟩, A230, H⟩ := H
    replace H : (if 0 ≤ t176 then (if t176 < (x3_3.length : Int) then ((spec_l00Src_pick.f s0_0 t177 t178 24).bind fun bt179 => (if bt179.1 = 0 then ((spec_l00Src_text.f s0_0 bt179.2.1 bt179.2.2 (([(⟨#[]⟩ : ByteArray), (⟨#[66, 111, 108, 116]⟩ : ByteArray), (⟨#[98, 97, 99, 107, 115, 116, 97, 121]⟩ : ByteArray)] : List ByteArray))).bind fun bt185 => (some ((x3_3.set (t176 : Int).toNat (⟨bt185.1, (rd_T72 x3_3 t176).f1, (rd_T72 x3_3 t176).f2, (rd_T72 x3_3 t176).f3⟩ : S72)), bt185.2.1, bt185.2.2))) else (if bt179.1 = 1 then ((spec_l00Src_among.f s0_0 bt179.2.1 bt179.2.2 (([(-1), 0, 20000, 20001, (-9223372036854775808)] : List Int))).bind fun bt192 => (some ((x3_3.set (t176 : Int).toNat (⟨(rd_T72 x3_3 t176).f0, bt192.1, (rd_T72 x3_3 t176).f2, (rd_T72 x3_3 t176).f3⟩ : S72)), bt192.2.1, bt192.2.2))) else (if bt179.1 = 2 then ((spec_l00Src_among.f s0_0 bt179.2.1 bt179.2.2 (([(-1), 0, 1000, 1001] : List Int))).bind fun bt199 => (some ((x3_3.set (t176 : Int).toNat (⟨(rd_T72 x3_3 t176).f0, (rd_T72 x3_3 t176).f1, bt199.1, (rd_T72 x3_3 t176).f3⟩ : S72)), bt199.2.1, bt199.2.2))) else (if bt179.1 = 3 then ((spec_l00Src_among.f s0_0 bt179.2.1 bt179.2.2 (([0, 1, 1000000, 1000001] : List Int))).bind fun bt206 => (some ((x3_3.set (t176 : Int).toNat (⟨(rd_T72 x3_3 t176).f0, (rd_T72 x3_3 t176).f1, (rd_T72 x3_3 t176).f2, bt206.1⟩ : S72)), bt206.2.1, bt206.2.2))) else (some (x3_3, bt179.2.1, bt179.2.2))))))) else (none)) else (none)) = some (r1, r2, r3) := H
    have A23 := ak_ A230
    clear A230
    by_cases c24 : 0 ≤ t176
    ·rw [if_pos c24] at H
     have c24b0 : decide (0 ≤ t176) = true := dt_ c24
     clear c24
     by_cases c25 : t176 < (x3_3.length : Int)
     ·rw [if_pos c25] at H
      have c25b0 : decide (t176 < (x3_3.length : Int)) = true := dt_ c25
      clear c25
      replace H := ob_ H
      obtain ⟨⟨t179, t180, t181⟩, A270, H⟩ := H
      replace H : (if t179 = 0 then ((spec_l00Src_text.f s0_0 t180 t181 (([(⟨#[]⟩ : ByteArray), (⟨#[66, 111, 108, 116]⟩ : ByteArray), (⟨#[98, 97, 99, 107, 115, 116, 97, 121]⟩ : ByteArray)] : List ByteArray))).bind fun bt185 => (some ((x3_3.set (t176 : Int).toNat (⟨bt185.1, (rd_T72 x3_3 t176).f1, (rd_T72 x3_3 t176).f2, (rd_T72 x3_3 t176).f3⟩ : S72)), bt185.2.1, bt185.2.2))) else (if t179 = 1 then ((spec_l00Src_among.f s0_0 t180 t181 (([(-1), 0, 20000, 20001, (-9223372036854775808)] : List Int))).bind fun bt192 => (some ((x3_3.set (t176 : Int).toNat (⟨(rd_T72 x3_3 t176).f0, bt192.1, (rd_T72 x3_3 t176).f2, (rd_T72 x3_3 t176).f3⟩ : S72)), bt192.2.1, bt192.2.2))) else (if t179 = 2 then ((spec_l00Src_among.f s0_0 t180 t181 (([(-1), 0, 1000, 1001] : List Int))).bind fun bt199 => (some ((x3_3.set (t176 : Int).toNat (⟨(rd_T72 x3_3 t176).f0, (rd_T72 x3_3 t176).f1, bt199.1, (rd_T72 x3_3 t176).f3⟩ : S72)), bt199.2.1, bt199.2.2))) else (if t179 = 3 then ((spec_l00Src_among.f s0_0 t180 t181 (([0, 1, 1000000, 1000001] : List Int))).bind fun bt206 => (some ((x3_3.set (t176 : Int).toNat (⟨(rd_T72 x3_3 t176).f0, (rd_T72 x3_3 t176).f1, (rd_T72 x3_3 t176).f2, bt206.1⟩ : S72)), bt206.2.1, bt206.2.2))) else (some (x3_3, t180, t181)))))) = some (r1, r2, r3) := H
      have A27 := ak_ A270
      clear A270
      by_cases c28 : t179 = 0
      ·rw [if_pos c28] at H
       have c28b0 : (t179 == 0) = true := beq_iff_eq.mpr c28
       have c28b1 : (t179 != 0) = false := bne_eq_false_iff_eq.mpr c28
       clear c28
       obtain ⟨y182, hy182⟩ : ∃ y_ : List ByteArray, y_ = (([(⟨#[]⟩ : ByteArray), (⟨#[66, 111, 108, 116]⟩ : ByteArray), (⟨#[98, 97, 99, 107, 115, 116, 97, 121]⟩ : ByteArray)] : List ByteArray)) := ⟨_, rfl⟩
       replace H : ((spec_l00Src_text.f s0_0 t180 t181 y182).bind fun bt185 => (some ((x3_3.set (t176 : Int).toNat (⟨bt185.1, (rd_T72 x3_3 t176).f1, (rd_T72 x3_3 t176).f2, (rd_T72 x3_3 t176).f3⟩ : S72)), bt185.2.1, bt185.2.2))) = some (r1, r2, r3) := by first | (rw [hy182]; with_reducible exact H) | (have H2_ := (Option.bind_some _ _).symm.trans H; rw [hy182]; with_reducible exact H2_) | (have H2_ := (Option.bind_some _ _).symm.trans H; with_reducible exact H2_) | with_reducible exact H | (rw [hy182]; exact H) | exact H
       have Ny182 := ak_ hy182
       clear hy182
       replace H := ob_ H
       obtain ⟨⟨t185, t186, t187⟩, A290, H⟩ := H
       replace H : (some ((x3_3.set (t176 : Int).toNat (⟨t185, (rd_T72 x3_3 t176).f1, (rd_T72 x3_3 t176).f2, (rd_T72 x3_3 t176).f3⟩ : S72)), t186, t187)) = some (r1, r2, r3) := H
       have A29 := ak_ A290
       clear A290
       obtain ⟨y188, hy188⟩ : ∃ y_ : List (S72), y_ = (x3_3.set (t176 : Int).toNat (⟨t185, (rd_T72 x3_3 t176).f1, (rd_T72 x3_3 t176).f2, (rd_T72 x3_3 t176).f3⟩ : S72)) := ⟨_, rfl⟩
       replace H : (some (y188, t186, t187)) = some (r1, r2, r3) := by first | (rw [hy188]; with_reducible exact H) | (have H2_ := (Option.bind_some _ _).symm.trans H; rw [hy188]; with_reducible exact H2_) | (have H2_ := (Option.bind_some _ _).symm.trans H; with_reducible exact H2_) | with_reducible exact H | (rw [hy188]; exact H) | exact H
       have Ny188 := ak_ hy188
       clear hy188
       simp only [Option.some.injEq, Prod.mk.injEq] at H
       obtain ⟨rfl, rfl, rfl⟩ := H
       obtain ⟨Ao30, co30, eo30⟩ := Kd.R_slice HO_3.out
       subst eo30
       go_wp2_with (first | ((with_reducible refine gate_callee (f := 104) rfl ?_); refine goesL_ (some 43) rfl rfl Try.func104 (by kernel_rfl) rfl #[.pointer (some ⟨g, 0, none⟩), .int .i64 (x3_3.length : Int)] rfl ln_ ?_; (with_reducible refine (spec_l00Src_pick.calls g s0_0 x1001_3 x1002_3 (x3_3.length : Int) t176 t177 t178 w0 _ ?side1 ?side2 A23.out).mono ?_); (case side1 => exact isS135_a HI0); (case side2 => exact hz_ (IsS135.ge HI0.out)); rintro e w31 ⟨rfl, hi, hb, hk⟩; refine ⟨_, rfl, ?_⟩; have n0_ := ak_ (Kd.R_mono (Kd.R_keep (IsS135.apart (show IsS135 w0 _ g s0_0 x1001_3 x1002_3 from isS135_a HI0) (kr_ HO_3) (by decide)) hk (fun _ h => h.2)) (fun _ h => h.1)); have n1_ := ak_ (KeepBut.trans kb_ hk (.inl rfl)); have n2_ := ak_ (hb); have n3_ := ak_ (hi); clear HO_3 HK HB HI0; have HO_3 := n0_; have HK := n1_; have HB := n2_; have HI0 := n3_; clear n0_ n1_ n2_ n3_; (try clear hb); (try clear hb2); (try clear hk); (try clear hi); have p26 : 0 ≤ (t176 : Int) := od_; have q26 : (t176 : Int) < ((x3_3.length : Int) : Int) := od_; obtain ⟨go26, co26, eo26, gb26, gl26, cl26, HG26⟩ := Kd.R_form HO_3.out (by omega); (first | cases eo26 | (injection eo26 with ea_ en_ ec_; (first | subst ea_ | (injection ea_ with ea_; subst ea_)); subst ec_; clear en_)); have GB26 := ak_ gb26; have GG26 := ak_ HG26; clear gb26 gl26 HG26; obtain ⟨ce26, hcl26, hM26, hcc26, hfr26⟩ := Kd.R_elem HO_3.out z72 (t176 : Int) p26 q26; obtain rfl := k72_openM hM26; have hx26_0 : w31.cell? ⟨go26, (t176 : Int).toNat * 4, none⟩ = some (.string ((rd_T72 x3_3 t176).f0)) := hcc26 0 _ rfl; have hx26_1 : w31.cell? ⟨go26, (t176 : Int).toNat * 4 + 1, none⟩ = some (.int .i64 ((rd_T72 x3_3 t176).f1)) := hcc26 1 _ rfl; have hx26_2 : w31.cell? ⟨go26, (t176 : Int).toNat * 4 + 2, none⟩ = some (.int .i64 ((rd_T72 x3_3 t176).f2)) := hcc26 2 _ rfl; have hx26_3 : w31.cell? ⟨go26, (t176 : Int).toNat * 4 + 3, none⟩ = some (.int .i64 ((rd_T72 x3_3 t176).f3)) := hcc26 3 _ rfl; have hf26_0 : w31.frozen? ⟨go26, (t176 : Int).toNat * 4, none⟩ = false := hfr26 0; have hf26_1 : w31.frozen? ⟨go26, (t176 : Int).toNat * 4 + 1, none⟩ = false := hfr26 1; have hf26_2 : w31.frozen? ⟨go26, (t176 : Int).toNat * 4 + 2, none⟩ = false := hfr26 2; have hf26_3 : w31.frozen? ⟨go26, (t176 : Int).toNat * 4 + 3, none⟩ = false := hfr26 3; (try clear hcl26); (try clear hcc26); (try clear hfr26); (try clear hM26); replace p26 := eq_true p26; replace q26 := eq_true q26) | ((with_reducible refine gate_callee (f := 104) rfl ?_); refine goesL_ (some 46) rfl rfl Try.func104 (by kernel_rfl) rfl #[.pointer (some ⟨g, 0, none⟩), .int .i64 24] rfl ln_ ?_; (with_reducible refine (spec_l00Src_pick.calls g s0_0 t177 t178 24 t179 t180 t181 w0 _ ?side1 ?side2 A27.out).mono ?_); (case side1 => exact isS135_a HI0); (case side2 => exact hz_ (IsS135.ge HI0.out)); rintro e w32 ⟨rfl, hi, hb, hk⟩; refine ⟨_, rfl, ?_⟩; have n0_ := ak_ (Kd.R_mono (Kd.R_keep (IsS135.apart (show IsS135 w0 _ g s0_0 t177 t178 from isS135_a HI0) (kr_ HO_3) (by decide)) hk (fun _ h => h.2)) (fun _ h => h.1)); have n1_ := ak_ (KeepBut.trans kb_ hk (.inl rfl)); have n2_ := ak_ (hb); have n3_ := ak_ (hi); clear HO_3 HK HB HI0; have HO_3 := n0_; have HK := n1_; have HB := n2_; have HI0 := n3_; clear n0_ n1_ n2_ n3_; clear hb hk hi) | ((with_reducible refine gate_dst (N := 51) rfl ?_); refine Kd.R_lit Kd.string _ 9 ?hg (N := 51) ?hd (xs := ([(⟨#[]⟩ : ByteArray), (⟨#[66, 111, 108, 116]⟩ : ByteArray), (⟨#[98, 97, 99, 107, 115, 116, 97, 121]⟩ : ByteArray)] : List ByteArray)) (inner := [.string (⟨#[]⟩ : ByteArray), .string (⟨#[66, 111, 108, 116]⟩ : ByteArray), .string (⟨#[98, 97, 99, 107, 115, 116, 97, 121]⟩ : ByteArray)]) (ok := fun _ => True) (okp := fun _ => True) ?hr ?hp (fun _ hk => hk) trivial (Below.refl _ _) (Nat.le_refl _) (by simp) ?_; (case hd => rfl); (case hg => rfl); (case hr => first | (go_simp; done) | (go_simp; rfl)); (case hp => exact (Reps.one (show Kd.M Kd.string _ _ _ (⟨#[]⟩ : ByteArray) [.string (⟨#[]⟩ : ByteArray)] from rfl) (Reps.one (show Kd.M Kd.string _ _ _ (⟨#[66, 111, 108, 116]⟩ : ByteArray) [.string (⟨#[66, 111, 108, 116]⟩ : ByteArray)] from rfl) (Reps.one (show Kd.M Kd.string _ _ _ (⟨#[98, 97, 99, 107, 115, 116, 97, 121]⟩ : ByteArray) [.string (⟨#[98, 97, 99, 107, 115, 116, 97, 121]⟩ : ByteArray)] from rfl) (Reps.none _ _))))); intro v183 w33 ho34 hb hg_ hnew_; clear hg_ hnew_; (first | rw [← Ny182.out] at ho34 | (simp only [Int.reduceToNat] at ho34; rw [← Ny182.out] at ho34)); have n0_ := ak_ (Kd.R_below (kr_ HO_3) hb); have n1_ := ak_ (Kd.R_lower ho34 (keep_size (w := w) (g := g) (row := none) kb_)); have n2_ := ak_ (IsS135.below (isS135_a HI0) hb); have n3_ := ak_ (KeepBut.trans kb_ (KeepBut.of_below hb g none) (.inl rfl)); have n4_ := ak_ (below_step (hz_ (IsS135.ge HI0.out)) hb); clear HO_3 HI0 HK HB; have HO_3 := n0_; have HO184 := n1_; have HI0 := n2_; have HK := n3_; have HB := n4_; clear n0_ n1_ n2_ n3_ n4_; clear hb ho34; obtain ⟨Ao35, co35, eo35⟩ := Kd.R_slice HO184.out; subst eo35) | ((with_reducible refine gate_callee (f := 105) rfl ?_); refine goesL_ (some 52) rfl rfl Try.func105 (by kernel_rfl) rfl #[.pointer (some ⟨g, 0, none⟩), .slice Ao35 y182.length co35] rfl ln_ ?_; (with_reducible refine (spec_l00Src_text.calls g s0_0 t180 t181 _ _ y182 t185 t186 t187 w0 _ ?side1 ?side2 ?side3 ?side4 ?side5 A29.out).mono ?_); (case side1 => exact isS135_a HI0); (case side2 => exact hz_ (IsS135.ge HI0.out)); (case side3 => repeat (first | exact (Kd.R_reads' HO184.out).2.2 | (with_reducible refine Kd.C_alloc ?_ _) | (with_reducible refine Kd.C_drewN ?_ _) | (with_reducible refine Kd.C_drew ?_))); (case side4 => exact (Kd.R_reads' HO184.out).2.1); (case side5 => exact far_slice (IsS135.own_ne HI0.out HO184.out (by decide))); rintro e w36 ⟨rfl, hi, hb, hk⟩; refine ⟨_, rfl, ?_⟩; have n0_ := ak_ (Kd.R_mono (Kd.R_keep (IsS135.apart (show IsS135 w0 _ g s0_0 t180 t181 from isS135_a HI0) (kr_ HO_3) (by decide)) hk (fun _ h => h.2)) (fun _ h => h.1)); have n1_ := ak_ (Kd.R_mono (Kd.R_keep (IsS135.apart (show IsS135 w0 _ g s0_0 t180 t181 from isS135_a HI0) (kr_ HO184) (by decide)) hk (fun _ h => h.2)) (fun _ h => h.1)); have n2_ := ak_ (KeepBut.trans kb_ hk (.inl rfl)); have n3_ := ak_ (hb); have n4_ := ak_ (hi); clear HO_3 HO184 HK HB HI0; have HO_3 := n0_; have HO184 := n1_; have HK := n2_; have HB := n3_; have HI0 := n4_; clear n0_ n1_ n2_ n3_ n4_; (try clear hb); (try clear hb2); (try clear hk); (try clear hi); have HX37 := ak_ (show Kd.R k72 72 w36 w.heap.size (fun _ => True) (.slice (some ⟨go26, 0, none⟩) x3_3.length co30) x3_3 from (kr_ HO_3)); obtain ⟨ce37, hcl37, hM37, hcc37, hfr37⟩ := Kd.R_elem HX37.out z72 (t176 : Int) (od_) (by have h_ : (t176 : Int) < ((x3_3.length : Int) : Int) := od_; first | exact h_ | (have e_ := (Kd.R_reads' HO_3.out).1; omega) | simpa using h_); obtain rfl := k72_openM hM37; have HP37 := Kd.R_seg HX37.out (t176 : Int) (od_) (by have h_ : (t176 : Int) < ((x3_3.length : Int) : Int) := od_; first | exact h_ | (have e_ := (Kd.R_reads' HO_3.out).1; omega) | simpa using h_) (seg := [.string t185]) (j := 0) hcl37 hcc37 (show 1 ≤ 4 from by decide) (x' := (⟨t185, (rd_T72 x3_3 t176).f1, (rd_T72 x3_3 t176).f2, (rd_T72 x3_3 t176).f3⟩ : S72)) (k72_mkM _ _ _ (⟨t185, (rd_T72 x3_3 t176).f1, (rd_T72 x3_3 t176).f2, (rd_T72 x3_3 t176).f3⟩ : S72) ) (fun _ hk => hk); have hx37_0 := hcc37 0 _ rfl; (try simp only [show (k72).sz = 4 from rfl, Nat.mul_one, Nat.add_zero] at hx37_0); have hf37_0 := hfr37 0; (try simp only [show (k72).sz = 4 from rfl, Nat.mul_one, Nat.add_zero] at hf37_0); (try clear hcl37); (try clear hcc37); (try clear hfr37); (try clear hM37)) | ((with_reducible refine gate_store (t := 9) (p := 54) rfl ?_); refine store_event (t := 9) (p := 54) (v := ?vo_w38) (w1 := (w36.setCell ⟨go26, (t176 : Int).toNat * 4, none⟩ (.string t185))) ?hg ?ho ?hn ?hr ?_; (case ho => rfl); (case hg => rfl); (case hn => rfl); (case hr => first | (go_simp; done) | (go_simp; rfl)); intro w38 hw; have hg : w36.grownBy w38 (some go26) := (by rw [hw]; exact HP37.2); have hp_ : Kd.R k72 72 w38 w.heap.size (fun _ => True) (.slice (some ⟨go26, 0, none⟩) x3_3.length co30) y188 := (by rw [hw, Ny188.out]; exact HP37.1); clear HP37; have n0_ := ak_ (hp_); have n1_ := ak_ (IsS135.grown (isS135_a HI0) hg (IsS135.own_ne HI0.out HO_3.out (by decide))); have n2_ := ak_ (Kd.R_over' (v := (.slice (some ⟨go26, 0, none⟩) x3_3.length co30)) (kr_ HO184) (Kd.R_typed HO_3.out) (by decide) hg); have n3_ := ak_ ((by rw [hw]; exact below_set (HB.out) (Nat.le_trans HL.out GB26.out) : Below w0.heap.size w0 w38)); have n4_ := ak_ (KeepBut.trans kb_ (KeepBut.of_grown hg g) (Kd.R_base2 HO_3.out)); clear HO_3 HI0 HO184 HB HK; have HO_3 := n0_; have HI0 := n1_; have HO184 := n2_; have HB := n3_; have HK := n4_; clear n0_ n1_ n2_ n3_ n4_; clear hg hw hp_))
       go_ret
       exact ⟨_, ew_, by (with_reducible repeat (first | apply Kd.R_alloc | apply Kd.R_drewN | apply Kd.R_drew)); exact HO_3.out, isS135_a HI0, hz_ (IsS135.ge HI0.out), kb_⟩
      ·rw [if_neg c28] at H
       have c28b0 : (t179 == 0) = false := beq_eq_false_iff_ne.mpr c28
       have c28b1 : (t179 != 0) = true := bne_iff_ne.mpr c28
       by_cases c39 : t179 = 1
       ·rw [if_pos c39] at H
        have c39b0 : (t179 == 1) = true := beq_iff_eq.mpr c39
        have c39b1 : (t179 != 1) = false := bne_eq_false_iff_eq.mpr c39
        clear c39
        obtain ⟨y189, hy189⟩ : ∃ y_ : List Int, y_ = (([(-1), 0, 20000, 20001, (-9223372036854775808)] : List Int)) := ⟨_, rfl⟩
        replace H : ((spec_l00Src_among.f s0_0 t180 t181 y189).bind fun bt192 => (some ((x3_3.set (t176 : Int).toNat (⟨(rd_T72 x3_3 t176).f0, bt192.1, (rd_T72 x3_3 t176).f2, (rd_T72 x3_3 t176).f3⟩ : S72)), bt192.2.1, bt192.2.2))) = some (r1, r2, r3) := by first | (rw [hy189]; with_reducible exact H) | (have H2_ := (Option.bind_some _ _).symm.trans H; rw [hy189]; with_reducible exact H2_) | (have H2_ := (Option.bind_some _ _).symm.trans H; with_reducible exact H2_) | with_reducible exact H | (rw [hy189]; exact H) | exact H
        have Ny189 := ak_ hy189
        clear hy189
        replace H := ob_ H
        obtain ⟨⟨t192, t193, t194⟩, A400, H⟩ := H
        replace H : (some ((x3_3.set (t176 : Int).toNat (⟨(rd_T72 x3_3 t176).f0, t192, (rd_T72 x3_3 t176).f2, (rd_T72 x3_3 t176).f3⟩ : S72)), t193, t194)) = some (r1, r2, r3) := H
        have A40 := ak_ A400
        clear A400
        obtain ⟨y195, hy195⟩ : ∃ y_ : List (S72), y_ = (x3_3.set (t176 : Int).toNat (⟨(rd_T72 x3_3 t176).f0, t192, (rd_T72 x3_3 t176).f2, (rd_T72 x3_3 t176).f3⟩ : S72)) := ⟨_, rfl⟩
        replace H : (some (y195, t193, t194)) = some (r1, r2, r3) := by first | (rw [hy195]; with_reducible exact H) | (have H2_ := (Option.bind_some _ _).symm.trans H; rw [hy195]; with_reducible exact H2_) | (have H2_ := (Option.bind_some _ _).symm.trans H; with_reducible exact H2_) | with_reducible exact H | (rw [hy195]; exact H) | exact H
        have Ny195 := ak_ hy195
        clear hy195
        simp only [Option.some.injEq, Prod.mk.injEq] at H
        obtain ⟨rfl, rfl, rfl⟩ := H
        obtain ⟨Ao41, co41, eo41⟩ := Kd.R_slice HO_3.out
        subst eo41
        go_wp2_with (first | ((with_reducible refine gate_callee (f := 104) rfl ?_); refine goesL_ (some 43) rfl rfl Try.func104 (by kernel_rfl) rfl #[.pointer (some ⟨g, 0, none⟩), .int .i64 (x3_3.length : Int)] rfl ln_ ?_; (with_reducible refine (spec_l00Src_pick.calls g s0_0 x1001_3 x1002_3 (x3_3.length : Int) t176 t177 t178 w0 _ ?side1 ?side2 A23.out).mono ?_); (case side1 => exact isS135_a HI0); (case side2 => exact hz_ (IsS135.ge HI0.out)); rintro e w42 ⟨rfl, hi, hb, hk⟩; refine ⟨_, rfl, ?_⟩; have n0_ := ak_ (Kd.R_mono (Kd.R_keep (IsS135.apart (show IsS135 w0 _ g s0_0 x1001_3 x1002_3 from isS135_a HI0) (kr_ HO_3) (by decide)) hk (fun _ h => h.2)) (fun _ h => h.1)); have n1_ := ak_ (KeepBut.trans kb_ hk (.inl rfl)); have n2_ := ak_ (hb); have n3_ := ak_ (hi); clear HO_3 HK HB HI0; have HO_3 := n0_; have HK := n1_; have HB := n2_; have HI0 := n3_; clear n0_ n1_ n2_ n3_; (try clear hb); (try clear hb2); (try clear hk); (try clear hi); have p26 : 0 ≤ (t176 : Int) := od_; have q26 : (t176 : Int) < ((x3_3.length : Int) : Int) := od_; obtain ⟨go26, co26, eo26, gb26, gl26, cl26, HG26⟩ := Kd.R_form HO_3.out (by omega); (first | cases eo26 | (injection eo26 with ea_ en_ ec_; (first | subst ea_ | (injection ea_ with ea_; subst ea_)); subst ec_; clear en_)); have GB26 := ak_ gb26; have GG26 := ak_ HG26; clear gb26 gl26 HG26; obtain ⟨ce26, hcl26, hM26, hcc26, hfr26⟩ := Kd.R_elem HO_3.out z72 (t176 : Int) p26 q26; obtain rfl := k72_openM hM26; have hx26_0 : w42.cell? ⟨go26, (t176 : Int).toNat * 4, none⟩ = some (.string ((rd_T72 x3_3 t176).f0)) := hcc26 0 _ rfl; have hx26_1 : w42.cell? ⟨go26, (t176 : Int).toNat * 4 + 1, none⟩ = some (.int .i64 ((rd_T72 x3_3 t176).f1)) := hcc26 1 _ rfl; have hx26_2 : w42.cell? ⟨go26, (t176 : Int).toNat * 4 + 2, none⟩ = some (.int .i64 ((rd_T72 x3_3 t176).f2)) := hcc26 2 _ rfl; have hx26_3 : w42.cell? ⟨go26, (t176 : Int).toNat * 4 + 3, none⟩ = some (.int .i64 ((rd_T72 x3_3 t176).f3)) := hcc26 3 _ rfl; have hf26_0 : w42.frozen? ⟨go26, (t176 : Int).toNat * 4, none⟩ = false := hfr26 0; have hf26_1 : w42.frozen? ⟨go26, (t176 : Int).toNat * 4 + 1, none⟩ = false := hfr26 1; have hf26_2 : w42.frozen? ⟨go26, (t176 : Int).toNat * 4 + 2, none⟩ = false := hfr26 2; have hf26_3 : w42.frozen? ⟨go26, (t176 : Int).toNat * 4 + 3, none⟩ = false := hfr26 3; (try clear hcl26); (try clear hcc26); (try clear hfr26); (try clear hM26); replace p26 := eq_true p26; replace q26 := eq_true q26) | ((with_reducible refine gate_callee (f := 104) rfl ?_); refine goesL_ (some 46) rfl rfl Try.func104 (by kernel_rfl) rfl #[.pointer (some ⟨g, 0, none⟩), .int .i64 24] rfl ln_ ?_; (with_reducible refine (spec_l00Src_pick.calls g s0_0 t177 t178 24 t179 t180 t181 w0 _ ?side1 ?side2 A27.out).mono ?_); (case side1 => exact isS135_a HI0); (case side2 => exact hz_ (IsS135.ge HI0.out)); rintro e w43 ⟨rfl, hi, hb, hk⟩; refine ⟨_, rfl, ?_⟩; have n0_ := ak_ (Kd.R_mono (Kd.R_keep (IsS135.apart (show IsS135 w0 _ g s0_0 t177 t178 from isS135_a HI0) (kr_ HO_3) (by decide)) hk (fun _ h => h.2)) (fun _ h => h.1)); have n1_ := ak_ (KeepBut.trans kb_ hk (.inl rfl)); have n2_ := ak_ (hb); have n3_ := ak_ (hi); clear HO_3 HK HB HI0; have HO_3 := n0_; have HK := n1_; have HB := n2_; have HI0 := n3_; clear n0_ n1_ n2_ n3_; clear hb hk hi) | ((with_reducible refine gate_dst (N := 59) rfl ?_); refine Kd.R_lit (Kd.int .i64) _ 2 ?hg (N := 59) ?hd (xs := ([(-1), 0, 20000, 20001, (-9223372036854775808)] : List Int)) (inner := [.int .i64 (-1), .int .i64 0, .int .i64 20000, .int .i64 20001, .int .i64 (-9223372036854775808)]) (ok := fun _ => True) (okp := fun _ => True) ?hr ?hp (fun _ hk => hk) trivial (Below.refl _ _) (Nat.le_refl _) (by simp) ?_; (case hd => rfl); (case hg => rfl); (case hr => first | (go_simp; done) | (go_simp; rfl)); (case hp => exact (Reps.one (show Kd.M (Kd.int .i64) _ _ _ (-1) [.int .i64 (-1)] from rfl) (Reps.one (show Kd.M (Kd.int .i64) _ _ _ 0 [.int .i64 0] from rfl) (Reps.one (show Kd.M (Kd.int .i64) _ _ _ 20000 [.int .i64 20000] from rfl) (Reps.one (show Kd.M (Kd.int .i64) _ _ _ 20001 [.int .i64 20001] from rfl) (Reps.one (show Kd.M (Kd.int .i64) _ _ _ (-9223372036854775808) [.int .i64 (-9223372036854775808)] from rfl) (Reps.none _ _))))))); intro v190 w44 ho45 hb hg_ hnew_; clear hg_ hnew_; (first | rw [← Ny189.out] at ho45 | (simp only [Int.reduceToNat] at ho45; rw [← Ny189.out] at ho45)); have n0_ := ak_ (Kd.R_below (kr_ HO_3) hb); have n1_ := ak_ (Kd.R_lower ho45 (keep_size (w := w) (g := g) (row := none) kb_)); have n2_ := ak_ (IsS135.below (isS135_a HI0) hb); have n3_ := ak_ (KeepBut.trans kb_ (KeepBut.of_below hb g none) (.inl rfl)); have n4_ := ak_ (below_step (hz_ (IsS135.ge HI0.out)) hb); clear HO_3 HI0 HK HB; have HO_3 := n0_; have HO191 := n1_; have HI0 := n2_; have HK := n3_; have HB := n4_; clear n0_ n1_ n2_ n3_ n4_; clear hb ho45; obtain ⟨Ao46, co46, eo46⟩ := Kd.R_slice HO191.out; subst eo46) | ((with_reducible refine gate_callee (f := 106) rfl ?_); refine goesL_ (some 60) rfl rfl Try.func106 (by kernel_rfl) rfl #[.pointer (some ⟨g, 0, none⟩), .slice Ao46 y189.length co46] rfl ln_ ?_; (with_reducible refine (spec_l00Src_among.calls g s0_0 t180 t181 _ _ y189 t192 t193 t194 w0 _ ?side1 ?side2 ?side3 ?side4 ?side5 A40.out).mono ?_); (case side1 => exact isS135_a HI0); (case side2 => exact hz_ (IsS135.ge HI0.out)); (case side3 => repeat (first | exact (Kd.R_reads' HO191.out).2.2 | (with_reducible refine Kd.C_alloc ?_ _) | (with_reducible refine Kd.C_drewN ?_ _) | (with_reducible refine Kd.C_drew ?_))); (case side4 => exact (Kd.R_reads' HO191.out).2.1); (case side5 => exact far_slice (IsS135.own_ne HI0.out HO191.out (by decide))); rintro e w47 ⟨rfl, hi, hb, hk⟩; refine ⟨_, rfl, ?_⟩; have n0_ := ak_ (Kd.R_mono (Kd.R_keep (IsS135.apart (show IsS135 w0 _ g s0_0 t180 t181 from isS135_a HI0) (kr_ HO_3) (by decide)) hk (fun _ h => h.2)) (fun _ h => h.1)); have n1_ := ak_ (Kd.R_mono (Kd.R_keep (IsS135.apart (show IsS135 w0 _ g s0_0 t180 t181 from isS135_a HI0) (kr_ HO191) (by decide)) hk (fun _ h => h.2)) (fun _ h => h.1)); have n2_ := ak_ (KeepBut.trans kb_ hk (.inl rfl)); have n3_ := ak_ (hb); have n4_ := ak_ (hi); clear HO_3 HO191 HK HB HI0; have HO_3 := n0_; have HO191 := n1_; have HK := n2_; have HB := n3_; have HI0 := n4_; clear n0_ n1_ n2_ n3_ n4_; (try clear hb); (try clear hb2); (try clear hk); (try clear hi); have HX48 := ak_ (show Kd.R k72 72 w47 w.heap.size (fun _ => True) (.slice (some ⟨go26, 0, none⟩) x3_3.length co41) x3_3 from (kr_ HO_3)); obtain ⟨ce48, hcl48, hM48, hcc48, hfr48⟩ := Kd.R_elem HX48.out z72 (t176 : Int) (od_) (by have h_ : (t176 : Int) < ((x3_3.length : Int) : Int) := od_; first | exact h_ | (have e_ := (Kd.R_reads' HO_3.out).1; omega) | simpa using h_); obtain rfl := k72_openM hM48; have HP48 := Kd.R_seg HX48.out (t176 : Int) (od_) (by have h_ : (t176 : Int) < ((x3_3.length : Int) : Int) := od_; first | exact h_ | (have e_ := (Kd.R_reads' HO_3.out).1; omega) | simpa using h_) (seg := [.int .i64 t192]) (j := 1) hcl48 hcc48 (show 2 ≤ 4 from by decide) (x' := (⟨(rd_T72 x3_3 t176).f0, t192, (rd_T72 x3_3 t176).f2, (rd_T72 x3_3 t176).f3⟩ : S72)) (k72_mkM _ _ _ (⟨(rd_T72 x3_3 t176).f0, t192, (rd_T72 x3_3 t176).f2, (rd_T72 x3_3 t176).f3⟩ : S72) ) (fun _ hk => hk); have hx48_1 := hcc48 1 _ rfl; (try simp only [show (k72).sz = 4 from rfl, Nat.mul_one, Nat.add_zero] at hx48_1); have hf48_1 := hfr48 1; (try simp only [show (k72).sz = 4 from rfl, Nat.mul_one, Nat.add_zero] at hf48_1); (try clear hcl48); (try clear hcc48); (try clear hfr48); (try clear hM48)) | ((with_reducible refine gate_store (t := 2) (p := 62) rfl ?_); refine store_event (t := 2) (p := 62) (v := ?vo_w49) (w1 := (w47.setCell ⟨go26, (t176 : Int).toNat * 4 + 1, none⟩ (.int .i64 t192))) ?hg ?ho ?hn ?hr ?_; (case ho => rfl); (case hg => rfl); (case hn => rfl); (case hr => first | (go_simp; done) | (go_simp; rfl)); intro w49 hw; have hg : w47.grownBy w49 (some go26) := (by rw [hw]; exact HP48.2); have hp_ : Kd.R k72 72 w49 w.heap.size (fun _ => True) (.slice (some ⟨go26, 0, none⟩) x3_3.length co41) y195 := (by rw [hw, Ny195.out]; exact HP48.1); clear HP48; have n0_ := ak_ (hp_); have n1_ := ak_ (IsS135.grown (isS135_a HI0) hg (IsS135.own_ne HI0.out HO_3.out (by decide))); have n2_ := ak_ (Kd.R_over' (v := (.slice (some ⟨go26, 0, none⟩) x3_3.length co41)) (kr_ HO191) (Kd.R_typed HO_3.out) (by decide) hg); have n3_ := ak_ ((by rw [hw]; exact below_set (HB.out) (Nat.le_trans HL.out GB26.out) : Below w0.heap.size w0 w49)); have n4_ := ak_ (KeepBut.trans kb_ (KeepBut.of_grown hg g) (Kd.R_base2 HO_3.out)); clear HO_3 HI0 HO191 HB HK; have HO_3 := n0_; have HI0 := n1_; have HO191 := n2_; have HB := n3_; have HK := n4_; clear n0_ n1_ n2_ n3_ n4_; clear hg hw hp_))
        go_ret
        exact ⟨_, ew_, by (with_reducible repeat (first | apply Kd.R_alloc | apply Kd.R_drewN | apply Kd.R_drew)); exact HO_3.out, isS135_a HI0, hz_ (IsS135.ge HI0.out), kb_⟩
       ·rw [if_neg c39] at H
        have c39b0 : (t179 == 1) = false := beq_eq_false_iff_ne.mpr c39
        have c39b1 : (t179 != 1) = true := bne_iff_ne.mpr c39
        by_cases c50 : t179 = 2
        ·rw [if_pos c50] at H
         have c50b0 : (t179 == 2) = true := beq_iff_eq.mpr c50
         have c50b1 : (t179 != 2) = false := bne_eq_false_iff_eq.mpr c50
         clear c50
         obtain ⟨y196, hy196⟩ : ∃ y_ : List Int, y_ = (([(-1), 0, 1000, 1001] : List Int)) := ⟨_, rfl⟩
         replace H : ((spec_l00Src_among.f s0_0 t180 t181 y196).bind fun bt199 => (some ((x3_3.set (t176 : Int).toNat (⟨(rd_T72 x3_3 t176).f0, (rd_T72 x3_3 t176).f1, bt199.1, (rd_T72 x3_3 t176).f3⟩ : S72)), bt199.2.1, bt199.2.2))) = some (r1, r2, r3) := by first | (rw [hy196]; with_reducible exact H) | (have H2_ := (Option.bind_some _ _).symm.trans H; rw [hy196]; with_reducible exact H2_) | (have H2_ := (Option.bind_some _ _).symm.trans H; with_reducible exact H2_) | with_reducible exact H | (rw [hy196]; exact H) | exact H
         have Ny196 := ak_ hy196
         clear hy196
         replace H := ob_ H
         obtain ⟨⟨t199, t200, t201⟩, A510, H⟩ := H
         replace H : (some ((x3_3.set (t176 : Int).toNat (⟨(rd_T72 x3_3 t176).f0, (rd_T72 x3_3 t176).f1, t199, (rd_T72 x3_3 t176).f3⟩ : S72)), t200, t201)) = some (r1, r2, r3) := H
         have A51 := ak_ A510
         clear A510
         obtain ⟨y202, hy202⟩ : ∃ y_ : List (S72), y_ = (x3_3.set (t176 : Int).toNat (⟨(rd_T72 x3_3 t176).f0, (rd_T72 x3_3 t176).f1, t199, (rd_T72 x3_3 t176).f3⟩ : S72)) := ⟨_, rfl⟩
         replace H : (some (y202, t200, t201)) = some (r1, r2, r3) := by first | (rw [hy202]; with_reducible exact H) | (have H2_ := (Option.bind_some _ _).symm.trans H; rw [hy202]; with_reducible exact H2_) | (have H2_ := (Option.bind_some _ _).symm.trans H; with_reducible exact H2_) | with_reducible exact H | (rw [hy202]; exact H) | exact H
         have Ny202 := ak_ hy202
         clear hy202
         simp only [Option.some.injEq, Prod.mk.injEq] at H
         obtain ⟨rfl, rfl, rfl⟩ := H
         obtain ⟨Ao52, co52, eo52⟩ := Kd.R_slice HO_3.out
         subst eo52
         go_wp2_with (first | ((with_reducible refine gate_callee (f := 104) rfl ?_); refine goesL_ (some 43) rfl rfl Try.func104 (by kernel_rfl) rfl #[.pointer (some ⟨g, 0, none⟩), .int .i64 (x3_3.length : Int)] rfl ln_ ?_; (with_reducible refine (spec_l00Src_pick.calls g s0_0 x1001_3 x1002_3 (x3_3.length : Int) t176 t177 t178 w0 _ ?side1 ?side2 A23.out).mono ?_); (case side1 => exact isS135_a HI0); (case side2 => exact hz_ (IsS135.ge HI0.out)); rintro e w53 ⟨rfl, hi, hb, hk⟩; refine ⟨_, rfl, ?_⟩; have n0_ := ak_ (Kd.R_mono (Kd.R_keep (IsS135.apart (show IsS135 w0 _ g s0_0 x1001_3 x1002_3 from isS135_a HI0) (kr_ HO_3) (by decide)) hk (fun _ h => h.2)) (fun _ h => h.1)); have n1_ := ak_ (KeepBut.trans kb_ hk (.inl rfl)); have n2_ := ak_ (hb); have n3_ := ak_ (hi); clear HO_3 HK HB HI0; have HO_3 := n0_; have HK := n1_; have HB := n2_; have HI0 := n3_; clear n0_ n1_ n2_ n3_; (try clear hb); (try clear hb2); (try clear hk); (try clear hi); have p26 : 0 ≤ (t176 : Int) := od_; have q26 : (t176 : Int) < ((x3_3.length : Int) : Int) := od_; obtain ⟨go26, co26, eo26, gb26, gl26, cl26, HG26⟩ := Kd.R_form HO_3.out (by omega); (first | cases eo26 | (injection eo26 with ea_ en_ ec_; (first | subst ea_ | (injection ea_ with ea_; subst ea_)); subst ec_; clear en_)); have GB26 := ak_ gb26; have GG26 := ak_ HG26; clear gb26 gl26 HG26; obtain ⟨ce26, hcl26, hM26, hcc26, hfr26⟩ := Kd.R_elem HO_3.out z72 (t176 : Int) p26 q26; obtain rfl := k72_openM hM26; have hx26_0 : w53.cell? ⟨go26, (t176 : Int).toNat * 4, none⟩ = some (.string ((rd_T72 x3_3 t176).f0)) := hcc26 0 _ rfl; have hx26_1 : w53.cell? ⟨go26, (t176 : Int).toNat * 4 + 1, none⟩ = some (.int .i64 ((rd_T72 x3_3 t176).f1)) := hcc26 1 _ rfl; have hx26_2 : w53.cell? ⟨go26, (t176 : Int).toNat * 4 + 2, none⟩ = some (.int .i64 ((rd_T72 x3_3 t176).f2)) := hcc26 2 _ rfl; have hx26_3 : w53.cell? ⟨go26, (t176 : Int).toNat * 4 + 3, none⟩ = some (.int .i64 ((rd_T72 x3_3 t176).f3)) := hcc26 3 _ rfl; have hf26_0 : w53.frozen? ⟨go26, (t176 : Int).toNat * 4, none⟩ = false := hfr26 0; have hf26_1 : w53.frozen? ⟨go26, (t176 : Int).toNat * 4 + 1, none⟩ = false := hfr26 1; have hf26_2 : w53.frozen? ⟨go26, (t176 : Int).toNat * 4 + 2, none⟩ = false := hfr26 2; have hf26_3 : w53.frozen? ⟨go26, (t176 : Int).toNat * 4 + 3, none⟩ = false := hfr26 3; (try clear hcl26); (try clear hcc26); (try clear hfr26); (try clear hM26); replace p26 := eq_true p26; replace q26 := eq_true q26) | ((with_reducible refine gate_callee (f := 104) rfl ?_); refine goesL_ (some 46) rfl rfl Try.func104 (by kernel_rfl) rfl #[.pointer (some ⟨g, 0, none⟩), .int .i64 24] rfl ln_ ?_; (with_reducible refine (spec_l00Src_pick.calls g s0_0 t177 t178 24 t179 t180 t181 w0 _ ?side1 ?side2 A27.out).mono ?_); (case side1 => exact isS135_a HI0); (case side2 => exact hz_ (IsS135.ge HI0.out)); rintro e w54 ⟨rfl, hi, hb, hk⟩; refine ⟨_, rfl, ?_⟩; have n0_ := ak_ (Kd.R_mono (Kd.R_keep (IsS135.apart (show IsS135 w0 _ g s0_0 t177 t178 from isS135_a HI0) (kr_ HO_3) (by decide)) hk (fun _ h => h.2)) (fun _ h => h.1)); have n1_ := ak_ (KeepBut.trans kb_ hk (.inl rfl)); have n2_ := ak_ (hb); have n3_ := ak_ (hi); clear HO_3 HK HB HI0; have HO_3 := n0_; have HK := n1_; have HB := n2_; have HI0 := n3_; clear n0_ n1_ n2_ n3_; clear hb hk hi) | ((with_reducible refine gate_dst (N := 67) rfl ?_); refine Kd.R_lit (Kd.int .i64) _ 2 ?hg (N := 67) ?hd (xs := ([(-1), 0, 1000, 1001] : List Int)) (inner := [.int .i64 (-1), .int .i64 0, .int .i64 1000, .int .i64 1001]) (ok := fun _ => True) (okp := fun _ => True) ?hr ?hp (fun _ hk => hk) trivial (Below.refl _ _) (Nat.le_refl _) (by simp) ?_; (case hd => rfl); (case hg => rfl); (case hr => first | (go_simp; done) | (go_simp; rfl)); (case hp => exact (Reps.one (show Kd.M (Kd.int .i64) _ _ _ (-1) [.int .i64 (-1)] from rfl) (Reps.one (show Kd.M (Kd.int .i64) _ _ _ 0 [.int .i64 0] from rfl) (Reps.one (show Kd.M (Kd.int .i64) _ _ _ 1000 [.int .i64 1000] from rfl) (Reps.one (show Kd.M (Kd.int .i64) _ _ _ 1001 [.int .i64 1001] from rfl) (Reps.none _ _)))))); intro v197 w55 ho56 hb hg_ hnew_; clear hg_ hnew_; (first | rw [← Ny196.out] at ho56 | (simp only [Int.reduceToNat] at ho56; rw [← Ny196.out] at ho56)); have n0_ := ak_ (Kd.R_below (kr_ HO_3) hb); have n1_ := ak_ (Kd.R_lower ho56 (keep_size (w := w) (g := g) (row := none) kb_)); have n2_ := ak_ (IsS135.below (isS135_a HI0) hb); have n3_ := ak_ (KeepBut.trans kb_ (KeepBut.of_below hb g none) (.inl rfl)); have n4_ := ak_ (below_step (hz_ (IsS135.ge HI0.out)) hb); clear HO_3 HI0 HK HB; have HO_3 := n0_; have HO198 := n1_; have HI0 := n2_; have HK := n3_; have HB := n4_; clear n0_ n1_ n2_ n3_ n4_; clear hb ho56; obtain ⟨Ao57, co57, eo57⟩ := Kd.R_slice HO198.out; subst eo57) | ((with_reducible refine gate_callee (f := 106) rfl ?_); refine goesL_ (some 68) rfl rfl Try.func106 (by kernel_rfl) rfl #[.pointer (some ⟨g, 0, none⟩), .slice Ao57 y196.length co57] rfl ln_ ?_; (with_reducible refine (spec_l00Src_among.calls g s0_0 t180 t181 _ _ y196 t199 t200 t201 w0 _ ?side1 ?side2 ?side3 ?side4 ?side5 A51.out).mono ?_); (case side1 => exact isS135_a HI0); (case side2 => exact hz_ (IsS135.ge HI0.out)); (case side3 => repeat (first | exact (Kd.R_reads' HO198.out).2.2 | (with_reducible refine Kd.C_alloc ?_ _) | (with_reducible refine Kd.C_drewN ?_ _) | (with_reducible refine Kd.C_drew ?_))); (case side4 => exact (Kd.R_reads' HO198.out).2.1); (case side5 => exact far_slice (IsS135.own_ne HI0.out HO198.out (by decide))); rintro e w58 ⟨rfl, hi, hb, hk⟩; refine ⟨_, rfl, ?_⟩; have n0_ := ak_ (Kd.R_mono (Kd.R_keep (IsS135.apart (show IsS135 w0 _ g s0_0 t180 t181 from isS135_a HI0) (kr_ HO_3) (by decide)) hk (fun _ h => h.2)) (fun _ h => h.1)); have n1_ := ak_ (Kd.R_mono (Kd.R_keep (IsS135.apart (show IsS135 w0 _ g s0_0 t180 t181 from isS135_a HI0) (kr_ HO198) (by decide)) hk (fun _ h => h.2)) (fun _ h => h.1)); have n2_ := ak_ (KeepBut.trans kb_ hk (.inl rfl)); have n3_ := ak_ (hb); have n4_ := ak_ (hi); clear HO_3 HO198 HK HB HI0; have HO_3 := n0_; have HO198 := n1_; have HK := n2_; have HB := n3_; have HI0 := n4_; clear n0_ n1_ n2_ n3_ n4_; (try clear hb); (try clear hb2); (try clear hk); (try clear hi); have HX59 := ak_ (show Kd.R k72 72 w58 w.heap.size (fun _ => True) (.slice (some ⟨go26, 0, none⟩) x3_3.length co52) x3_3 from (kr_ HO_3)); obtain ⟨ce59, hcl59, hM59, hcc59, hfr59⟩ := Kd.R_elem HX59.out z72 (t176 : Int) (od_) (by have h_ : (t176 : Int) < ((x3_3.length : Int) : Int) := od_; first | exact h_ | (have e_ := (Kd.R_reads' HO_3.out).1; omega) | simpa using h_); obtain rfl := k72_openM hM59; have HP59 := Kd.R_seg HX59.out (t176 : Int) (od_) (by have h_ : (t176 : Int) < ((x3_3.length : Int) : Int) := od_; first | exact h_ | (have e_ := (Kd.R_reads' HO_3.out).1; omega) | simpa using h_) (seg := [.int .i64 t199]) (j := 2) hcl59 hcc59 (show 3 ≤ 4 from by decide) (x' := (⟨(rd_T72 x3_3 t176).f0, (rd_T72 x3_3 t176).f1, t199, (rd_T72 x3_3 t176).f3⟩ : S72)) (k72_mkM _ _ _ (⟨(rd_T72 x3_3 t176).f0, (rd_T72 x3_3 t176).f1, t199, (rd_T72 x3_3 t176).f3⟩ : S72) ) (fun _ hk => hk); have hx59_2 := hcc59 2 _ rfl; (try simp only [show (k72).sz = 4 from rfl, Nat.mul_one, Nat.add_zero] at hx59_2); have hf59_2 := hfr59 2; (try simp only [show (k72).sz = 4 from rfl, Nat.mul_one, Nat.add_zero] at hf59_2); (try clear hcl59); (try clear hcc59); (try clear hfr59); (try clear hM59)) | ((with_reducible refine gate_store (t := 2) (p := 70) rfl ?_); refine store_event (t := 2) (p := 70) (v := ?vo_w60) (w1 := (w58.setCell ⟨go26, (t176 : Int).toNat * 4 + 2, none⟩ (.int .i64 t199))) ?hg ?ho ?hn ?hr ?_; (case ho => rfl); (case hg => rfl); (case hn => rfl); (case hr => first | (go_simp; done) | (go_simp; rfl)); intro w60 hw; have hg : w58.grownBy w60 (some go26) := (by rw [hw]; exact HP59.2); have hp_ : Kd.R k72 72 w60 w.heap.size (fun _ => True) (.slice (some ⟨go26, 0, none⟩) x3_3.length co52) y202 := (by rw [hw, Ny202.out]; exact HP59.1); clear HP59; have n0_ := ak_ (hp_); have n1_ := ak_ (IsS135.grown (isS135_a HI0) hg (IsS135.own_ne HI0.out HO_3.out (by decide))); have n2_ := ak_ (Kd.R_over' (v := (.slice (some ⟨go26, 0, none⟩) x3_3.length co52)) (kr_ HO198) (Kd.R_typed HO_3.out) (by decide) hg); have n3_ := ak_ ((by rw [hw]; exact below_set (HB.out) (Nat.le_trans HL.out GB26.out) : Below w0.heap.size w0 w60)); have n4_ := ak_ (KeepBut.trans kb_ (KeepBut.of_grown hg g) (Kd.R_base2 HO_3.out)); clear HO_3 HI0 HO198 HB HK; have HO_3 := n0_; have HI0 := n1_; have HO198 := n2_; have HB := n3_; have HK := n4_; clear n0_ n1_ n2_ n3_ n4_; clear hg hw hp_))
         go_ret
         exact ⟨_, ew_, by (with_reducible repeat (first | apply Kd.R_alloc | apply Kd.R_drewN | apply Kd.R_drew)); exact HO_3.out, isS135_a HI0, hz_ (IsS135.ge HI0.out), kb_⟩
        ·rw [if_neg c50] at H
         have c50b0 : (t179 == 2) = false := beq_eq_false_iff_ne.mpr c50
         have c50b1 : (t179 != 2) = true := bne_iff_ne.mpr c50
         by_cases c61 : t179 = 3
         ·rw [if_pos c61] at H
          have c61b0 : (t179 == 3) = true := beq_iff_eq.mpr c61
          have c61b1 : (t179 != 3) = false := bne_eq_false_iff_eq.mpr c61
          clear c61
          obtain ⟨y203, hy203⟩ : ∃ y_ : List Int, y_ = (([0, 1, 1000000, 1000001] : List Int)) := ⟨_, rfl⟩
          replace H : ((spec_l00Src_among.f s0_0 t180 t181 y203).bind fun bt206 => (some ((x3_3.set (t176 : Int).toNat (⟨(rd_T72 x3_3 t176).f0, (rd_T72 x3_3 t176).f1, (rd_T72 x3_3 t176).f2, bt206.1⟩ : S72)), bt206.2.1, bt206.2.2))) = some (r1, r2, r3) := by first | (rw [hy203]; with_reducible exact H) | (have H2_ := (Option.bind_some _ _).symm.trans H; rw [hy203]; with_reducible exact H2_) | (have H2_ := (Option.bind_some _ _).symm.trans H; with_reducible exact H2_) | with_reducible exact H | (rw [hy203]; exact H) | exact H
          have Ny203 := ak_ hy203
          clear hy203
          replace H := ob_ H
          obtain ⟨⟨t206, t207, t208⟩, A620, H⟩ := H
          replace H : (some ((x3_3.set (t176 : Int).toNat (⟨(rd_T72 x3_3 t176).f0, (rd_T72 x3_3 t176).f1, (rd_T72 x3_3 t176).f2, t206⟩ : S72)), t207, t208)) = some (r1, r2, r3) := H
          have A62 := ak_ A620
          clear A620
          obtain ⟨y209, hy209⟩ : ∃ y_ : List (S72), y_ = (x3_3.set (t176 : Int).toNat (⟨(rd_T72 x3_3 t176).f0, (rd_T72 x3_3 t176).f1, (rd_T72 x3_3 t176).f2, t206⟩ : S72)) := ⟨_, rfl⟩
          replace H : (some (y209, t207, t208)) = some (r1, r2, r3) := by first | (rw [hy209]; with_reducible exact H) | (have H2_ := (Option.bind_some _ _).symm.trans H; rw [hy209]; with_reducible exact H2_) | (have H2_ := (Option.bind_some _ _).symm.trans H; with_reducible exact H2_) | with_reducible exact H | (rw [hy209]; exact H) | exact H
          have Ny209 := ak_ hy209
          clear hy209
          simp only [Option.some.injEq, Prod.mk.injEq] at H
          obtain ⟨rfl, rfl, rfl⟩ := H
          obtain ⟨Ao63, co63, eo63⟩ := Kd.R_slice HO_3.out
          subst eo63
          go_wp2_with (first | ((with_reducible refine gate_callee (f := 104) rfl ?_); refine goesL_ (some 43) rfl rfl Try.func104 (by kernel_rfl) rfl #[.pointer (some ⟨g, 0, none⟩), .int .i64 (x3_3.length : Int)] rfl ln_ ?_; (with_reducible refine (spec_l00Src_pick.calls g s0_0 x1001_3 x1002_3 (x3_3.length : Int) t176 t177 t178 w0 _ ?side1 ?side2 A23.out).mono ?_); (case side1 => exact isS135_a HI0); (case side2 => exact hz_ (IsS135.ge HI0.out)); rintro e w64 ⟨rfl, hi, hb, hk⟩; refine ⟨_, rfl, ?_⟩; have n0_ := ak_ (Kd.R_mono (Kd.R_keep (IsS135.apart (show IsS135 w0 _ g s0_0 x1001_3 x1002_3 from isS135_a HI0) (kr_ HO_3) (by decide)) hk (fun _ h => h.2)) (fun _ h => h.1)); have n1_ := ak_ (KeepBut.trans kb_ hk (.inl rfl)); have n2_ := ak_ (hb); have n3_ := ak_ (hi); clear HO_3 HK HB HI0; have HO_3 := n0_; have HK := n1_; have HB := n2_; have HI0 := n3_; clear n0_ n1_ n2_ n3_; (try clear hb); (try clear hb2); (try clear hk); (try clear hi); have p26 : 0 ≤ (t176 : Int) := od_; have q26 : (t176 : Int) < ((x3_3.length : Int) : Int) := od_; obtain ⟨go26, co26, eo26, gb26, gl26, cl26, HG26⟩ := Kd.R_form HO_3.out (by omega); (first | cases eo26 | (injection eo26 with ea_ en_ ec_; (first | subst ea_ | (injection ea_ with ea_; subst ea_)); subst ec_; clear en_)); have GB26 := ak_ gb26; have GG26 := ak_ HG26; clear gb26 gl26 HG26; obtain ⟨ce26, hcl26, hM26, hcc26, hfr26⟩ := Kd.R_elem HO_3.out z72 (t176 : Int) p26 q26; obtain rfl := k72_openM hM26; have hx26_0 : w64.cell? ⟨go26, (t176 : Int).toNat * 4, none⟩ = some (.string ((rd_T72 x3_3 t176).f0)) := hcc26 0 _ rfl; have hx26_1 : w64.cell? ⟨go26, (t176 : Int).toNat * 4 + 1, none⟩ = some (.int .i64 ((rd_T72 x3_3 t176).f1)) := hcc26 1 _ rfl; have hx26_2 : w64.cell? ⟨go26, (t176 : Int).toNat * 4 + 2, none⟩ = some (.int .i64 ((rd_T72 x3_3 t176).f2)) := hcc26 2 _ rfl; have hx26_3 : w64.cell? ⟨go26, (t176 : Int).toNat * 4 + 3, none⟩ = some (.int .i64 ((rd_T72 x3_3 t176).f3)) := hcc26 3 _ rfl; have hf26_0 : w64.frozen? ⟨go26, (t176 : Int).toNat * 4, none⟩ = false := hfr26 0; have hf26_1 : w64.frozen? ⟨go26, (t176 : Int).toNat * 4 + 1, none⟩ = false := hfr26 1; have hf26_2 : w64.frozen? ⟨go26, (t176 : Int).toNat * 4 + 2, none⟩ = false := hfr26 2; have hf26_3 : w64.frozen? ⟨go26, (t176 : Int).toNat * 4 + 3, none⟩ = false := hfr26 3; (try clear hcl26); (try clear hcc26); (try clear hfr26); (try clear hM26); replace p26 := eq_true p26; replace q26 := eq_true q26) | ((with_reducible refine gate_callee (f := 104) rfl ?_); refine goesL_ (some 46) rfl rfl Try.func104 (by kernel_rfl) rfl #[.pointer (some ⟨g, 0, none⟩), .int .i64 24] rfl ln_ ?_; (with_reducible refine (spec_l00Src_pick.calls g s0_0 t177 t178 24 t179 t180 t181 w0 _ ?side1 ?side2 A27.out).mono ?_); (case side1 => exact isS135_a HI0); (case side2 => exact hz_ (IsS135.ge HI0.out)); rintro e w65 ⟨rfl, hi, hb, hk⟩; refine ⟨_, rfl, ?_⟩; have n0_ := ak_ (Kd.R_mono (Kd.R_keep (IsS135.apart (show IsS135 w0 _ g s0_0 t177 t178 from isS135_a HI0) (kr_ HO_3) (by decide)) hk (fun _ h => h.2)) (fun _ h => h.1)); have n1_ := ak_ (KeepBut.trans kb_ hk (.inl rfl)); have n2_ := ak_ (hb); have n3_ := ak_ (hi); clear HO_3 HK HB HI0; have HO_3 := n0_; have HK := n1_; have HB := n2_; have HI0 := n3_; clear n0_ n1_ n2_ n3_; clear hb hk hi) | ((with_reducible refine gate_dst (N := 75) rfl ?_); refine Kd.R_lit (Kd.int .i64) _ 2 ?hg (N := 75) ?hd (xs := ([0, 1, 1000000, 1000001] : List Int)) (inner := [.int .i64 0, .int .i64 1, .int .i64 1000000, .int .i64 1000001]) (ok := fun _ => True) (okp := fun _ => True) ?hr ?hp (fun _ hk => hk) trivial (Below.refl _ _) (Nat.le_refl _) (by simp) ?_; (case hd => rfl); (case hg => rfl); (case hr => first | (go_simp; done) | (go_simp; rfl)); (case hp => exact (Reps.one (show Kd.M (Kd.int .i64) _ _ _ 0 [.int .i64 0] from rfl) (Reps.one (show Kd.M (Kd.int .i64) _ _ _ 1 [.int .i64 1] from rfl) (Reps.one (show Kd.M (Kd.int .i64) _ _ _ 1000000 [.int .i64 1000000] from rfl) (Reps.one (show Kd.M (Kd.int .i64) _ _ _ 1000001 [.int .i64 1000001] from rfl) (Reps.none _ _)))))); intro v204 w66 ho67 hb hg_ hnew_; clear hg_ hnew_; (first | rw [← Ny203.out] at ho67 | (simp only [Int.reduceToNat] at ho67; rw [← Ny203.out] at ho67)); have n0_ := ak_ (Kd.R_below (kr_ HO_3) hb); have n1_ := ak_ (Kd.R_lower ho67 (keep_size (w := w) (g := g) (row := none) kb_)); have n2_ := ak_ (IsS135.below (isS135_a HI0) hb); have n3_ := ak_ (KeepBut.trans kb_ (KeepBut.of_below hb g none) (.inl rfl)); have n4_ := ak_ (below_step (hz_ (IsS135.ge HI0.out)) hb); clear HO_3 HI0 HK HB; have HO_3 := n0_; have HO205 := n1_; have HI0 := n2_; have HK := n3_; have HB := n4_; clear n0_ n1_ n2_ n3_ n4_; clear hb ho67; obtain ⟨Ao68, co68, eo68⟩ := Kd.R_slice HO205.out; subst eo68) | ((with_reducible refine gate_callee (f := 106) rfl ?_); refine goesL_ (some 76) rfl rfl Try.func106 (by kernel_rfl) rfl #[.pointer (some ⟨g, 0, none⟩), .slice Ao68 y203.length co68] rfl ln_ ?_; (with_reducible refine (spec_l00Src_among.calls g s0_0 t180 t181 _ _ y203 t206 t207 t208 w0 _ ?side1 ?side2 ?side3 ?side4 ?side5 A62.out).mono ?_); (case side1 => exact isS135_a HI0); (case side2 => exact hz_ (IsS135.ge HI0.out)); (case side3 => repeat (first | exact (Kd.R_reads' HO205.out).2.2 | (with_reducible refine Kd.C_alloc ?_ _) | (with_reducible refine Kd.C_drewN ?_ _) | (with_reducible refine Kd.C_drew ?_))); (case side4 => exact (Kd.R_reads' HO205.out).2.1); (case side5 => exact far_slice (IsS135.own_ne HI0.out HO205.out (by decide))); rintro e w69 ⟨rfl, hi, hb, hk⟩; refine ⟨_, rfl, ?_⟩; have n0_ := ak_ (Kd.R_mono (Kd.R_keep (IsS135.apart (show IsS135 w0 _ g s0_0 t180 t181 from isS135_a HI0) (kr_ HO_3) (by decide)) hk (fun _ h => h.2)) (fun _ h => h.1)); have n1_ := ak_ (Kd.R_mono (Kd.R_keep (IsS135.apart (show IsS135 w0 _ g s0_0 t180 t181 from isS135_a HI0) (kr_ HO205) (by decide)) hk (fun _ h => h.2)) (fun _ h => h.1)); have n2_ := ak_ (KeepBut.trans kb_ hk (.inl rfl)); have n3_ := ak_ (hb); have n4_ := ak_ (hi); clear HO_3 HO205 HK HB HI0; have HO_3 := n0_; have HO205 := n1_; have HK := n2_; have HB := n3_; have HI0 := n4_; clear n0_ n1_ n2_ n3_ n4_; (try clear hb); (try clear hb2); (try clear hk); (try clear hi); have HX70 := ak_ (show Kd.R k72 72 w69 w.heap.size (fun _ => True) (.slice (some ⟨go26, 0, none⟩) x3_3.length co63) x3_3 from (kr_ HO_3)); obtain ⟨ce70, hcl70, hM70, hcc70, hfr70⟩ := Kd.R_elem HX70.out z72 (t176 : Int) (od_) (by have h_ : (t176 : Int) < ((x3_3.length : Int) : Int) := od_; first | exact h_ | (have e_ := (Kd.R_reads' HO_3.out).1; omega) | simpa using h_); obtain rfl := k72_openM hM70; have HP70 := Kd.R_seg HX70.out (t176 : Int) (od_) (by have h_ : (t176 : Int) < ((x3_3.length : Int) : Int) := od_; first | exact h_ | (have e_ := (Kd.R_reads' HO_3.out).1; omega) | simpa using h_) (seg := [.int .i64 t206]) (j := 3) hcl70 hcc70 (show 4 ≤ 4 from by decide) (x' := (⟨(rd_T72 x3_3 t176).f0, (rd_T72 x3_3 t176).f1, (rd_T72 x3_3 t176).f2, t206⟩ : S72)) (k72_mkM _ _ _ (⟨(rd_T72 x3_3 t176).f0, (rd_T72 x3_3 t176).f1, (rd_T72 x3_3 t176).f2, t206⟩ : S72) ) (fun _ hk => hk); have hx70_3 := hcc70 3 _ rfl; (try simp only [show (k72).sz = 4 from rfl, Nat.mul_one, Nat.add_zero] at hx70_3); have hf70_3 := hfr70 3; (try simp only [show (k72).sz = 4 from rfl, Nat.mul_one, Nat.add_zero] at hf70_3); (try clear hcl70); (try clear hcc70); (try clear hfr70); (try clear hM70)) | ((with_reducible refine gate_store (t := 2) (p := 78) rfl ?_); refine store_event (t := 2) (p := 78) (v := ?vo_w71) (w1 := (w69.setCell ⟨go26, (t176 : Int).toNat * 4 + 3, none⟩ (.int .i64 t206))) ?hg ?ho ?hn ?hr ?_; (case ho => rfl); (case hg => rfl); (case hn => rfl); (case hr => first | (go_simp; done) | (go_simp; rfl)); intro w71 hw; have hg : w69.grownBy w71 (some go26) := (by rw [hw]; exact HP70.2); have hp_ : Kd.R k72 72 w71 w.heap.size (fun _ => True) (.slice (some ⟨go26, 0, none⟩) x3_3.length co63) y209 := (by rw [hw, Ny209.out]; exact HP70.1); clear HP70; have n0_ := ak_ (hp_); have n1_ := ak_ (IsS135.grown (isS135_a HI0) hg (IsS135.own_ne HI0.out HO_3.out (by decide))); have n2_ := ak_ (Kd.R_over' (v := (.slice (some ⟨go26, 0, none⟩) x3_3.length co63)) (kr_ HO205) (Kd.R_typed HO_3.out) (by decide) hg); have n3_ := ak_ ((by rw [hw]; exact below_set (HB.out) (Nat.le_trans HL.out GB26.out) : Below w0.heap.size w0 w71)); have n4_ := ak_ (KeepBut.trans kb_ (KeepBut.of_grown hg g) (Kd.R_base2 HO_3.out)); clear HO_3 HI0 HO205 HB HK; have HO_3 := n0_; have HI0 := n1_; have HO205 := n2_; have HB := n3_; have HK := n4_; clear n0_ n1_ n2_ n3_ n4_; clear hg hw hp_))
          go_ret
          exact ⟨_, ew_, by (with_reducible repeat (first | apply Kd.R_alloc | apply Kd.R_drewN | apply Kd.R_drew)); exact HO_3.out, isS135_a HI0, hz_ (IsS135.ge HI0.out), kb_⟩
         ·rw [if_neg c61] at H
          have c61b0 : (t179 == 3) = false := beq_eq_false_iff_ne.mpr c61
          have c61b1 : (t179 != 3) = true := bne_iff_ne.mpr c61
          simp only [Option.some.injEq, Prod.mk.injEq] at H
          obtain ⟨rfl, rfl, rfl⟩ := H
          obtain ⟨Ao72, co72, eo72⟩ := Kd.R_slice HO_3.out
          subst eo72
          go_wp2_with (first | ((with_reducible refine gate_callee (f := 104) rfl ?_); refine goesL_ (some 43) rfl rfl Try.func104 (by kernel_rfl) rfl #[.pointer (some ⟨g, 0, none⟩), .int .i64 (x3_3.length : Int)] rfl ln_ ?_; (with_reducible refine (spec_l00Src_pick.calls g s0_0 x1001_3 x1002_3 (x3_3.length : Int) t176 t177 t178 w0 _ ?side1 ?side2 A23.out).mono ?_); (case side1 => exact isS135_a HI0); (case side2 => exact hz_ (IsS135.ge HI0.out)); rintro e w73 ⟨rfl, hi, hb, hk⟩; refine ⟨_, rfl, ?_⟩; have n0_ := ak_ (Kd.R_mono (Kd.R_keep (IsS135.apart (show IsS135 w0 _ g s0_0 x1001_3 x1002_3 from isS135_a HI0) (kr_ HO_3) (by decide)) hk (fun _ h => h.2)) (fun _ h => h.1)); have n1_ := ak_ (KeepBut.trans kb_ hk (.inl rfl)); have n2_ := ak_ (hb); have n3_ := ak_ (hi); clear HO_3 HK HB HI0; have HO_3 := n0_; have HK := n1_; have HB := n2_; have HI0 := n3_; clear n0_ n1_ n2_ n3_; (try clear hb); (try clear hb2); (try clear hk); (try clear hi); have p26 : 0 ≤ (t176 : Int) := od_; have q26 : (t176 : Int) < ((x3_3.length : Int) : Int) := od_; obtain ⟨go26, co26, eo26, gb26, gl26, cl26, HG26⟩ := Kd.R_form HO_3.out (by omega); (first | cases eo26 | (injection eo26 with ea_ en_ ec_; (first | subst ea_ | (injection ea_ with ea_; subst ea_)); subst ec_; clear en_)); have GB26 := ak_ gb26; have GG26 := ak_ HG26; clear gb26 gl26 HG26; obtain ⟨ce26, hcl26, hM26, hcc26, hfr26⟩ := Kd.R_elem HO_3.out z72 (t176 : Int) p26 q26; obtain rfl := k72_openM hM26; have hx26_0 : w73.cell? ⟨go26, (t176 : Int).toNat * 4, none⟩ = some (.string ((rd_T72 x3_3 t176).f0)) := hcc26 0 _ rfl; have hx26_1 : w73.cell? ⟨go26, (t176 : Int).toNat * 4 + 1, none⟩ = some (.int .i64 ((rd_T72 x3_3 t176).f1)) := hcc26 1 _ rfl; have hx26_2 : w73.cell? ⟨go26, (t176 : Int).toNat * 4 + 2, none⟩ = some (.int .i64 ((rd_T72 x3_3 t176).f2)) := hcc26 2 _ rfl; have hx26_3 : w73.cell? ⟨go26, (t176 : Int).toNat * 4 + 3, none⟩ = some (.int .i64 ((rd_T72 x3_3 t176).f3)) := hcc26 3 _ rfl; have hf26_0 : w73.frozen? ⟨go26, (t176 : Int).toNat * 4, none⟩ = false := hfr26 0; have hf26_1 : w73.frozen? ⟨go26, (t176 : Int).toNat * 4 + 1, none⟩ = false := hfr26 1; have hf26_2 : w73.frozen? ⟨go26, (t176 : Int).toNat * 4 + 2, none⟩ = false := hfr26 2; have hf26_3 : w73.frozen? ⟨go26, (t176 : Int).toNat * 4 + 3, none⟩ = false := hfr26 3; (try clear hcl26); (try clear hcc26); (try clear hfr26); (try clear hM26); replace p26 := eq_true p26; replace q26 := eq_true q26) | ((with_reducible refine gate_callee (f := 104) rfl ?_); refine goesL_ (some 46) rfl rfl Try.func104 (by kernel_rfl) rfl #[.pointer (some ⟨g, 0, none⟩), .int .i64 24] rfl ln_ ?_; (with_reducible refine (spec_l00Src_pick.calls g s0_0 t177 t178 24 t179 t180 t181 w0 _ ?side1 ?side2 A27.out).mono ?_); (case side1 => exact isS135_a HI0); (case side2 => exact hz_ (IsS135.ge HI0.out)); rintro e w74 ⟨rfl, hi, hb, hk⟩; refine ⟨_, rfl, ?_⟩; have n0_ := ak_ (Kd.R_mono (Kd.R_keep (IsS135.apart (show IsS135 w0 _ g s0_0 t177 t178 from isS135_a HI0) (kr_ HO_3) (by decide)) hk (fun _ h => h.2)) (fun _ h => h.1)); have n1_ := ak_ (KeepBut.trans kb_ hk (.inl rfl)); have n2_ := ak_ (hb); have n3_ := ak_ (hi); clear HO_3 HK HB HI0; have HO_3 := n0_; have HK := n1_; have HB := n2_; have HI0 := n3_; clear n0_ n1_ n2_ n3_; clear hb hk hi))
          go_ret
          exact ⟨_, ew_, by (with_reducible repeat (first | apply Kd.R_alloc | apply Kd.R_drewN | apply Kd.R_drew)); exact HO_3.out, isS135_a HI0, hz_ (IsS135.ge HI0.out), kb_⟩
     ·rw [if_neg c25] at H
      exact absurd H (by simp)
    ·rw [if_neg c24] at H
     exact absurd H (by simp)

/-! ### spec_l21Find: function 113 -/
def spec_l21Find.l0 : Nat → List (S72) → ByteArray → Int → Option (Int)
 | 0, _, _, _ => none
 | k + 1, x0, x1, x5 => if x5 < (x0.length : Int) then (if 0 ≤ x5 then (if ((rd_T72 x0 x5).f0).toList = x1.toList then (some x5) else (spec_l21Find.l0 k x0 x1 (wrap64 (x5 + 1)))) else (none)) else (some (-1))
def spec_l21Find.f (k : Nat) (l0 : List (S72)) (a1 : ByteArray) : Option (Int) := spec_l21Find.l0 k l0 a1 0
set_option maxHeartbeats 8000000 in
set_option maxRecDepth 100000 in
theorem spec_l21Find.calls (k : Nat) (A0 : Option Addr) (c0 : Nat) (l0 : List (S72)) (a1 : ByteArray) (r : Int) (w : World) (hr0 : Kd.C k72 w A0 l0.length l0) (hc0 : l0.length ≤ c0) (h : spec_l21Find.f k l0 a1 = some r) :
  Calls Try.prog 113 #[.slice A0 l0.length c0, .string a1] w fun e w' => e = .returned (.int .i64 r) ∧ Drawn0 w w' := by
 have HR0 := ak_ hr0
 have HC0 := ak_ hc0
 clear hr0 hc0
 have H : (spec_l21Find.l0 k l0 a1 0) = some r := h
 clear h
 have H' := ak_ H
 clear H
 go_enter Try.func113, Try.ntmps113
 go_wp2
 go_loopg [5] k (fun kq v5 w' => ∃ (x5_1 : Int), v5 = .int .i64 x5_1 ∧ Aside0 (spec_l21Find.l0 kq l0 a1 x5_1 = some r) ∧ Aside0 (kq ≤ k) ∧ Drawn0 w w')
 case atStart => exact ⟨(0), fr_, H', ⟨Nat.le_refl _⟩, by repeat (first | exact Drawn0.refl _ | apply Drawn0.step)⟩
 case round =>
  clear H'
  try clear c1
  try clear p2
  obtain ⟨x5_1, rfl, HA, HK1, ⟨m1, rfl⟩⟩ := hrel
  cases gk with
  | zero => exact absurd HA.out (by simp [spec_l21Find.l0])
  | succ k1 =>
   have H := HA.out
   clear HA
   simp only [spec_l21Find.l0] at H
   by_cases c3 : x5_1 < (l0.length : Int)
   ·rw [if_pos c3] at H
    have c3b0 : decide (x5_1 < (l0.length : Int)) = true := dt_ c3
    clear c3
    by_cases c4 : 0 ≤ x5_1
    ·rw [if_pos c4] at H
     have c4b0 : decide (0 ≤ x5_1) = true := dt_ c4
     clear c4
     by_cases c5 : ((rd_T72 l0 x5_1).f0).toList = a1.toList
     ·rw [if_pos c5] at H
      have c5b0 : (((rd_T72 l0 x5_1).f0).toList == a1.toList) = true := beq_iff_eq.mpr c5
      have c5b1 : (((rd_T72 l0 x5_1).f0).toList != a1.toList) = false := bne_eq_false_iff_eq.mpr c5
      clear c5
      obtain rfl := Option.some.inj H
      have p210 : 0 ≤ (x5_1 : Int) := od_
      have q210 : x5_1 < (l0.length : Int) := od_
      obtain ⟨ad210, e210, hx210_0, hx210_1, hx210_2, hx210_3⟩ := at_T72 HR0.out x5_1 p210 q210
      cases e210
      replace p210 := eq_true p210
      replace q210 := eq_true q210
      go_wp2
      go_ret
      exact ⟨by first | rfl | (simp; done) | (simp [*]; done), by repeat (first | exact Drawn0.refl _ | apply Drawn0.step)⟩
     ·rw [if_neg c5] at H
      have c5b0 : (((rd_T72 l0 x5_1).f0).toList == a1.toList) = false := beq_eq_false_iff_ne.mpr c5
      have c5b1 : (((rd_T72 l0 x5_1).f0).toList != a1.toList) = true := bne_iff_ne.mpr c5
      have H' := ak_ H
      clear H
      have p210 : 0 ≤ (x5_1 : Int) := od_
      have q210 : x5_1 < (l0.length : Int) := od_
      obtain ⟨ad210, e210, hx210_0, hx210_1, hx210_2, hx210_3⟩ := at_T72 HR0.out x5_1 p210 q210
      cases e210
      replace p210 := eq_true p210
      replace q210 := eq_true q210
      go_wp2
      go_roundg k1
      case measure => have := HK1.out; omega
      case rel => exact ⟨(wrap64 (x5_1 + 1)), fr_, H', ⟨by have := HK1.out; omega⟩, by repeat (first | exact Drawn0.refl _ | apply Drawn0.step)⟩
    ·rw [if_neg c4] at H
     exact absurd H (by simp)
   ·rw [if_neg c3] at H
    have c3b0 : decide (x5_1 < (l0.length : Int)) = false := decide_eq_false c3
    clear c3
    obtain rfl := Option.some.inj H
    go_wp2
    go_ret
    exact ⟨by first | rfl | (simp; done) | (simp [*]; done), by repeat (first | exact Drawn0.refl _ | apply Drawn0.step)⟩

/-! ### spec_l00In: function 112 -/
def spec_l00In.f (a0 : Int) (a1 : Int) (a2 : Int) : Option (Bool) := if a0 ≥ a1 then (some (decide (a0 ≤ a2))) else (some false)
set_option maxHeartbeats 8000000 in
set_option maxRecDepth 100000 in
theorem spec_l00In.calls (a0 : Int) (a1 : Int) (a2 : Int) (r : Bool) (w : World) (h : spec_l00In.f a0 a1 a2 = some r) :
  Calls Try.prog 112 #[.int .i64 a0, .int .i64 a1, .int .i64 a2] w fun e w' => e = .returned (.bool r) ∧ Drawn0 w w' := by
 have H : (if a0 ≥ a1 then (some (decide (a0 ≤ a2))) else (some false)) = some r := h
 clear h
 by_cases c4 : a0 ≥ a1
 ·rw [if_pos c4] at H
  have c4b0 : decide (a1 ≤ a0) = true := dt_ c4
  clear c4
  obtain rfl := Option.some.inj H
  go_enter Try.func112, Try.ntmps112
  go_wp2
  go_ret
  exact ⟨by first | rfl | (simp; done) | (simp [*]; done), by repeat (first | exact Drawn0.refl _ | apply Drawn0.step)⟩
 ·rw [if_neg c4] at H
  have c4b0 : decide (a1 ≤ a0) = false := decide_eq_false c4
  clear c4
  obtain rfl := Option.some.inj H
  go_enter Try.func112, Try.ntmps112
  go_wp2
  go_ret
  exact ⟨by first | rfl | (simp; done) | (simp [*]; done), by repeat (first | exact Drawn0.refl _ | apply Drawn0.step)⟩

/-! ### spec_l21Day: function 80 -/
def spec_l21Day.f (a0 : Int) : Option (Bool) := (spec_l00In.f a0 0 20000).bind fun t211 => (some t211)
set_option maxHeartbeats 8000000 in
set_option maxRecDepth 100000 in
theorem spec_l21Day.calls (a0 : Int) (r : Bool) (w : World) (h : spec_l21Day.f a0 = some r) :
  Calls Try.prog 80 #[.int .i64 a0] w fun e w' => e = .returned (.bool r) ∧ Drawn0 w w' := by
 have H : ((spec_l00In.f a0 0 20000).bind fun t211 => (some t211)) = some r := h
 clear h
 replace H := ob_ H
 obtain ⟨t211, A20, H⟩ := H
 replace H : (some t211) = some r := H
 have A2 := ak_ A20
 clear A20
 obtain rfl := Option.some.inj H
 go_enter Try.func80, Try.ntmps80
 go_wp2_with (first | ((with_reducible refine gate_callee (f := 112) rfl ?_); refine goesL_ (some 4) rfl rfl Try.func112 (by kernel_rfl) rfl #[.int .i64 a0, .int .i64 0, .int .i64 20000] rfl ln_ ?_; (with_reducible refine (spec_l00In.calls a0 0 20000 t211 _ A2.out).mono ?_); rintro e w' ⟨rfl, ⟨nd, rfl⟩⟩; refine ⟨_, rfl, ?_⟩))
 go_ret
 exact ⟨by first | rfl | (simp; done) | (simp [*]; done), by repeat (first | exact Drawn0.refl _ | apply Drawn0.step)⟩

/-! ### spec_l01Small: function 132 -/
def spec_l01Small.f (a0 : Int) : Option (Bool) := if a0 ≥ 97 then (some (decide (a0 ≤ 122))) else (some false)
set_option maxHeartbeats 8000000 in
set_option maxRecDepth 100000 in
theorem spec_l01Small.calls (a0 : Int) (r : Bool) (w : World) (h : spec_l01Small.f a0 = some r) :
  Calls Try.prog 132 #[.int .u8 a0] w fun e w' => e = .returned (.bool r) ∧ Drawn0 w w' := by
 have H : (if a0 ≥ 97 then (some (decide (a0 ≤ 122))) else (some false)) = some r := h
 clear h
 by_cases c2 : a0 ≥ 97
 ·rw [if_pos c2] at H
  have c2b0 : decide (97 ≤ a0) = true := dt_ c2
  clear c2
  obtain rfl := Option.some.inj H
  go_enter Try.func132, Try.ntmps132
  go_wp2
  go_ret
  exact ⟨by first | rfl | (simp; done) | (simp [*]; done), by repeat (first | exact Drawn0.refl _ | apply Drawn0.step)⟩
 ·rw [if_neg c2] at H
  have c2b0 : decide (97 ≤ a0) = false := decide_eq_false c2
  clear c2
  obtain rfl := Option.some.inj H
  go_enter Try.func132, Try.ntmps132
  go_wp2
  go_ret
  exact ⟨by first | rfl | (simp; done) | (simp [*]; done), by repeat (first | exact Drawn0.refl _ | apply Drawn0.step)⟩

/-! ### spec_l01Digit: function 133 -/
def spec_l01Digit.f (a0 : Int) : Option (Bool) := if a0 ≥ 48 then (some (decide (a0 ≤ 57))) else (some false)
set_option maxHeartbeats 8000000 in
set_option maxRecDepth 100000 in
theorem spec_l01Digit.calls (a0 : Int) (r : Bool) (w : World) (h : spec_l01Digit.f a0 = some r) :
  Calls Try.prog 133 #[.int .u8 a0] w fun e w' => e = .returned (.bool r) ∧ Drawn0 w w' := by
 have H : (if a0 ≥ 48 then (some (decide (a0 ≤ 57))) else (some false)) = some r := h
 clear h
 by_cases c2 : a0 ≥ 48
 ·rw [if_pos c2] at H
  have c2b0 : decide (48 ≤ a0) = true := dt_ c2
  clear c2
  obtain rfl := Option.some.inj H
  go_enter Try.func133, Try.ntmps133
  go_wp2
  go_ret
  exact ⟨by first | rfl | (simp; done) | (simp [*]; done), by repeat (first | exact Drawn0.refl _ | apply Drawn0.step)⟩
 ·rw [if_neg c2] at H
  have c2b0 : decide (48 ≤ a0) = false := decide_eq_false c2
  clear c2
  obtain rfl := Option.some.inj H
  go_enter Try.func133, Try.ntmps133
  go_wp2
  go_ret
  exact ⟨by first | rfl | (simp; done) | (simp [*]; done), by repeat (first | exact Drawn0.refl _ | apply Drawn0.step)⟩

/-! ### spec_IsName: function 123 -/
mutual
def spec_IsName.j0 : Nat → ByteArray → Bool → Option (Bool)
 | 0, _, _ => none
 | k + 1, x0, x16 => if x16 = true then (some false) else (spec_IsName.l0 k x0 0)
def spec_IsName.l0 : Nat → ByteArray → Int → Option (Bool)
 | 0, _, _ => none
 | k + 1, x0, x3 => if x3 < (x0.size : Int) then (if 0 ≤ x3 then ((spec_l01Small.f (bt x0 x3)).bind fun t213 => (if t213 = true then (spec_IsName.l0 k x0 (wrap64 (x3 + 1))) else ((spec_l01Digit.f (bt x0 x3)).bind fun t214 => (if t214 = true then (spec_IsName.l0 k x0 (wrap64 (x3 + 1))) else (if (bt x0 x3) = 45 then (spec_IsName.l0 k x0 (wrap64 (x3 + 1))) else (some false)))))) else (none)) else (some true)
end
def spec_IsName.f (k : Nat) (a0 : ByteArray) : Option (Bool) := if a0.toList = ([] : List UInt8) then (spec_IsName.j0 k a0 true) else (if (a0.size : Int) > 12 then (spec_IsName.j0 k a0 true) else (if 0 < (a0.size : Int) then ((spec_l01Small.f (bt a0 0)).bind fun t212 => (spec_IsName.j0 k a0 (!t212))) else (none)))
set_option maxHeartbeats 8000000 in
set_option maxRecDepth 100000 in
theorem spec_IsName.calls (k : Nat) (a0 : ByteArray) (r : Bool) (w : World) (h : spec_IsName.f k a0 = some r) :
  Calls Try.prog 123 #[.string a0] w fun e w' => e = .returned (.bool r) ∧ Drawn0 w w' := by
 have H : (if a0.toList = ([] : List UInt8) then (spec_IsName.j0 k a0 true) else (if (a0.size : Int) > 12 then (spec_IsName.j0 k a0 true) else (if 0 < (a0.size : Int) then ((spec_l01Small.f (bt a0 0)).bind fun t212 => (spec_IsName.j0 k a0 (!t212))) else (none)))) = some r := h
 clear h
 have HC2 := ak_ H
 clear H
 go_enter Try.func123, Try.ntmps123
 go_upto_region 1 with (fail)
 go_cut [16] (fun v16 wc => ∃ (kq : Nat) (x16_1 : Bool), v16 = .bool x16_1 ∧ Aside0 (spec_IsName.j0 kq a0 x16_1 = some r) ∧ Aside0 (kq ≤ k) ∧ Drawn0 w wc)
 case first =>
  have H := HC2.out
  clear HC2
  by_cases c3 : a0.toList = ([] : List UInt8)
  ·rw [if_pos c3] at H
   have c3b0 : (a0.toList == ([] : List UInt8)) = true := beq_iff_eq.mpr c3
   have c3b1 : (a0.toList != ([] : List UInt8)) = false := bne_eq_false_iff_eq.mpr c3
   clear c3
   (first | rw [c3b0] | (simp only [i64_w, i32_w]; rw [c3b0]) | skip)
   have H' := ak_ H
   clear H
   go_wp2
   go_meet
   case rel => exact ⟨_, (true), fr_, H', ⟨by first | omega | exact Nat.le_refl _⟩, by repeat (first | exact Drawn0.refl _ | apply Drawn0.step)⟩
  ·rw [if_neg c3] at H
   have c3b0 : (a0.toList == ([] : List UInt8)) = false := beq_eq_false_iff_ne.mpr c3
   have c3b1 : (a0.toList != ([] : List UInt8)) = true := bne_iff_ne.mpr c3
   (first | rw [c3b0] | (simp only [i64_w, i32_w]; rw [c3b0]) | skip)
   by_cases c4 : (a0.size : Int) > 12
   ·rw [if_pos c4] at H
    have c4b0 : decide (12 < (a0.size : Int)) = true := dt_ c4
    have c4b1 : decide (12 < a0.size) = true := dt_ (by omega)
    clear c4
    have H' := ak_ H
    clear H
    go_wp2
    go_meet
    case rel => exact ⟨_, (true), fr_, H', ⟨by first | omega | exact Nat.le_refl _⟩, by repeat (first | exact Drawn0.refl _ | apply Drawn0.step)⟩
   ·rw [if_neg c4] at H
    have c4b0 : decide (12 < (a0.size : Int)) = false := decide_eq_false c4
    have c4b1 : decide (12 < a0.size) = false := decide_eq_false (by omega)
    clear c4
    by_cases c5 : 0 < (a0.size : Int)
    ·rw [if_pos c5] at H
     have c5b0 : decide (0 < (a0.size : Int)) = true := dt_ c5
     have c5b1 : decide (0 < a0.size) = true := dt_ (by omega)
     clear c5
     replace H := ob_ H
     obtain ⟨t212, A70, H⟩ := H
     replace H : (spec_IsName.j0 k a0 (!t212)) = some r := H
     have A7 := ak_ A70
     clear A70
     have H' := ak_ H
     clear H
     have p6 : 0 ≤ (0 : Int) := (by omega)
     have q6 : 0 < a0.size := (by have : (0 : Int) < (a0.size : Int) := od_; omega)
     have hx6 : ∀ h : 0 < a0.size, ((a0[0]'h).toNat : Int) = bt a0 0 := bt_at a0 0
     clear p6
     have qi6 : (0 < (a0.size : Int)) = True := eq_true (od_)
     replace q6 := eq_true q6
     go_wp2_with (first | (go_at_call 132; (with_reducible refine (spec_l01Small.calls (bt a0 0) t212 _ A7.out).mono ?_); rintro e w' ⟨rfl, ⟨nd, rfl⟩⟩))
     go_meet
     case rel => exact ⟨_, (!t212), fr_, H', ⟨by first | omega | exact Nat.le_refl _⟩, by repeat (first | exact Drawn0.refl _ | apply Drawn0.step)⟩
    ·rw [if_neg c5] at H
     exact absurd H (by simp)
 case rest =>
  clear HC2
  try clear c1
  try clear p2
  try clear c3
  try clear c3b0
  try clear c3b1
  try clear c4
  try clear c4b0
  try clear c4b1
  try clear c5
  try clear c5b0
  try clear c5b1
  try clear p6
  try clear q6
  try clear hx6
  try clear qi6
  try clear p6
  try clear q6
  obtain ⟨kq, x16_1, rfl, HA, HJ1, ⟨mc1, rfl⟩⟩ := hcut
  cases kq with
  | zero => exact absurd HA.out (by simp [spec_IsName.j0])
  | succ kj1 =>
   have H := HA.out
   clear HA
   simp only [spec_IsName.j0] at H
   by_cases c8 : x16_1 = true
   ·subst c8
    have H1 : (some false) = some r := by rw [if_pos rfl] at H; exact H
    clear H
    have H := H1
    clear H1
    obtain rfl := Option.some.inj H
    go_wp2
    go_ret
    exact ⟨by first | rfl | (simp; done) | (simp [*]; done), by repeat (first | exact Drawn0.refl _ | apply Drawn0.step)⟩
   ·replace c8 := Bool.eq_false_iff.mpr c8
    subst c8
    have H1 : (spec_IsName.l0 kj1 a0 0) = some r := by rw [if_neg (show ¬ (false = true) by decide)] at H; exact H
    clear H
    have H := H1
    clear H1
    have H' := ak_ H
    clear H
    go_wp2
    go_loopg [3] kj1 (fun kq v3 w' => ∃ (x3_2 : Int), v3 = .int .i64 x3_2 ∧ Aside0 (spec_IsName.l0 kq a0 x3_2 = some r) ∧ Aside0 (kq ≤ kj1) ∧ Drawn0 w w')
    case atStart => exact ⟨(0), fr_, H', ⟨Nat.le_refl _⟩, by repeat (first | exact Drawn0.refl _ | apply Drawn0.step)⟩
    case round =>
     clear H'
     try clear c1
     try clear p2
     try clear c3
     try clear c3b0
     try clear c3b1
     try clear c4
     try clear c4b0
     try clear c4b1
     try clear c5
     try clear c5b0
     try clear c5b1
     try clear p6
     try clear q6
     try clear hx6
     try clear qi6
     try clear c8
     try clear p2
     try clear p6
     try clear q6
     obtain ⟨x3_2, rfl, HA, HK2, ⟨m2, rfl⟩⟩ := hrel
     cases gk with
     | zero => exact absurd HA.out (by simp [spec_IsName.l0])
     | succ k2 =>
      have H := HA.out
      clear HA
      simp only [spec_IsName.l0] at H
      by_cases c9 : x3_2 < (a0.size : Int)
      ·rw [if_pos c9] at H
       have c9b0 : decide (x3_2 < (a0.size : Int)) = true := dt_ c9
       clear c9
       by_cases c10 : 0 ≤ x3_2
       ·rw [if_pos c10] at H
        have c10b0 : decide (0 ≤ x3_2) = true := dt_ c10
        clear c10
        replace H := ob_ H
        obtain ⟨t213, A120, H⟩ := H
        replace H : (if t213 = true then (spec_IsName.l0 k2 a0 (wrap64 (x3_2 + 1))) else ((spec_l01Digit.f (bt a0 x3_2)).bind fun t214 => (if t214 = true then (spec_IsName.l0 k2 a0 (wrap64 (x3_2 + 1))) else (if (bt a0 x3_2) = 45 then (spec_IsName.l0 k2 a0 (wrap64 (x3_2 + 1))) else (some false))))) = some r := H
        have A12 := ak_ A120
        clear A120
        by_cases c13 : t213 = true
        ·subst c13
         have H1 : (spec_IsName.l0 k2 a0 (wrap64 (x3_2 + 1))) = some r := by rw [if_pos rfl] at H; exact H
         clear H
         have H := H1
         clear H1
         have H' := ak_ H
         clear H
         have p11 : 0 ≤ (x3_2 : Int) := od_
         have q11 : x3_2 < (a0.size : Int) := od_
         have hx11 := bt_at a0 x3_2
         replace p11 := eq_true p11
         replace q11 := eq_true q11
         go_wp2_with (first | ((with_reducible refine gate_callee (f := 132) rfl ?_); refine goesL_ (some 26) rfl rfl Try.func132 (by kernel_rfl) rfl #[.int .u8 (bt a0 x3_2)] rfl ln_ ?_; (with_reducible refine (spec_l01Small.calls (bt a0 x3_2) true _ A12.out).mono ?_); rintro e w' ⟨rfl, ⟨nd, rfl⟩⟩; refine ⟨_, rfl, ?_⟩))
         go_roundg k2
         case measure => have := HJ1.out; have := HK2.out; omega
         case rel => exact ⟨(wrap64 (x3_2 + 1)), fr_, H', ⟨by have := HJ1.out; have := HK2.out; omega⟩, by repeat (first | exact Drawn0.refl _ | apply Drawn0.step)⟩
        ·replace c13 := Bool.eq_false_iff.mpr c13
         subst c13
         have H1 : ((spec_l01Digit.f (bt a0 x3_2)).bind fun t214 => (if t214 = true then (spec_IsName.l0 k2 a0 (wrap64 (x3_2 + 1))) else (if (bt a0 x3_2) = 45 then (spec_IsName.l0 k2 a0 (wrap64 (x3_2 + 1))) else (some false)))) = some r := by rw [if_neg (show ¬ (false = true) by decide)] at H; exact H
         clear H
         have H := H1
         clear H1
         replace H := ob_ H
         obtain ⟨t214, A150, H⟩ := H
         replace H : (if t214 = true then (spec_IsName.l0 k2 a0 (wrap64 (x3_2 + 1))) else (if (bt a0 x3_2) = 45 then (spec_IsName.l0 k2 a0 (wrap64 (x3_2 + 1))) else (some false))) = some r := H
         have A15 := ak_ A150
         clear A150
         by_cases c16 : t214 = true
         ·subst c16
          have H1 : (spec_IsName.l0 k2 a0 (wrap64 (x3_2 + 1))) = some r := by rw [if_pos rfl] at H; exact H
          clear H
          have H := H1
          clear H1
          have H' := ak_ H
          clear H
          have p11 : 0 ≤ (x3_2 : Int) := od_
          have q11 : x3_2 < (a0.size : Int) := od_
          have hx11 := bt_at a0 x3_2
          replace p11 := eq_true p11
          replace q11 := eq_true q11
          go_wp2_with (first | ((with_reducible refine gate_callee (f := 132) rfl ?_); refine goesL_ (some 26) rfl rfl Try.func132 (by kernel_rfl) rfl #[.int .u8 (bt a0 x3_2)] rfl ln_ ?_; (with_reducible refine (spec_l01Small.calls (bt a0 x3_2) false _ A12.out).mono ?_); rintro e w' ⟨rfl, ⟨nd, rfl⟩⟩; refine ⟨_, rfl, ?_⟩; have p14 : 0 ≤ (x3_2 : Int) := od_; have q14 : x3_2 < (a0.size : Int) := od_; have hx14 := bt_at a0 x3_2; replace p14 := eq_true p14; replace q14 := eq_true q14) | (go_at_call 133; (with_reducible refine (spec_l01Digit.calls (bt a0 x3_2) true _ A15.out).mono ?_); rintro e w' ⟨rfl, ⟨nd, rfl⟩⟩))
          go_roundg k2
          case measure => have := HJ1.out; have := HK2.out; omega
          case rel => exact ⟨(wrap64 (x3_2 + 1)), fr_, H', ⟨by have := HJ1.out; have := HK2.out; omega⟩, by repeat (first | exact Drawn0.refl _ | apply Drawn0.step)⟩
         ·replace c16 := Bool.eq_false_iff.mpr c16
          subst c16
          have H1 : (if (bt a0 x3_2) = 45 then (spec_IsName.l0 k2 a0 (wrap64 (x3_2 + 1))) else (some false)) = some r := by rw [if_neg (show ¬ (false = true) by decide)] at H; exact H
          clear H
          have H := H1
          clear H1
          by_cases c18 : (bt a0 x3_2) = 45
          ·rw [if_pos c18] at H
           have c18b0 : ((bt a0 x3_2) == 45) = true := beq_iff_eq.mpr c18
           have c18b1 : ((bt a0 x3_2) != 45) = false := bne_eq_false_iff_eq.mpr c18
           clear c18
           have H' := ak_ H
           clear H
           have p11 : 0 ≤ (x3_2 : Int) := od_
           have q11 : x3_2 < (a0.size : Int) := od_
           have hx11 := bt_at a0 x3_2
           replace p11 := eq_true p11
           replace q11 := eq_true q11
           go_wp2_with (first | ((with_reducible refine gate_callee (f := 132) rfl ?_); refine goesL_ (some 26) rfl rfl Try.func132 (by kernel_rfl) rfl #[.int .u8 (bt a0 x3_2)] rfl ln_ ?_; (with_reducible refine (spec_l01Small.calls (bt a0 x3_2) false _ A12.out).mono ?_); rintro e w' ⟨rfl, ⟨nd, rfl⟩⟩; refine ⟨_, rfl, ?_⟩; have p14 : 0 ≤ (x3_2 : Int) := od_; have q14 : x3_2 < (a0.size : Int) := od_; have hx14 := bt_at a0 x3_2; replace p14 := eq_true p14; replace q14 := eq_true q14) | (go_at_call 133; (with_reducible refine (spec_l01Digit.calls (bt a0 x3_2) false _ A15.out).mono ?_); rintro e w' ⟨rfl, ⟨nd, rfl⟩⟩; have p17 : 0 ≤ (x3_2 : Int) := od_; have q17 : x3_2 < (a0.size : Int) := od_; have hx17 := bt_at a0 x3_2; replace p17 := eq_true p17; replace q17 := eq_true q17))
           go_roundg k2
           case measure => have := HJ1.out; have := HK2.out; omega
           case rel => exact ⟨(wrap64 (x3_2 + 1)), fr_, H', ⟨by have := HJ1.out; have := HK2.out; omega⟩, by repeat (first | exact Drawn0.refl _ | apply Drawn0.step)⟩
          ·rw [if_neg c18] at H
           have c18b0 : ((bt a0 x3_2) == 45) = false := beq_eq_false_iff_ne.mpr c18
           have c18b1 : ((bt a0 x3_2) != 45) = true := bne_iff_ne.mpr c18
           obtain rfl := Option.some.inj H
           have p11 : 0 ≤ (x3_2 : Int) := od_
           have q11 : x3_2 < (a0.size : Int) := od_
           have hx11 := bt_at a0 x3_2
           replace p11 := eq_true p11
           replace q11 := eq_true q11
           go_wp2_with (first | ((with_reducible refine gate_callee (f := 132) rfl ?_); refine goesL_ (some 26) rfl rfl Try.func132 (by kernel_rfl) rfl #[.int .u8 (bt a0 x3_2)] rfl ln_ ?_; (with_reducible refine (spec_l01Small.calls (bt a0 x3_2) false _ A12.out).mono ?_); rintro e w' ⟨rfl, ⟨nd, rfl⟩⟩; refine ⟨_, rfl, ?_⟩; have p14 : 0 ≤ (x3_2 : Int) := od_; have q14 : x3_2 < (a0.size : Int) := od_; have hx14 := bt_at a0 x3_2; replace p14 := eq_true p14; replace q14 := eq_true q14) | (go_at_call 133; (with_reducible refine (spec_l01Digit.calls (bt a0 x3_2) false _ A15.out).mono ?_); rintro e w' ⟨rfl, ⟨nd, rfl⟩⟩; have p17 : 0 ≤ (x3_2 : Int) := od_; have q17 : x3_2 < (a0.size : Int) := od_; have hx17 := bt_at a0 x3_2; replace p17 := eq_true p17; replace q17 := eq_true q17))
           go_ret
           exact ⟨by first | rfl | (simp; done) | (simp [*]; done), by repeat (first | exact Drawn0.refl _ | apply Drawn0.step)⟩
       ·rw [if_neg c10] at H
        exact absurd H (by simp)
      ·rw [if_neg c9] at H
       have c9b0 : decide (x3_2 < (a0.size : Int)) = false := decide_eq_false c9
       clear c9
       obtain rfl := Option.some.inj H
       go_wp2
       go_ret
       exact ⟨by first | rfl | (simp; done) | (simp [*]; done), by repeat (first | exact Drawn0.refl _ | apply Drawn0.step)⟩

/-! ### spec_l21One: function 116 -/
def spec_l21One.f (k : Nat) (s0_0 : ByteArray) (s0_1 : Int) (s0_2 : Int) (s0_3 : Int) : Option (Bool) := (spec_IsName.f k s0_0).bind fun t215 => (if t215 = true then ((spec_l21Day.f s0_1).bind fun t216 => (if t216 = true then ((spec_l00In.f s0_2 0 1000).bind fun t217 => (if t217 = true then ((spec_l00In.f s0_3 1 1000000).bind fun t218 => (some t218)) else (some false))) else (some false))) else (some false))
set_option maxHeartbeats 8000000 in
set_option maxRecDepth 100000 in
theorem spec_l21One.calls0 (k : Nat) (g o : Nat) (z : Option Nat) (s0_0 : ByteArray) (s0_1 : Int) (s0_2 : Int) (s0_3 : Int) (r : Bool) (w0 w : World) (hI : IsE72 w0 w g o z s0_0 s0_1 s0_2 s0_3) (hB : Below w0.heap.size w0 w) (h : spec_l21One.f k s0_0 s0_1 s0_2 s0_3 = some r) :
  Calls Try.prog 116 #[.pointer (some ⟨g, o, z⟩)] w fun e w' => e = .returned (.bool r) ∧ IsE72 w0 w' g o z s0_0 s0_1 s0_2 s0_3 ∧ Below w0.heap.size w0 w' ∧ KeepBut w w' w.heap.size none := by
 have HI0 := ak_ hI
 have HK := ak_ (KeepBut.refl w w.heap.size none)
 have HL := ak_ hB.size
 clear hI
 have HW0 := ak_ hB.size
 have HB := ak_ hB
 clear hB
 have H : ((spec_IsName.f k s0_0).bind fun t215 => (if t215 = true then ((spec_l21Day.f s0_1).bind fun t216 => (if t216 = true then ((spec_l00In.f s0_2 0 1000).bind fun t217 => (if t217 = true then ((spec_l00In.f s0_3 1 1000000).bind fun t218 => (some t218)) else (some false))) else (some false))) else (some false))) = some r := h
 clear h
 replace H := ob_ H
 obtain ⟨t215, A20, H⟩ := H
 replace H : (if t215 = true then ((spec_l21Day.f s0_1).bind fun t216 => (if t216 = true then ((spec_l00In.f s0_2 0 1000).bind fun t217 => (if t217 = true then ((spec_l00In.f s0_3 1 1000000).bind fun t218 => (some t218)) else (some false))) else (some false))) else (some false)) = some r := H
 have A2 := ak_ A20
 clear A20
 by_cases c3 : t215 = true
 ·subst c3
  have H1 : ((spec_l21Day.f s0_1).bind fun t216 => (if t216 = true then ((spec_l00In.f s0_2 0 1000).bind fun t217 => (if t217 = true then ((spec_l00In.f s0_3 1 1000000).bind fun t218 => (some t218)) else (some false))) else (some false))) = some r := by rw [if_pos rfl] at H; exact H
  clear H
  have H := H1
  clear H1
  replace H := ob_ H
  obtain ⟨t216, A40, H⟩ := H
  replace H : (if t216 = true then ((spec_l00In.f s0_2 0 1000).bind fun t217 => (if t217 = true then ((spec_l00In.f s0_3 1 1000000).bind fun t218 => (some t218)) else (some false))) else (some false)) = some r := H
  have A4 := ak_ A40
  clear A40
  by_cases c5 : t216 = true
  ·subst c5
   have H1 : ((spec_l00In.f s0_2 0 1000).bind fun t217 => (if t217 = true then ((spec_l00In.f s0_3 1 1000000).bind fun t218 => (some t218)) else (some false))) = some r := by rw [if_pos rfl] at H; exact H
   clear H
   have H := H1
   clear H1
   replace H := ob_ H
   obtain ⟨t217, A60, H⟩ := H
   replace H : (if t217 = true then ((spec_l00In.f s0_3 1 1000000).bind fun t218 => (some t218)) else (some false)) = some r := H
   have A6 := ak_ A60
   clear A60
   by_cases c7 : t217 = true
   ·subst c7
    have H1 : ((spec_l00In.f s0_3 1 1000000).bind fun t218 => (some t218)) = some r := by rw [if_pos rfl] at H; exact H
    clear H
    have H := H1
    clear H1
    replace H := ob_ H
    obtain ⟨t218, A80, H⟩ := H
    replace H : (some t218) = some r := H
    have A8 := ak_ A80
    clear A80
    obtain rfl := Option.some.inj H
    obtain ⟨HGz9, hgz9⟩ := HI0.out
    have hcz9_0 := cellE72_0 HGz9
    have hcz9_1 := cellE72_1 HGz9
    have hcz9_2 := cellE72_2 HGz9
    have hcz9_3 := cellE72_3 HGz9
    clear HGz9 hgz9
    go_enter Try.func116, Try.ntmps116
    go_wp2_with (first | ((with_reducible refine gate_callee (f := 123) rfl ?_); refine goesL_ (some 7) rfl rfl Try.func123 (by kernel_rfl) rfl #[.string s0_0] rfl ln_ ?_; (with_reducible refine (spec_IsName.calls k s0_0 true _ A2.out).mono ?_); rintro e w' ⟨rfl, ⟨nd, rfl⟩⟩; refine ⟨_, rfl, ?_⟩) | (go_at_call 80; (with_reducible refine (spec_l21Day.calls s0_1 true _ A4.out).mono ?_); rintro e w' ⟨rfl, ⟨nd, rfl⟩⟩) | (go_at_call 112; (with_reducible refine (spec_l00In.calls s0_2 0 1000 true _ A6.out).mono ?_); rintro e w' ⟨rfl, ⟨nd, rfl⟩⟩) | (go_at_call 112; (with_reducible refine (spec_l00In.calls s0_3 1 1000000 t218 _ A8.out).mono ?_); rintro e w' ⟨rfl, ⟨nd, rfl⟩⟩))
    go_ret
    exact ⟨ew_, isE72_a HI0, hb_, by repeat (first | (with_reducible first | exact HK.out | apply keep_drewN | apply keep_drew | apply keep_alloc) | exact HK.out)⟩
   ·replace c7 := Bool.eq_false_iff.mpr c7
    subst c7
    have H1 : (some false) = some r := by rw [if_neg (show ¬ (false = true) by decide)] at H; exact H
    clear H
    have H := H1
    clear H1
    obtain rfl := Option.some.inj H
    obtain ⟨HGz10, hgz10⟩ := HI0.out
    have hcz10_0 := cellE72_0 HGz10
    have hcz10_1 := cellE72_1 HGz10
    have hcz10_2 := cellE72_2 HGz10
    have hcz10_3 := cellE72_3 HGz10
    clear HGz10 hgz10
    go_enter Try.func116, Try.ntmps116
    go_wp2_with (first | ((with_reducible refine gate_callee (f := 123) rfl ?_); refine goesL_ (some 7) rfl rfl Try.func123 (by kernel_rfl) rfl #[.string s0_0] rfl ln_ ?_; (with_reducible refine (spec_IsName.calls k s0_0 true _ A2.out).mono ?_); rintro e w' ⟨rfl, ⟨nd, rfl⟩⟩; refine ⟨_, rfl, ?_⟩) | (go_at_call 80; (with_reducible refine (spec_l21Day.calls s0_1 true _ A4.out).mono ?_); rintro e w' ⟨rfl, ⟨nd, rfl⟩⟩) | (go_at_call 112; (with_reducible refine (spec_l00In.calls s0_2 0 1000 false _ A6.out).mono ?_); rintro e w' ⟨rfl, ⟨nd, rfl⟩⟩))
    go_ret
    exact ⟨ew_, isE72_a HI0, hb_, by repeat (first | (with_reducible first | exact HK.out | apply keep_drewN | apply keep_drew | apply keep_alloc) | exact HK.out)⟩
  ·replace c5 := Bool.eq_false_iff.mpr c5
   subst c5
   have H1 : (some false) = some r := by rw [if_neg (show ¬ (false = true) by decide)] at H; exact H
   clear H
   have H := H1
   clear H1
   obtain rfl := Option.some.inj H
   obtain ⟨HGz11, hgz11⟩ := HI0.out
   have hcz11_0 := cellE72_0 HGz11
   have hcz11_1 := cellE72_1 HGz11
   have hcz11_2 := cellE72_2 HGz11
   have hcz11_3 := cellE72_3 HGz11
   clear HGz11 hgz11
   go_enter Try.func116, Try.ntmps116
   go_wp2_with (first | ((with_reducible refine gate_callee (f := 123) rfl ?_); refine goesL_ (some 7) rfl rfl Try.func123 (by kernel_rfl) rfl #[.string s0_0] rfl ln_ ?_; (with_reducible refine (spec_IsName.calls k s0_0 true _ A2.out).mono ?_); rintro e w' ⟨rfl, ⟨nd, rfl⟩⟩; refine ⟨_, rfl, ?_⟩) | (go_at_call 80; (with_reducible refine (spec_l21Day.calls s0_1 false _ A4.out).mono ?_); rintro e w' ⟨rfl, ⟨nd, rfl⟩⟩))
   go_ret
   exact ⟨ew_, isE72_a HI0, hb_, by repeat (first | (with_reducible first | exact HK.out | apply keep_drewN | apply keep_drew | apply keep_alloc) | exact HK.out)⟩
 ·replace c3 := Bool.eq_false_iff.mpr c3
  subst c3
  have H1 : (some false) = some r := by rw [if_neg (show ¬ (false = true) by decide)] at H; exact H
  clear H
  have H := H1
  clear H1
  obtain rfl := Option.some.inj H
  obtain ⟨HGz12, hgz12⟩ := HI0.out
  have hcz12_0 := cellE72_0 HGz12
  have hcz12_1 := cellE72_1 HGz12
  have hcz12_2 := cellE72_2 HGz12
  have hcz12_3 := cellE72_3 HGz12
  clear HGz12 hgz12
  go_enter Try.func116, Try.ntmps116
  go_wp2_with (first | ((with_reducible refine gate_callee (f := 123) rfl ?_); refine goesL_ (some 7) rfl rfl Try.func123 (by kernel_rfl) rfl #[.string s0_0] rfl ln_ ?_; (with_reducible refine (spec_IsName.calls k s0_0 false _ A2.out).mono ?_); rintro e w' ⟨rfl, ⟨nd, rfl⟩⟩; refine ⟨_, rfl, ?_⟩))
  go_ret
  exact ⟨ew_, isE72_a HI0, hb_, by repeat (first | (with_reducible first | exact HK.out | apply keep_drewN | apply keep_drew | apply keep_alloc) | exact HK.out)⟩
theorem spec_l21One.calls (k : Nat) (g : Addr) (s0_0 : ByteArray) (s0_1 : Int) (s0_2 : Int) (s0_3 : Int) (r : Bool) (w : World) (he0 : w.cell? g = some (.string s0_0)) (he1 : w.cell? ⟨g.block, g.off + 1, none⟩ = some (.int .i64 s0_1)) (he2 : w.cell? ⟨g.block, g.off + 2, none⟩ = some (.int .i64 s0_2)) (he3 : w.cell? ⟨g.block, g.off + 3, none⟩ = some (.int .i64 s0_3)) (h : spec_l21One.f k s0_0 s0_1 s0_2 s0_3 = some r) :
  Calls Try.prog 116 #[.pointer (some g)] w fun e w' => e = .returned (.bool r) ∧ Below w.heap.size w w' := by
 refine (spec_l21One.calls0 k g.block g.off g.spot s0_0 s0_1 s0_2 s0_3 r w w ⟨⟨he0, he1, he2, he3⟩, trivial⟩ (Below.refl _ _) h).mono ?_
 rintro e w' ⟨rfl, _, hb, _⟩
 exact ⟨rfl, hb⟩


/-! ### spec_l21Ok: function 88 -/
def spec_l21Ok.l0 : Nat → List (S72) → Int → Option (Bool)
 | 0, _, _ => none
 | k + 1, x0, x3 => if x3 < (x0.length : Int) then (if 0 ≤ x3 then ((spec_l21One.f k ((rd_T72 x0 x3).f0) ((rd_T72 x0 x3).f1) ((rd_T72 x0 x3).f2) ((rd_T72 x0 x3).f3)).bind fun t220 => (if t220 = true then ((spec_l21Find.f k x0 ((rd_T72 x0 x3).f0)).bind fun t222 => (if t222 = x3 then (spec_l21Ok.l0 k x0 (wrap64 (x3 + 1))) else (some false))) else (some false))) else (none)) else (some (decide ((x0.length : Int) ≤ 40)))
def spec_l21Ok.f (k : Nat) (l0 : List (S72)) : Option (Bool) := spec_l21Ok.l0 k l0 0
set_option maxHeartbeats 8000000 in
set_option maxRecDepth 100000 in
theorem spec_l21Ok.calls (k : Nat) (A0 : Option Addr) (c0 : Nat) (l0 : List (S72)) (r : Bool) (w : World) (hr0 : Kd.C k72 w A0 l0.length l0) (hc0 : l0.length ≤ c0) (h : spec_l21Ok.f k l0 = some r) :
  Calls Try.prog 88 #[.slice A0 l0.length c0] w fun e w' => e = .returned (.bool r) ∧ Below w.heap.size w w' := by
 have HR0 := ak_ hr0
 have HC0 := ak_ hc0
 clear hr0 hc0
 have HB := ak_ (Below.refl w.heap.size w)
 have H : (spec_l21Ok.l0 k l0 0) = some r := h
 clear h
 have H' := ak_ H
 clear H
 go_enter Try.func88, Try.ntmps88
 go_wp2
 go_loopg [3] k (fun kq v3 w' => ∃ (x3_1 : Int), v3 = .int .i64 x3_1 ∧ Aside0 (spec_l21Ok.l0 kq l0 x3_1 = some r) ∧ Aside0 (kq ≤ k) ∧ Aside0 (Below w.heap.size w w'))
 case atStart => exact ⟨(0), fr_, H', ⟨Nat.le_refl _⟩, ⟨hb_⟩⟩
 case round =>
  clear H'
  obtain ⟨x3_1, rfl, HA, HK1, HB⟩ := hrel
  cases gk with
  | zero => exact absurd HA.out (by simp [spec_l21Ok.l0])
  | succ k1 =>
   have H := HA.out
   clear HA
   simp only [spec_l21Ok.l0] at H
   by_cases c2 : x3_1 < (l0.length : Int)
   ·rw [if_pos c2] at H
    have c2b0 : decide (x3_1 < (l0.length : Int)) = true := dt_ c2
    clear c2
    by_cases c3 : 0 ≤ x3_1
    ·rw [if_pos c3] at H
     have c3b0 : decide (0 ≤ x3_1) = true := dt_ c3
     clear c3
     replace H := ob_ H
     obtain ⟨t220, A40, H⟩ := H
     replace H : (if t220 = true then ((spec_l21Find.f k1 l0 ((rd_T72 l0 x3_1).f0)).bind fun t222 => (if t222 = x3_1 then (spec_l21Ok.l0 k1 l0 (wrap64 (x3_1 + 1))) else (some false))) else (some false)) = some r := H
     have A4 := ak_ A40
     clear A40
     by_cases c5 : t220 = true
     ·subst c5
      have H1 : ((spec_l21Find.f k1 l0 ((rd_T72 l0 x3_1).f0)).bind fun t222 => (if t222 = x3_1 then (spec_l21Ok.l0 k1 l0 (wrap64 (x3_1 + 1))) else (some false))) = some r := by rw [if_pos rfl] at H; exact H
      clear H
      have H := H1
      clear H1
      replace H := ob_ H
      obtain ⟨t222, A60, H⟩ := H
      replace H : (if t222 = x3_1 then (spec_l21Ok.l0 k1 l0 (wrap64 (x3_1 + 1))) else (some false)) = some r := H
      have A6 := ak_ A60
      clear A60
      by_cases c7 : t222 = x3_1
      ·rw [if_pos c7] at H
       have c7b0 : (t222 == x3_1) = true := beq_iff_eq.mpr c7
       have c7b1 : (t222 != x3_1) = false := bne_eq_false_iff_eq.mpr c7
       clear c7
       have H' := ak_ H
       clear H
       have p219 : 0 ≤ (x3_1 : Int) := od_
       have q219 : x3_1 < (l0.length : Int) := od_
       obtain ⟨ad219, e219, hx219_0, hx219_1, hx219_2, hx219_3⟩ := at_T72 HR0.out x3_1 p219 q219
       cases e219
       replace hx219_0 := cq_ HB hx219_0
       replace hx219_1 := cq_ HB hx219_1
       replace hx219_2 := cq_ HB hx219_2
       replace hx219_3 := cq_ HB hx219_3
       replace p219 := eq_true p219
       replace q219 := eq_true q219
       go_wp2_with (first | ((with_reducible refine gate_callee (f := 116) rfl ?_); refine goesL_ (some 13) rfl rfl Try.func116 (by kernel_rfl) rfl #[.pointer (some (ad219.add ((x3_1).toNat * 4)))] rfl ln_ ?_; (with_reducible refine (spec_l21One.calls k1 _ ((rd_T72 l0 x3_1).f0) ((rd_T72 l0 x3_1).f1) ((rd_T72 l0 x3_1).f2) ((rd_T72 l0 x3_1).f3) true _ ?side1 ?side2 ?side3 ?side4 A4.out).mono ?_); (case side1 => first | exact hx219_0 | (simpa using hx219_0) | (go_simp; done)); (case side2 => first | exact hx219_1 | (simpa using hx219_1) | (go_simp; done)); (case side3 => first | exact hx219_2 | (simpa using hx219_2) | (go_simp; done)); (case side4 => first | exact hx219_3 | (simpa using hx219_3) | (go_simp; done)); rintro e w8 ⟨rfl, hb⟩; refine ⟨_, rfl, ?_⟩; have n0_ := ak_ (below_step hb_ hb); clear HB; have HB := n0_; clear n0_; (try clear hb); (try clear hb2); (try clear hk); (try clear hi); have p221 : 0 ≤ (x3_1 : Int) := od_; have q221 : x3_1 < (l0.length : Int) := od_; obtain ⟨ad221, e221, hx221_0, hx221_1, hx221_2, hx221_3⟩ := at_T72 HR0.out x3_1 p221 q221; obtain rfl : ad219 = ad221 := (by injection e221); replace hx221_0 := cq_ HB hx221_0; replace hx221_1 := cq_ HB hx221_1; replace hx221_2 := cq_ HB hx221_2; replace hx221_3 := cq_ HB hx221_3; replace p221 := eq_true p221; replace q221 := eq_true q221) | (go_at_call 113; (with_reducible refine (spec_l21Find.calls k1 _ _ l0 ((rd_T72 l0 x3_1).f0) t222 _ ?side1 ?side2 A6.out).mono ?_); (case side1 => exact kc_ (Kd.C_below HR0.out HB.out)); (case side2 => exact HC0.out); rintro e w' ⟨rfl, ⟨nd, rfl⟩⟩))
       go_roundg k1
       case measure => have := HK1.out; omega
       case rel => exact ⟨(wrap64 (x3_1 + 1)), fr_, H', ⟨by have := HK1.out; omega⟩, ⟨hb_⟩⟩
      ·rw [if_neg c7] at H
       have c7b0 : (t222 == x3_1) = false := beq_eq_false_iff_ne.mpr c7
       have c7b1 : (t222 != x3_1) = true := bne_iff_ne.mpr c7
       obtain rfl := Option.some.inj H
       have p219 : 0 ≤ (x3_1 : Int) := od_
       have q219 : x3_1 < (l0.length : Int) := od_
       obtain ⟨ad219, e219, hx219_0, hx219_1, hx219_2, hx219_3⟩ := at_T72 HR0.out x3_1 p219 q219
       cases e219
       replace hx219_0 := cq_ HB hx219_0
       replace hx219_1 := cq_ HB hx219_1
       replace hx219_2 := cq_ HB hx219_2
       replace hx219_3 := cq_ HB hx219_3
       replace p219 := eq_true p219
       replace q219 := eq_true q219
       go_wp2_with (first | ((with_reducible refine gate_callee (f := 116) rfl ?_); refine goesL_ (some 13) rfl rfl Try.func116 (by kernel_rfl) rfl #[.pointer (some (ad219.add ((x3_1).toNat * 4)))] rfl ln_ ?_; (with_reducible refine (spec_l21One.calls k1 _ ((rd_T72 l0 x3_1).f0) ((rd_T72 l0 x3_1).f1) ((rd_T72 l0 x3_1).f2) ((rd_T72 l0 x3_1).f3) true _ ?side1 ?side2 ?side3 ?side4 A4.out).mono ?_); (case side1 => first | exact hx219_0 | (simpa using hx219_0) | (go_simp; done)); (case side2 => first | exact hx219_1 | (simpa using hx219_1) | (go_simp; done)); (case side3 => first | exact hx219_2 | (simpa using hx219_2) | (go_simp; done)); (case side4 => first | exact hx219_3 | (simpa using hx219_3) | (go_simp; done)); rintro e w9 ⟨rfl, hb⟩; refine ⟨_, rfl, ?_⟩; have n0_ := ak_ (below_step hb_ hb); clear HB; have HB := n0_; clear n0_; (try clear hb); (try clear hb2); (try clear hk); (try clear hi); have p221 : 0 ≤ (x3_1 : Int) := od_; have q221 : x3_1 < (l0.length : Int) := od_; obtain ⟨ad221, e221, hx221_0, hx221_1, hx221_2, hx221_3⟩ := at_T72 HR0.out x3_1 p221 q221; obtain rfl : ad219 = ad221 := (by injection e221); replace hx221_0 := cq_ HB hx221_0; replace hx221_1 := cq_ HB hx221_1; replace hx221_2 := cq_ HB hx221_2; replace hx221_3 := cq_ HB hx221_3; replace p221 := eq_true p221; replace q221 := eq_true q221) | (go_at_call 113; (with_reducible refine (spec_l21Find.calls k1 _ _ l0 ((rd_T72 l0 x3_1).f0) t222 _ ?side1 ?side2 A6.out).mono ?_); (case side1 => exact kc_ (Kd.C_below HR0.out HB.out)); (case side2 => exact HC0.out); rintro e w' ⟨rfl, ⟨nd, rfl⟩⟩))
       go_ret
       exact ⟨ew_, hb_⟩
     ·replace c5 := Bool.eq_false_iff.mpr c5
      subst c5
      have H1 : (some false) = some r := by rw [if_neg (show ¬ (false = true) by decide)] at H; exact H
      clear H
      have H := H1
      clear H1
      obtain rfl := Option.some.inj H
      have p219 : 0 ≤ (x3_1 : Int) := od_
      have q219 : x3_1 < (l0.length : Int) := od_
      obtain ⟨ad219, e219, hx219_0, hx219_1, hx219_2, hx219_3⟩ := at_T72 HR0.out x3_1 p219 q219
      cases e219
      replace hx219_0 := cq_ HB hx219_0
      replace hx219_1 := cq_ HB hx219_1
      replace hx219_2 := cq_ HB hx219_2
      replace hx219_3 := cq_ HB hx219_3
      replace p219 := eq_true p219
      replace q219 := eq_true q219
      go_wp2_with (first | ((with_reducible refine gate_callee (f := 116) rfl ?_); refine goesL_ (some 13) rfl rfl Try.func116 (by kernel_rfl) rfl #[.pointer (some (ad219.add ((x3_1).toNat * 4)))] rfl ln_ ?_; (with_reducible refine (spec_l21One.calls k1 _ ((rd_T72 l0 x3_1).f0) ((rd_T72 l0 x3_1).f1) ((rd_T72 l0 x3_1).f2) ((rd_T72 l0 x3_1).f3) false _ ?side1 ?side2 ?side3 ?side4 A4.out).mono ?_); (case side1 => first | exact hx219_0 | (simpa using hx219_0) | (go_simp; done)); (case side2 => first | exact hx219_1 | (simpa using hx219_1) | (go_simp; done)); (case side3 => first | exact hx219_2 | (simpa using hx219_2) | (go_simp; done)); (case side4 => first | exact hx219_3 | (simpa using hx219_3) | (go_simp; done)); rintro e w10 ⟨rfl, hb⟩; refine ⟨_, rfl, ?_⟩; have n0_ := ak_ (below_step hb_ hb); clear HB; have HB := n0_; clear n0_; clear hb))
      go_ret
      exact ⟨ew_, hb_⟩
    ·rw [if_neg c3] at H
     exact absurd H (by simp)
   ·rw [if_neg c2] at H
    have c2b0 : decide (x3_1 < (l0.length : Int)) = false := decide_eq_false c2
    clear c2
    obtain rfl := Option.some.inj H
    go_wp2
    go_ret
    exact ⟨ew_, hb_⟩

/-! ### spec_l21Check: function 111 -/
def spec_l21Check.f (k : Nat) (l0 : List (S72)) (s1_0 : ByteArray) (s1_1 : Int) (s1_2 : Int) : Option (Bool) := (spec_l21Find.f k l0 s1_0).bind fun t223 => (if t223 ≥ 0 then (if 0 ≤ t223 then (if t223 < (l0.length : Int) then ((spec_l00In.f s1_1 ((rd_T72 l0 t223).f1) 20000).bind fun t225 => (if t225 = true then ((spec_l00In.f s1_2 0 1000000).bind fun t226 => (some t226)) else (some false))) else (none)) else (none)) else (some false))
set_option maxHeartbeats 8000000 in
set_option maxRecDepth 100000 in
theorem spec_l21Check.calls0 (k : Nat) (A0 : Option Addr) (c0 : Nat) (l0 : List (S72)) (g o : Nat) (z : Option Nat) (s1_0 : ByteArray) (s1_1 : Int) (s1_2 : Int) (r : Bool) (w0 w : World) (hI : IsE75 w0 w g o z s1_0 s1_1 s1_2) (hB : Below w0.heap.size w0 w) (hr0 : ∀ W_, KeepBut w W_ w.heap.size none → Kd.C k72 W_ A0 l0.length l0) (hc0 : l0.length ≤ c0) (h : spec_l21Check.f k l0 s1_0 s1_1 s1_2 = some r) :
  Calls Try.prog 111 #[.slice A0 l0.length c0, .pointer (some ⟨g, o, z⟩)] w fun e w' => e = .returned (.bool r) ∧ IsE75 w0 w' g o z s1_0 s1_1 s1_2 ∧ Below w0.heap.size w0 w' ∧ KeepBut w w' w.heap.size none := by
 have HR0 := ak_ hr0
 have HC0 := ak_ hc0
 clear hr0 hc0
 have HI1 := ak_ hI
 have HK := ak_ (KeepBut.refl w w.heap.size none)
 have HL := ak_ hB.size
 clear hI
 have HW0 := ak_ hB.size
 have HB := ak_ hB
 clear hB
 have H : ((spec_l21Find.f k l0 s1_0).bind fun t223 => (if t223 ≥ 0 then (if 0 ≤ t223 then (if t223 < (l0.length : Int) then ((spec_l00In.f s1_1 ((rd_T72 l0 t223).f1) 20000).bind fun t225 => (if t225 = true then ((spec_l00In.f s1_2 0 1000000).bind fun t226 => (some t226)) else (some false))) else (none)) else (none)) else (some false))) = some r := h
 clear h
 replace H := ob_ H
 obtain ⟨t223, A30, H⟩ := H
 replace H : (if t223 ≥ 0 then (if 0 ≤ t223 then (if t223 < (l0.length : Int) then ((spec_l00In.f s1_1 ((rd_T72 l0 t223).f1) 20000).bind fun t225 => (if t225 = true then ((spec_l00In.f s1_2 0 1000000).bind fun t226 => (some t226)) else (some false))) else (none)) else (none)) else (some false)) = some r := H
 have A3 := ak_ A30
 clear A30
 by_cases c4 : t223 ≥ 0
 ·rw [if_pos c4] at H
  have c4b0 : decide (0 ≤ t223) = true := dt_ c4
  clear c4
  by_cases c5 : 0 ≤ t223
  ·rw [if_pos c5] at H
   have c5b0 : decide (0 ≤ t223) = true := dt_ c5
   clear c5
   by_cases c6 : t223 < (l0.length : Int)
   ·rw [if_pos c6] at H
    have c6b0 : decide (t223 < (l0.length : Int)) = true := dt_ c6
    clear c6
    replace H := ob_ H
    obtain ⟨t225, A70, H⟩ := H
    replace H : (if t225 = true then ((spec_l00In.f s1_2 0 1000000).bind fun t226 => (some t226)) else (some false)) = some r := H
    have A7 := ak_ A70
    clear A70
    by_cases c8 : t225 = true
    ·subst c8
     have H1 : ((spec_l00In.f s1_2 0 1000000).bind fun t226 => (some t226)) = some r := by rw [if_pos rfl] at H; exact H
     clear H
     have H := H1
     clear H1
     replace H := ob_ H
     obtain ⟨t226, A90, H⟩ := H
     replace H : (some t226) = some r := H
     have A9 := ak_ A90
     clear A90
     obtain rfl := Option.some.inj H
     obtain ⟨HGz10, hgz10⟩ := HI1.out
     have hcz10_0 := cellE75_0 HGz10
     have hcz10_1 := cellE75_1 HGz10
     have hcz10_2 := cellE75_2 HGz10
     clear HGz10 hgz10
     go_enter Try.func111, Try.ntmps111
     go_wp2_with (first | (go_at_call 113; (with_reducible refine (spec_l21Find.calls k _ _ l0 s1_0 t223 _ ?side1 ?side2 A3.out).mono ?_); (case side1 => exact Kd.C_foot_now HR0.out kb_); (case side2 => exact HC0.out); rintro e w' ⟨rfl, ⟨nd, rfl⟩⟩; (try first | exact ⟨rfl, _, World.drewN_drewN _ _ _⟩ | exact ⟨rfl, _, Eq.trans (World.drewN_drewN _ _ _) (congrArg (World.drewN _) (Nat.add_assoc _ _ _))⟩); have p224 : 0 ≤ (t223 : Int) := od_; have q224 : t223 < (l0.length : Int) := od_; obtain ⟨ad224, e224, hx224_0, hx224_1, hx224_2, hx224_3⟩ := at_T72 (Kd.C_foot_now HR0.out HK.out) t223 p224 q224; cases e224; replace p224 := eq_true p224; replace q224 := eq_true q224) | (go_at_call 112; (with_reducible refine (spec_l00In.calls s1_1 ((rd_T72 l0 t223).f1) 20000 true _ A7.out).mono ?_); rintro e w' ⟨rfl, ⟨nd, rfl⟩⟩; (try first | exact ⟨rfl, _, World.drewN_drewN _ _ _⟩ | exact ⟨rfl, _, Eq.trans (World.drewN_drewN _ _ _) (congrArg (World.drewN _) (Nat.add_assoc _ _ _))⟩)) | (go_at_call 112; (with_reducible refine (spec_l00In.calls s1_2 0 1000000 t226 _ A9.out).mono ?_); rintro e w' ⟨rfl, ⟨nd, rfl⟩⟩; (try first | exact ⟨rfl, _, World.drewN_drewN _ _ _⟩ | exact ⟨rfl, _, Eq.trans (World.drewN_drewN _ _ _) (congrArg (World.drewN _) (Nat.add_assoc _ _ _))⟩)))
     repeat (go_quiet (first | (go_at_call 113; (with_reducible refine (spec_l21Find.calls k _ _ l0 s1_0 t223 _ ?side1 ?side2 A3.out).mono ?_); (case side1 => exact Kd.C_foot_now HR0.out kb_); (case side2 => exact HC0.out); rintro e w' ⟨rfl, ⟨nd, rfl⟩⟩; (try first | exact ⟨rfl, _, World.drewN_drewN _ _ _⟩ | exact ⟨rfl, _, Eq.trans (World.drewN_drewN _ _ _) (congrArg (World.drewN _) (Nat.add_assoc _ _ _))⟩); have p224 : 0 ≤ (t223 : Int) := od_; have q224 : t223 < (l0.length : Int) := od_; obtain ⟨ad224, e224, hx224_0, hx224_1, hx224_2, hx224_3⟩ := at_T72 (Kd.C_foot_now HR0.out HK.out) t223 p224 q224; cases e224; replace p224 := eq_true p224; replace q224 := eq_true q224) | (go_at_call 112; (with_reducible refine (spec_l00In.calls s1_1 ((rd_T72 l0 t223).f1) 20000 true _ A7.out).mono ?_); rintro e w' ⟨rfl, ⟨nd, rfl⟩⟩; (try first | exact ⟨rfl, _, World.drewN_drewN _ _ _⟩ | exact ⟨rfl, _, Eq.trans (World.drewN_drewN _ _ _) (congrArg (World.drewN _) (Nat.add_assoc _ _ _))⟩)) | (go_at_call 112; (with_reducible refine (spec_l00In.calls s1_2 0 1000000 t226 _ A9.out).mono ?_); rintro e w' ⟨rfl, ⟨nd, rfl⟩⟩; (try first | exact ⟨rfl, _, World.drewN_drewN _ _ _⟩ | exact ⟨rfl, _, Eq.trans (World.drewN_drewN _ _ _) (congrArg (World.drewN _) (Nat.add_assoc _ _ _))⟩))); try go_wp2_with (first | (go_at_call 113; (with_reducible refine (spec_l21Find.calls k _ _ l0 s1_0 t223 _ ?side1 ?side2 A3.out).mono ?_); (case side1 => exact Kd.C_foot_now HR0.out kb_); (case side2 => exact HC0.out); rintro e w' ⟨rfl, ⟨nd, rfl⟩⟩; (try first | exact ⟨rfl, _, World.drewN_drewN _ _ _⟩ | exact ⟨rfl, _, Eq.trans (World.drewN_drewN _ _ _) (congrArg (World.drewN _) (Nat.add_assoc _ _ _))⟩); have p224 : 0 ≤ (t223 : Int) := od_; have q224 : t223 < (l0.length : Int) := od_; obtain ⟨ad224, e224, hx224_0, hx224_1, hx224_2, hx224_3⟩ := at_T72 (Kd.C_foot_now HR0.out HK.out) t223 p224 q224; cases e224; replace p224 := eq_true p224; replace q224 := eq_true q224) | (go_at_call 112; (with_reducible refine (spec_l00In.calls s1_1 ((rd_T72 l0 t223).f1) 20000 true _ A7.out).mono ?_); rintro e w' ⟨rfl, ⟨nd, rfl⟩⟩; (try first | exact ⟨rfl, _, World.drewN_drewN _ _ _⟩ | exact ⟨rfl, _, Eq.trans (World.drewN_drewN _ _ _) (congrArg (World.drewN _) (Nat.add_assoc _ _ _))⟩)) | (go_at_call 112; (with_reducible refine (spec_l00In.calls s1_2 0 1000000 t226 _ A9.out).mono ?_); rintro e w' ⟨rfl, ⟨nd, rfl⟩⟩; (try first | exact ⟨rfl, _, World.drewN_drewN _ _ _⟩ | exact ⟨rfl, _, Eq.trans (World.drewN_drewN _ _ _) (congrArg (World.drewN _) (Nat.add_assoc _ _ _))⟩))))
     go_ret
     exact ⟨ew_, isE75_a HI1, hb_, by repeat (first | (with_reducible first | exact HK.out | apply keep_drewN | apply keep_drew | apply keep_alloc) | exact HK.out)⟩
    ·replace c8 := Bool.eq_false_iff.mpr c8
     subst c8
     have H1 : (some false) = some r := by rw [if_neg (show ¬ (false = true) by decide)] at H; exact H
     clear H
     have H := H1
     clear H1
     obtain rfl := Option.some.inj H
     obtain ⟨HGz11, hgz11⟩ := HI1.out
     have hcz11_0 := cellE75_0 HGz11
     have hcz11_1 := cellE75_1 HGz11
     have hcz11_2 := cellE75_2 HGz11
     clear HGz11 hgz11
     go_enter Try.func111, Try.ntmps111
     go_wp2_with (first | (go_at_call 113; (with_reducible refine (spec_l21Find.calls k _ _ l0 s1_0 t223 _ ?side1 ?side2 A3.out).mono ?_); (case side1 => exact Kd.C_foot_now HR0.out kb_); (case side2 => exact HC0.out); rintro e w' ⟨rfl, ⟨nd, rfl⟩⟩; (try first | exact ⟨rfl, _, World.drewN_drewN _ _ _⟩ | exact ⟨rfl, _, Eq.trans (World.drewN_drewN _ _ _) (congrArg (World.drewN _) (Nat.add_assoc _ _ _))⟩); have p224 : 0 ≤ (t223 : Int) := od_; have q224 : t223 < (l0.length : Int) := od_; obtain ⟨ad224, e224, hx224_0, hx224_1, hx224_2, hx224_3⟩ := at_T72 (Kd.C_foot_now HR0.out HK.out) t223 p224 q224; cases e224; replace p224 := eq_true p224; replace q224 := eq_true q224) | (go_at_call 112; (with_reducible refine (spec_l00In.calls s1_1 ((rd_T72 l0 t223).f1) 20000 false _ A7.out).mono ?_); rintro e w' ⟨rfl, ⟨nd, rfl⟩⟩; (try first | exact ⟨rfl, _, World.drewN_drewN _ _ _⟩ | exact ⟨rfl, _, Eq.trans (World.drewN_drewN _ _ _) (congrArg (World.drewN _) (Nat.add_assoc _ _ _))⟩)))
     repeat (go_quiet (first | (go_at_call 113; (with_reducible refine (spec_l21Find.calls k _ _ l0 s1_0 t223 _ ?side1 ?side2 A3.out).mono ?_); (case side1 => exact Kd.C_foot_now HR0.out kb_); (case side2 => exact HC0.out); rintro e w' ⟨rfl, ⟨nd, rfl⟩⟩; (try first | exact ⟨rfl, _, World.drewN_drewN _ _ _⟩ | exact ⟨rfl, _, Eq.trans (World.drewN_drewN _ _ _) (congrArg (World.drewN _) (Nat.add_assoc _ _ _))⟩); have p224 : 0 ≤ (t223 : Int) := od_; have q224 : t223 < (l0.length : Int) := od_; obtain ⟨ad224, e224, hx224_0, hx224_1, hx224_2, hx224_3⟩ := at_T72 (Kd.C_foot_now HR0.out HK.out) t223 p224 q224; cases e224; replace p224 := eq_true p224; replace q224 := eq_true q224) | (go_at_call 112; (with_reducible refine (spec_l00In.calls s1_1 ((rd_T72 l0 t223).f1) 20000 false _ A7.out).mono ?_); rintro e w' ⟨rfl, ⟨nd, rfl⟩⟩; (try first | exact ⟨rfl, _, World.drewN_drewN _ _ _⟩ | exact ⟨rfl, _, Eq.trans (World.drewN_drewN _ _ _) (congrArg (World.drewN _) (Nat.add_assoc _ _ _))⟩))); try go_wp2_with (first | (go_at_call 113; (with_reducible refine (spec_l21Find.calls k _ _ l0 s1_0 t223 _ ?side1 ?side2 A3.out).mono ?_); (case side1 => exact Kd.C_foot_now HR0.out kb_); (case side2 => exact HC0.out); rintro e w' ⟨rfl, ⟨nd, rfl⟩⟩; (try first | exact ⟨rfl, _, World.drewN_drewN _ _ _⟩ | exact ⟨rfl, _, Eq.trans (World.drewN_drewN _ _ _) (congrArg (World.drewN _) (Nat.add_assoc _ _ _))⟩); have p224 : 0 ≤ (t223 : Int) := od_; have q224 : t223 < (l0.length : Int) := od_; obtain ⟨ad224, e224, hx224_0, hx224_1, hx224_2, hx224_3⟩ := at_T72 (Kd.C_foot_now HR0.out HK.out) t223 p224 q224; cases e224; replace p224 := eq_true p224; replace q224 := eq_true q224) | (go_at_call 112; (with_reducible refine (spec_l00In.calls s1_1 ((rd_T72 l0 t223).f1) 20000 false _ A7.out).mono ?_); rintro e w' ⟨rfl, ⟨nd, rfl⟩⟩; (try first | exact ⟨rfl, _, World.drewN_drewN _ _ _⟩ | exact ⟨rfl, _, Eq.trans (World.drewN_drewN _ _ _) (congrArg (World.drewN _) (Nat.add_assoc _ _ _))⟩))))
     go_ret
     exact ⟨ew_, isE75_a HI1, hb_, by repeat (first | (with_reducible first | exact HK.out | apply keep_drewN | apply keep_drew | apply keep_alloc) | exact HK.out)⟩
   ·rw [if_neg c6] at H
    exact absurd H (by simp)
  ·rw [if_neg c5] at H
   exact absurd H (by simp)
 ·rw [if_neg c4] at H
  have c4b0 : decide (0 ≤ t223) = false := decide_eq_false c4
  clear c4
  obtain rfl := Option.some.inj H
  obtain ⟨HGz12, hgz12⟩ := HI1.out
  have hcz12_0 := cellE75_0 HGz12
  have hcz12_1 := cellE75_1 HGz12
  have hcz12_2 := cellE75_2 HGz12
  clear HGz12 hgz12
  go_enter Try.func111, Try.ntmps111
  go_wp2_with (first | (go_at_call 113; (with_reducible refine (spec_l21Find.calls k _ _ l0 s1_0 t223 _ ?side1 ?side2 A3.out).mono ?_); (case side1 => exact Kd.C_foot_now HR0.out kb_); (case side2 => exact HC0.out); rintro e w' ⟨rfl, ⟨nd, rfl⟩⟩; (try first | exact ⟨rfl, _, World.drewN_drewN _ _ _⟩ | exact ⟨rfl, _, Eq.trans (World.drewN_drewN _ _ _) (congrArg (World.drewN _) (Nat.add_assoc _ _ _))⟩)))
  repeat (go_quiet (first | (go_at_call 113; (with_reducible refine (spec_l21Find.calls k _ _ l0 s1_0 t223 _ ?side1 ?side2 A3.out).mono ?_); (case side1 => exact Kd.C_foot_now HR0.out kb_); (case side2 => exact HC0.out); rintro e w' ⟨rfl, ⟨nd, rfl⟩⟩; (try first | exact ⟨rfl, _, World.drewN_drewN _ _ _⟩ | exact ⟨rfl, _, Eq.trans (World.drewN_drewN _ _ _) (congrArg (World.drewN _) (Nat.add_assoc _ _ _))⟩))); try go_wp2_with (first | (go_at_call 113; (with_reducible refine (spec_l21Find.calls k _ _ l0 s1_0 t223 _ ?side1 ?side2 A3.out).mono ?_); (case side1 => exact Kd.C_foot_now HR0.out kb_); (case side2 => exact HC0.out); rintro e w' ⟨rfl, ⟨nd, rfl⟩⟩; (try first | exact ⟨rfl, _, World.drewN_drewN _ _ _⟩ | exact ⟨rfl, _, Eq.trans (World.drewN_drewN _ _ _) (congrArg (World.drewN _) (Nat.add_assoc _ _ _))⟩))))
  go_ret
  exact ⟨ew_, isE75_a HI1, hb_, by repeat (first | (with_reducible first | exact HK.out | apply keep_drewN | apply keep_drew | apply keep_alloc) | exact HK.out)⟩
theorem spec_l21Check.calls (k : Nat) (A0 : Option Addr) (c0 : Nat) (l0 : List (S72)) (g : Addr) (s1_0 : ByteArray) (s1_1 : Int) (s1_2 : Int) (r : Bool) (w : World) (hr0 : Kd.C k72 w A0 l0.length l0) (hc0 : l0.length ≤ c0) (he0 : w.cell? g = some (.string s1_0)) (he1 : w.cell? ⟨g.block, g.off + 1, none⟩ = some (.int .i64 s1_1)) (he2 : w.cell? ⟨g.block, g.off + 2, none⟩ = some (.int .i64 s1_2)) (h : spec_l21Check.f k l0 s1_0 s1_1 s1_2 = some r) :
  Calls Try.prog 111 #[.slice A0 l0.length c0, .pointer (some g)] w fun e w' => e = .returned (.bool r) ∧ Below w.heap.size w w' := by
 refine (spec_l21Check.calls0 k A0 c0 l0 g.block g.off g.spot s1_0 s1_1 s1_2 r w w ⟨⟨he0, he1, he2⟩, trivial⟩ (Below.refl _ _) (Kd.C_foot_came k72_heap hr0 (Below.refl _ _) (Nat.le_refl _)) hc0 h).mono ?_
 rintro e w' ⟨rfl, _, hb, _⟩
 exact ⟨rfl, hb⟩


end Go.Proofs.Ytfenjlkopofopaa.P
end
