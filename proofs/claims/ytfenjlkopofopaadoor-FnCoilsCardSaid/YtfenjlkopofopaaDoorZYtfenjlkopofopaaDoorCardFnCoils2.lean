/- Texts of this claim, packed: Px13, Px14. -/
import Derived.Test.YtfenjlkopofopaaDoorZYtfenjlkopofopaaDoorCardFnCoils1
section
-- Written by gprint.py (own program, over the printer of the kit) out of the translation. Lean checks it.
namespace Go.Proofs.YtfenjlkopofopaaDoor.P
open Go.RowKit Go.Proofs.YtfenjlkopofopaaDoorW.PrintWords Go.Proofs.YtfenjlkopofopaaDoorW.PrintLast Go.Proofs.YtfenjlkopofopaaDoorW.PrintMore Go.Proofs.YtfenjlkopofopaaDoorW.Pk
open Bool renaming true → T_, false → F_
open List renaming setIfInBounds_toArray → sT_, set_cons_zero → s0_, set_cons_succ → sS_
attribute [local go_sem] max2_int min2_int max_two min_two max_three min_three max_four min_four   -- for this text's walks alone
set_option linter.unusedVariables false
set_option linter.unusedSimpArgs false

/-! ### laws_f6big: function 11 -/
def laws_f6big.f (l0 : List Int) : Option (Bool) := some (decide ((l0.length : Int) > 4096))
set_option maxHeartbeats 8000000 in
set_option maxRecDepth 100000 in
theorem laws_f6big.calls (A0 : Option Addr) (c0 : Nat) (l0 : List Int) (r : Bool) (w : World) (hr0 : Kd.C (Kd.int .u8) w A0 l0.length l0) (hc0 : l0.length ≤ c0) (h : laws_f6big.f l0 = some r) :
  Calls Tryd.prog 11 #[.slice A0 l0.length c0] w fun e w' => e = .returned (.bool r) ∧ Drawn0 w w' := by
 have HR0 := ak_ hr0
 have HC0 := ak_ hc0
 clear hr0 hc0
 have H : (some (decide ((l0.length : Int) > 4096))) = some r := h
 clear h
 obtain rfl := Option.some.inj H
 go_enter Tryd.func11, Tryd.ntmps11
 go_wp2
 go_ret
 exact ⟨by first | rfl | (simp; done) | (simp [*]; done), by repeat (first | exact Drawn0.refl _ | apply Drawn0.step)⟩

/-! ### spec_l00From: function 76 -/
def spec_l00From.f (l0 : List Int) : Option (List Int × Int × Int) := some (l0, 0, 0)
set_option maxHeartbeats 8000000 in
set_option maxRecDepth 100000 in
theorem spec_l00From.calls (A0 : Option Addr) (c0 : Nat) (l0 : List Int) (r1 : List Int) (r2 : Int) (r3 : Int) (w0 w : World) (hB : Below w0.heap.size w0 w) (hr0 : Kd.C (Kd.int .u8) w0 A0 l0.length l0) (hc0 : l0.length ≤ c0) (h : spec_l00From.f l0 = some (r1, r2, r3)) :
  Calls Tryd.prog 76 #[.slice A0 l0.length c0] w fun e w' => ∃ g_ : Nat, e = .returned (.pointer (some ⟨g_, 0, none⟩)) ∧ IsS155 w0 w' g_ r1 r2 r3 ∧ Below w0.heap.size w0 w' ∧ Below w.heap.size w w' := by
 have hu155 := Tryd.underlying155
 have HR0 := ak_ hr0
 have HC0 := ak_ hc0
 clear hr0 hc0
 have HBW := ak_ (Below.refl w.heap.size w)
 have HW0 := ak_ hB.size
 have HB := ak_ hB
 clear hB
 have H : (some (l0, 0, 0)) = some (r1, r2, r3) := h
 clear h
 simp only [Option.some.injEq, Prod.mk.injEq] at H
 obtain ⟨rfl, rfl, rfl⟩ := H
 go_enter Tryd.func76, Tryd.ntmps76
 go_wp2_with (first | ((with_reducible refine gate_dst (N := 5) rfl ?_); refine box_event ?hg (N := 5) ?hd (cs := #[.slice A0 l0.length c0, .int .i64 0, .int .u64 0]) (t := 155) ?hr ?_; (case hd => rfl); (case hg => rfl); (case hr => first | (go_simp; done) | (go_simp; rfl)); intro gb224 hg w2 hbox hb; replace HB := ak_ (below_step hb_ hb); have BK224 := ak_ (hbox); have GW224 := ak_ ((by rw [hg]; exact (below_size (by repeat (first | (with_reducible first | exact HBW.out | apply below_alloc | apply pw_below_drewN | apply below_drew1) | exact HBW.out))) : w.heap.size ≤ gb224)); have GE224 := ak_ ((Nat.le_trans HW0.out (by rw [hg]; exact (below_size (by repeat (first | (with_reducible first | exact HBW.out | apply below_alloc | apply pw_below_drewN | apply below_drew1) | exact HBW.out))) : w.heap.size ≤ gb224) : w0.heap.size ≤ gb224)); replace HBW := ak_ (below_step HBW.out hb); skip; clear hb hbox hg))
 go_ret
 exact ⟨_, rfl, (show IsS155 w0 _ gb224 l0 0 0 from ⟨_, _, by (with_reducible repeat (first | refine blk_drewN ?_ _ | refine blk_drew ?_ | refine blk_alloc ?_ _)); exact BK224.out, GE224.out, HR0.out⟩), (hg_ GE224), by repeat (first | (with_reducible first | exact HBW.out | apply below_alloc | apply pw_below_drewN | apply below_drew1 | refine below_set ?_ GW224.out) | exact HBW.out)⟩

/-! ### spec_l00Src_next: function 132 -/
def spec_l00Src_next.f (s0_0 : List Int) (s0_1 : Int) (s0_2 : Int) : Option (Int × Int × Int) := if s0_1 < (s0_0.length : Int) then (if 0 ≤ s0_1 then (if (wrap64 (s0_1 + 1)) ≤ (s0_0.length : Int) then (some (wrap64 (rd s0_0 s0_1), wrap64 (s0_1 + 1), IntKind.u64.wrap ((IntKind.u64.wrap ((IntKind.u64.wrap (s0_2 * 6364136223846793005)) + (IntKind.u64.wrap (wrap64 (rd s0_0 s0_1))))) + 1442695040888963407))) else (some (wrap64 (Go.bits .and .u64 ((IntKind.u64.wrap ((IntKind.u64.wrap ((IntKind.u64.wrap (s0_2 * 6364136223846793005)) + (IntKind.u64.wrap (wrap64 (rd s0_0 s0_1))))) + 1442695040888963407)) / 1099511627776) 255), wrap64 (s0_1 + 1), IntKind.u64.wrap ((IntKind.u64.wrap ((IntKind.u64.wrap (s0_2 * 6364136223846793005)) + (IntKind.u64.wrap (wrap64 (rd s0_0 s0_1))))) + 1442695040888963407)))) else (none)) else (if (wrap64 (s0_1 + 1)) ≤ (s0_0.length : Int) then (some (0, wrap64 (s0_1 + 1), IntKind.u64.wrap ((IntKind.u64.wrap (IntKind.u64.wrap (s0_2 * 6364136223846793005))) + 1442695040888963407))) else (some (wrap64 (Go.bits .and .u64 ((IntKind.u64.wrap ((IntKind.u64.wrap (IntKind.u64.wrap (s0_2 * 6364136223846793005))) + 1442695040888963407)) / 1099511627776) 255), wrap64 (s0_1 + 1), IntKind.u64.wrap ((IntKind.u64.wrap (IntKind.u64.wrap (s0_2 * 6364136223846793005))) + 1442695040888963407))))
set_option maxHeartbeats 8000000 in
set_option maxRecDepth 100000 in
theorem spec_l00Src_next.calls (g : Nat) (s0_0 : List Int) (s0_1 : Int) (s0_2 : Int) (r1 : Int) (r2 : Int) (r3 : Int) (w0 w : World) (hI : IsS155 w0 w g s0_0 s0_1 s0_2) (hB : Below w0.heap.size w0 w) (h : spec_l00Src_next.f s0_0 s0_1 s0_2 = some (r1, r2, r3)) :
  Calls Tryd.prog 132 #[.pointer (some ⟨g, 0, none⟩)] w fun e w' => e = .returned (.int .i64 r1) ∧ IsS155 w0 w' g s0_0 r2 r3 ∧ Below w0.heap.size w0 w' ∧ KeepBut w w' g none := by
 have HI0 := ak_ hI
 have HK := ak_ (KeepBut.refl w g none)
 have HL := ak_ hB.size
 clear hI
 have HW0 := ak_ hB.size
 have HB := ak_ hB
 clear hB
 have H : (if s0_1 < (s0_0.length : Int) then (if 0 ≤ s0_1 then (if (wrap64 (s0_1 + 1)) ≤ (s0_0.length : Int) then (some (wrap64 (rd s0_0 s0_1), wrap64 (s0_1 + 1), IntKind.u64.wrap ((IntKind.u64.wrap ((IntKind.u64.wrap (s0_2 * 6364136223846793005)) + (IntKind.u64.wrap (wrap64 (rd s0_0 s0_1))))) + 1442695040888963407))) else (some (wrap64 (Go.bits .and .u64 ((IntKind.u64.wrap ((IntKind.u64.wrap ((IntKind.u64.wrap (s0_2 * 6364136223846793005)) + (IntKind.u64.wrap (wrap64 (rd s0_0 s0_1))))) + 1442695040888963407)) / 1099511627776) 255), wrap64 (s0_1 + 1), IntKind.u64.wrap ((IntKind.u64.wrap ((IntKind.u64.wrap (s0_2 * 6364136223846793005)) + (IntKind.u64.wrap (wrap64 (rd s0_0 s0_1))))) + 1442695040888963407)))) else (none)) else (if (wrap64 (s0_1 + 1)) ≤ (s0_0.length : Int) then (some (0, wrap64 (s0_1 + 1), IntKind.u64.wrap ((IntKind.u64.wrap (IntKind.u64.wrap (s0_2 * 6364136223846793005))) + 1442695040888963407))) else (some (wrap64 (Go.bits .and .u64 ((IntKind.u64.wrap ((IntKind.u64.wrap (IntKind.u64.wrap (s0_2 * 6364136223846793005))) + 1442695040888963407)) / 1099511627776) 255), wrap64 (s0_1 + 1), IntKind.u64.wrap ((IntKind.u64.wrap (IntKind.u64.wrap (s0_2 * 6364136223846793005))) + 1442695040888963407))))) = some (r1, r2, r3) := h
 clear h
 by_cases c2 : s0_1 < (s0_0.length : Int)
 rotate_left
 ·rw [if_neg c2] at H
  have c2b0 : decide (s0_1 < (s0_0.length : Int)) = false := decide_eq_false c2
  clear c2
  by_cases c7 : (wrap64 (s0_1 + 1)) ≤ (s0_0.length : Int)
  ·rw [if_pos c7] at H
   have c7b0 : decide ((wrap64 (s0_1 + 1)) ≤ (s0_0.length : Int)) = true := dt_ c7
   clear c7
   simp only [Option.some.injEq, Prod.mk.injEq] at H
   obtain ⟨rfl, rfl, rfl⟩ := H
   obtain ⟨ASz8_0, cSz8_0, HGz8, hgz8, HSz8_0⟩ := HI0.out
   have hcz8_0 := cellS155_0 HGz8
   have hcz8_1 := cellS155_1 HGz8
   have hcz8_2 := cellS155_2 HGz8
   have hfz8_1 := blk_frozen HGz8 1
   have hfz8_2 := blk_frozen HGz8 2
   clear HGz8 hgz8
   go_enter Tryd.func132, Tryd.ntmps132
   go_wp2
   repeat (go_quiet (fail); try go_wp2)
   go_ret
   exact ⟨ew_, isS155_a HI0, hz_ (IsS155.ge HI0.out), kb_⟩
  rw [if_neg c7] at H
  have c7b0 : decide ((wrap64 (s0_1 + 1)) ≤ (s0_0.length : Int)) = false := decide_eq_false c7
  clear c7
  simp only [Option.some.injEq, Prod.mk.injEq] at H
  obtain ⟨rfl, rfl, rfl⟩ := H
  obtain ⟨ASz9_0, cSz9_0, HGz9, hgz9, HSz9_0⟩ := HI0.out
  have hcz9_0 := cellS155_0 HGz9
  have hcz9_1 := cellS155_1 HGz9
  have hcz9_2 := cellS155_2 HGz9
  have hfz9_1 := blk_frozen HGz9 1
  have hfz9_2 := blk_frozen HGz9 2
  clear HGz9 hgz9
  go_enter Tryd.func132, Tryd.ntmps132
  go_wp2
  repeat (go_quiet (fail); try go_wp2)
  go_ret
  exact ⟨ew_, isS155_a HI0, hz_ (IsS155.ge HI0.out), kb_⟩

 rw [if_pos c2] at H
 have c2b0 : decide (s0_1 < (s0_0.length : Int)) = true := dt_ c2
 clear c2
 by_cases c3 : 0 ≤ s0_1
 rotate_left
 ·rw [if_neg c3] at H
  exact absurd H (by simp)
 rw [if_pos c3] at H
 have c3b0 : decide (0 ≤ s0_1) = true := dt_ c3
 clear c3
 by_cases c4 : (wrap64 (s0_1 + 1)) ≤ (s0_0.length : Int)
 ·rw [if_pos c4] at H
  have c4b0 : decide ((wrap64 (s0_1 + 1)) ≤ (s0_0.length : Int)) = true := dt_ c4
  clear c4
  simp only [Option.some.injEq, Prod.mk.injEq] at H
  obtain ⟨rfl, rfl, rfl⟩ := H
  obtain ⟨ASz5_0, cSz5_0, HGz5, hgz5, HSz5_0⟩ := HI0.out
  have hcz5_0 := cellS155_0 HGz5
  have hcz5_1 := cellS155_1 HGz5
  have hcz5_2 := cellS155_2 HGz5
  have hfz5_1 := blk_frozen HGz5 1
  have hfz5_2 := blk_frozen HGz5 2
  clear HGz5 hgz5
  have p225 : 0 ≤ (s0_1 : Int) := od_
  have q225 : s0_1 < (s0_0.length : Int) := od_
  obtain ⟨ad225, e225, hx225_0⟩ := Kd.at_int HSz5_0 s0_1 p225 q225
  cases e225
  replace hx225_0 := pw_cell_below HB.out hx225_0
  replace p225 := eq_true p225
  replace q225 := eq_true q225
  go_enter Tryd.func132, Tryd.ntmps132
  go_wp2
  repeat (go_quiet (fail); try go_wp2)
  go_ret
  exact ⟨ew_, isS155_a HI0, hz_ (IsS155.ge HI0.out), kb_⟩
 rw [if_neg c4] at H
 have c4b0 : decide ((wrap64 (s0_1 + 1)) ≤ (s0_0.length : Int)) = false := decide_eq_false c4
 clear c4
 simp only [Option.some.injEq, Prod.mk.injEq] at H
 obtain ⟨rfl, rfl, rfl⟩ := H
 obtain ⟨ASz6_0, cSz6_0, HGz6, hgz6, HSz6_0⟩ := HI0.out
 have hcz6_0 := cellS155_0 HGz6
 have hcz6_1 := cellS155_1 HGz6
 have hcz6_2 := cellS155_2 HGz6
 have hfz6_1 := blk_frozen HGz6 1
 have hfz6_2 := blk_frozen HGz6 2
 clear HGz6 hgz6
 have p225 : 0 ≤ (s0_1 : Int) := od_
 have q225 : s0_1 < (s0_0.length : Int) := od_
 obtain ⟨ad225, e225, hx225_0⟩ := Kd.at_int HSz6_0 s0_1 p225 q225
 cases e225
 replace hx225_0 := pw_cell_below HB.out hx225_0
 replace p225 := eq_true p225
 replace q225 := eq_true q225
 go_enter Tryd.func132, Tryd.ntmps132
 go_wp2
 repeat (go_quiet (fail); try go_wp2)
 go_ret
 exact ⟨ew_, isS155_a HI0, hz_ (IsS155.ge HI0.out), kb_⟩
/-! ### spec_l00Src_pick: function 86 -/
def spec_l00Src_pick.f (s0_0 : List Int) (s0_1 : Int) (s0_2 : Int) (a1 : Int) : Option (Int × Int × Int) := if a1 ≤ 1 then (some (0, s0_1, s0_2)) else ((spec_l00Src_next.f s0_0 s0_1 s0_2).bind fun bt226 => (if a1 > 200 then ((spec_l00Src_next.f s0_0 bt226.2.1 bt226.2.2).bind fun bt229 => (if a1 = 0 then (none) else (some (Int.tmod (wrap64 ((wrap64 (bt226.1 * 256)) + bt229.1)) a1, bt229.2.1, bt229.2.2)))) else (if a1 = 0 then (none) else (some (Int.tmod bt226.1 a1, bt226.2.1, bt226.2.2)))))
set_option maxHeartbeats 8000000 in
set_option maxRecDepth 100000 in
theorem spec_l00Src_pick.calls (g : Nat) (s0_0 : List Int) (s0_1 : Int) (s0_2 : Int) (a1 : Int) (r1 : Int) (r2 : Int) (r3 : Int) (w0 w : World) (hI : IsS155 w0 w g s0_0 s0_1 s0_2) (hB : Below w0.heap.size w0 w) (h : spec_l00Src_pick.f s0_0 s0_1 s0_2 a1 = some (r1, r2, r3)) :
  Calls Tryd.prog 86 #[.pointer (some ⟨g, 0, none⟩), .int .i64 a1] w fun e w' => e = .returned (.int .i64 r1) ∧ IsS155 w0 w' g s0_0 r2 r3 ∧ Below w0.heap.size w0 w' ∧ KeepBut w w' g none := by
 have HI0 := ak_ hI
 have HK := ak_ (KeepBut.refl w g none)
 have HL := ak_ hB.size
 clear hI
 have HW0 := ak_ hB.size
 have HB := ak_ hB
 clear hB
 have H : (if a1 ≤ 1 then (some (0, s0_1, s0_2)) else ((spec_l00Src_next.f s0_0 s0_1 s0_2).bind fun bt226 => (if a1 > 200 then ((spec_l00Src_next.f s0_0 bt226.2.1 bt226.2.2).bind fun bt229 => (if a1 = 0 then (none) else (some (Int.tmod (wrap64 ((wrap64 (bt226.1 * 256)) + bt229.1)) a1, bt229.2.1, bt229.2.2)))) else (if a1 = 0 then (none) else (some (Int.tmod bt226.1 a1, bt226.2.1, bt226.2.2)))))) = some (r1, r2, r3) := h
 clear h
 by_cases c3 : a1 ≤ 1
 ·rw [if_pos c3] at H
  have c3b0 : decide (a1 ≤ 1) = true := dt_ c3
  clear c3
  simp only [Option.some.injEq, Prod.mk.injEq] at H
  obtain ⟨rfl, rfl, rfl⟩ := H
  go_enter Tryd.func86, Tryd.ntmps86
  go_wp2
  go_ret
  exact ⟨ew_, isS155_a HI0, hz_ (IsS155.ge HI0.out), kb_⟩
 rw [if_neg c3] at H
 have c3b0 : decide (a1 ≤ 1) = false := decide_eq_false c3
 clear c3
 replace H := ob_ H
 obtain ⟨⟨t226, t227, t228⟩, A40, H⟩ := H
 (try dsimp only at H)
 have A4 := ak_ A40
 clear A40
 by_cases c5 : a1 > 200
 rotate_left
 ·rw [if_neg c5] at H
  have c5b0 : decide (200 < a1) = false := decide_eq_false c5
  clear c5
  by_cases c10 : a1 = 0
  ·rw [if_pos c10] at H
   exact absurd H (by simp)
  rw [if_neg c10] at H
  have c10b0 : (a1 == 0) = false := beq_eq_false_iff_ne.mpr c10
  have c10b1 : (a1 != 0) = true := bne_iff_ne.mpr c10
  simp only [Option.some.injEq, Prod.mk.injEq] at H
  obtain ⟨rfl, rfl, rfl⟩ := H
  go_enter Tryd.func86, Tryd.ntmps86
  go_wp2_with (first | ((with_reducible refine gate_callee (f := 132) rfl ?_); refine goesL_ (some 9) rfl rfl Tryd.func132 (by kernel_rfl) rfl #[.pointer (some ⟨g, 0, none⟩)] rfl ln_ ?_; (with_reducible refine (spec_l00Src_next.calls g s0_0 s0_1 s0_2 t226 t227 t228 w0 _ (isS155_a HI0) (hz_ (IsS155.ge HI0.out)) A4.out).mono ?_); rintro e w11 ⟨rfl, hi, hb, hk⟩; refine ⟨_, rfl, ?_⟩; replace HK := ak_ (KeepBut.trans kb_ hk (.inl rfl)); replace HB := ak_ (hb); replace HI0 := ak_ (hi); skip; clear hb hk hi))
  go_ret
  exact ⟨ew_, isS155_a HI0, hz_ (IsS155.ge HI0.out), kb_⟩

 rw [if_pos c5] at H
 have c5b0 : decide (200 < a1) = true := dt_ c5
 clear c5
 replace H := ob_ H
 obtain ⟨⟨t229, t230, t231⟩, A60, H⟩ := H
 (try dsimp only at H)
 have A6 := ak_ A60
 clear A60
 by_cases c7 : a1 = 0
 ·rw [if_pos c7] at H
  exact absurd H (by simp)
 rw [if_neg c7] at H
 have c7b0 : (a1 == 0) = false := beq_eq_false_iff_ne.mpr c7
 have c7b1 : (a1 != 0) = true := bne_iff_ne.mpr c7
 simp only [Option.some.injEq, Prod.mk.injEq] at H
 obtain ⟨rfl, rfl, rfl⟩ := H
 go_enter Tryd.func86, Tryd.ntmps86
 go_wp2_with (first | ((with_reducible refine gate_callee (f := 132) rfl ?_); refine goesL_ (some 9) rfl rfl Tryd.func132 (by kernel_rfl) rfl #[.pointer (some ⟨g, 0, none⟩)] rfl ln_ ?_; (with_reducible refine (spec_l00Src_next.calls g s0_0 s0_1 s0_2 t226 t227 t228 w0 _ (isS155_a HI0) (hz_ (IsS155.ge HI0.out)) A4.out).mono ?_); rintro e w8 ⟨rfl, hi, hb, hk⟩; refine ⟨_, rfl, ?_⟩; replace HK := ak_ (KeepBut.trans kb_ hk (.inl rfl)); replace HB := ak_ (hb); replace HI0 := ak_ (hi); skip; clear hb hk hi) | ((with_reducible refine gate_callee (f := 132) rfl ?_); refine goesL_ (some 15) rfl rfl Tryd.func132 (by kernel_rfl) rfl #[.pointer (some ⟨g, 0, none⟩)] rfl ln_ ?_; (with_reducible refine (spec_l00Src_next.calls g s0_0 t227 t228 t229 t230 t231 w0 _ (isS155_a HI0) (hz_ (IsS155.ge HI0.out)) A6.out).mono ?_); rintro e w9 ⟨rfl, hi, hb, hk⟩; refine ⟨_, rfl, ?_⟩; replace HK := ak_ (KeepBut.trans kb_ hk (.inl rfl)); replace HB := ak_ (hb); replace HI0 := ak_ (hi); skip; clear hb hk hi))
 go_ret
 exact ⟨ew_, isS155_a HI0, hz_ (IsS155.ge HI0.out), kb_⟩
/-! ### spec_l00Src_text: function 78 -/
def spec_l00Src_text.f (s0_0 : List Int) (s0_1 : Int) (s0_2 : Int) (l1 : List ByteArray) : Option (ByteArray × Int × Int) := (spec_l00Src_pick.f s0_0 s0_1 s0_2 (l1.length : Int)).bind fun bt232 => (if 0 ≤ bt232.1 then (if bt232.1 < (l1.length : Int) then (some (rdOf ByteArray.empty l1 bt232.1, bt232.2.1, bt232.2.2)) else (none)) else (none))
set_option maxHeartbeats 8000000 in
set_option maxRecDepth 100000 in
theorem spec_l00Src_text.calls (g : Nat) (s0_0 : List Int) (s0_1 : Int) (s0_2 : Int) (A1 : Option Addr) (c1 : Nat) (l1 : List ByteArray) (r1 : ByteArray) (r2 : Int) (r3 : Int) (w0 w : World) (hI : IsS155 w0 w g s0_0 s0_1 s0_2) (hB : Below w0.heap.size w0 w) (hr1 : Kd.C Kd.string w A1 l1.length l1) (hc1 : l1.length ≤ c1) (hf1 : ∀ ad, A1 = some ad → 0 < l1.length → ad.block ≠ g) (h : spec_l00Src_text.f s0_0 s0_1 s0_2 l1 = some (r1, r2, r3)) :
  Calls Tryd.prog 78 #[.pointer (some ⟨g, 0, none⟩), .slice A1 l1.length c1] w fun e w' => e = .returned (.string r1) ∧ IsS155 w0 w' g s0_0 r2 r3 ∧ Below w0.heap.size w0 w' ∧ KeepBut w w' g none := by
 have HR1 := ak_ hr1
 have HC1 := ak_ hc1
 clear hr1 hc1
 have HI0 := ak_ hI
 have HK := ak_ (KeepBut.refl w g none)
 have HL := ak_ hB.size
 clear hI
 have HW0 := ak_ hB.size
 have HB := ak_ hB
 clear hB
 have H : ((spec_l00Src_pick.f s0_0 s0_1 s0_2 (l1.length : Int)).bind fun bt232 => (if 0 ≤ bt232.1 then (if bt232.1 < (l1.length : Int) then (some (rdOf ByteArray.empty l1 bt232.1, bt232.2.1, bt232.2.2)) else (none)) else (none))) = some (r1, r2, r3) := h
 clear h
 replace H := ob_ H
 obtain ⟨⟨t232, t233, t234⟩, A30, H⟩ := H
 (try dsimp only at H)
 have A3 := ak_ A30
 clear A30
 by_cases c4 : 0 ≤ t232
 rotate_left
 ·rw [if_neg c4] at H
  exact absurd H (by simp)

 rw [if_pos c4] at H
 have c4b0 : decide (0 ≤ t232) = true := dt_ c4
 clear c4
 by_cases c5 : t232 < (l1.length : Int)
 rotate_left
 ·rw [if_neg c5] at H
  exact absurd H (by simp)
 rw [if_pos c5] at H
 have c5b0 : decide (t232 < (l1.length : Int)) = true := dt_ c5
 clear c5
 simp only [Option.some.injEq, Prod.mk.injEq] at H
 obtain ⟨rfl, rfl, rfl⟩ := H
 go_enter Tryd.func78, Tryd.ntmps78
 go_wp2_with (first | ((with_reducible refine gate_callee (f := 86) rfl ?_); refine goesL_ (some 9) rfl rfl Tryd.func86 (by kernel_rfl) rfl #[.pointer (some ⟨g, 0, none⟩), .int .i64 (l1.length : Int)] rfl ln_ ?_; (with_reducible refine (spec_l00Src_pick.calls g s0_0 s0_1 s0_2 (l1.length : Int) t232 t233 t234 w0 _ (isS155_a HI0) (hz_ (IsS155.ge HI0.out)) A3.out).mono ?_); rintro e w6 ⟨rfl, hi, hb, hk⟩; refine ⟨_, rfl, ?_⟩; replace HK := ak_ (KeepBut.trans kb_ hk (.inl rfl)); replace HB := ak_ (hb); replace HI0 := ak_ (hi); skip; (try clear hb); (try clear hb2); (try clear hk); (try clear hi); have p235 : 0 ≤ (t232 : Int) := od_; have q235 : t232 < (l1.length : Int) := od_; obtain ⟨ad235, e235, hx235_0⟩ := Kd.at_string HR1.out t232 p235 q235; cases e235; replace hx235_0 := keep_cell HK.out hx235_0 (by first | (rw [add_block]; exact hf1 _ rfl (by omega)) | exact hf1 _ rfl (by omega) | exact hf1 ad235 rfl (by omega)); replace p235 := eq_true p235; replace q235 := eq_true q235))
 go_ret
 exact ⟨ew_, isS155_a HI0, hz_ (IsS155.ge HI0.out), kb_⟩
/-! ### spec_l00Src_among: function 85 -/
def spec_l00Src_among.f (s0_0 : List Int) (s0_1 : Int) (s0_2 : Int) (l1 : List Int) : Option (Int × Int × Int) := (spec_l00Src_pick.f s0_0 s0_1 s0_2 (l1.length : Int)).bind fun bt236 => (if 0 ≤ bt236.1 then (if bt236.1 < (l1.length : Int) then (some (rd l1 bt236.1, bt236.2.1, bt236.2.2)) else (none)) else (none))
set_option maxHeartbeats 8000000 in
set_option maxRecDepth 100000 in
theorem spec_l00Src_among.calls (g : Nat) (s0_0 : List Int) (s0_1 : Int) (s0_2 : Int) (A1 : Option Addr) (c1 : Nat) (l1 : List Int) (r1 : Int) (r2 : Int) (r3 : Int) (w0 w : World) (hI : IsS155 w0 w g s0_0 s0_1 s0_2) (hB : Below w0.heap.size w0 w) (hr1 : Kd.C (Kd.int .i64) w A1 l1.length l1) (hc1 : l1.length ≤ c1) (hf1 : ∀ ad, A1 = some ad → 0 < l1.length → ad.block ≠ g) (h : spec_l00Src_among.f s0_0 s0_1 s0_2 l1 = some (r1, r2, r3)) :
  Calls Tryd.prog 85 #[.pointer (some ⟨g, 0, none⟩), .slice A1 l1.length c1] w fun e w' => e = .returned (.int .i64 r1) ∧ IsS155 w0 w' g s0_0 r2 r3 ∧ Below w0.heap.size w0 w' ∧ KeepBut w w' g none := by
 have HR1 := ak_ hr1
 have HC1 := ak_ hc1
 clear hr1 hc1
 have HI0 := ak_ hI
 have HK := ak_ (KeepBut.refl w g none)
 have HL := ak_ hB.size
 clear hI
 have HW0 := ak_ hB.size
 have HB := ak_ hB
 clear hB
 have H : ((spec_l00Src_pick.f s0_0 s0_1 s0_2 (l1.length : Int)).bind fun bt236 => (if 0 ≤ bt236.1 then (if bt236.1 < (l1.length : Int) then (some (rd l1 bt236.1, bt236.2.1, bt236.2.2)) else (none)) else (none))) = some (r1, r2, r3) := h
 clear h
 replace H := ob_ H
 obtain ⟨⟨t236, t237, t238⟩, A30, H⟩ := H
 (try dsimp only at H)
 have A3 := ak_ A30
 clear A30
 by_cases c4 : 0 ≤ t236
 rotate_left
 ·rw [if_neg c4] at H
  exact absurd H (by simp)

 rw [if_pos c4] at H
 have c4b0 : decide (0 ≤ t236) = true := dt_ c4
 clear c4
 by_cases c5 : t236 < (l1.length : Int)
 rotate_left
 ·rw [if_neg c5] at H
  exact absurd H (by simp)
 rw [if_pos c5] at H
 have c5b0 : decide (t236 < (l1.length : Int)) = true := dt_ c5
 clear c5
 simp only [Option.some.injEq, Prod.mk.injEq] at H
 obtain ⟨rfl, rfl, rfl⟩ := H
 go_enter Tryd.func85, Tryd.ntmps85
 go_wp2_with (first | ((with_reducible refine gate_callee (f := 86) rfl ?_); refine goesL_ (some 9) rfl rfl Tryd.func86 (by kernel_rfl) rfl #[.pointer (some ⟨g, 0, none⟩), .int .i64 (l1.length : Int)] rfl ln_ ?_; (with_reducible refine (spec_l00Src_pick.calls g s0_0 s0_1 s0_2 (l1.length : Int) t236 t237 t238 w0 _ (isS155_a HI0) (hz_ (IsS155.ge HI0.out)) A3.out).mono ?_); rintro e w6 ⟨rfl, hi, hb, hk⟩; refine ⟨_, rfl, ?_⟩; replace HK := ak_ (KeepBut.trans kb_ hk (.inl rfl)); replace HB := ak_ (hb); replace HI0 := ak_ (hi); skip; (try clear hb); (try clear hb2); (try clear hk); (try clear hi); have p239 : 0 ≤ (t236 : Int) := od_; have q239 : t236 < (l1.length : Int) := od_; obtain ⟨ad239, e239, hx239_0⟩ := Kd.at_int HR1.out t236 p239 q239; cases e239; replace hx239_0 := keep_cell HK.out hx239_0 (by first | (rw [add_block]; exact hf1 _ rfl (by omega)) | exact hf1 _ rfl (by omega) | exact hf1 ad239 rfl (by omega)); replace p239 := eq_true p239; replace q239 := eq_true q239))
 go_ret
 exact ⟨ew_, isS155_a HI0, hz_ (IsS155.ge HI0.out), kb_⟩
/-! ### spec_l00Src_one: function 84 -/
def spec_l00Src_one.f (s0_0 : List Int) (s0_1 : Int) (s0_2 : Int) (a1 : Int) : Option (Bool × Int × Int) := (spec_l00Src_pick.f s0_0 s0_1 s0_2 a1).bind fun bt240 => (some ((bt240.1 == 0), bt240.2.1, bt240.2.2))
set_option maxHeartbeats 8000000 in
set_option maxRecDepth 100000 in
theorem spec_l00Src_one.calls (g : Nat) (s0_0 : List Int) (s0_1 : Int) (s0_2 : Int) (a1 : Int) (r1 : Bool) (r2 : Int) (r3 : Int) (w0 w : World) (hI : IsS155 w0 w g s0_0 s0_1 s0_2) (hB : Below w0.heap.size w0 w) (h : spec_l00Src_one.f s0_0 s0_1 s0_2 a1 = some (r1, r2, r3)) :
  Calls Tryd.prog 84 #[.pointer (some ⟨g, 0, none⟩), .int .i64 a1] w fun e w' => e = .returned (.bool r1) ∧ IsS155 w0 w' g s0_0 r2 r3 ∧ Below w0.heap.size w0 w' ∧ KeepBut w w' g none := by
 have HI0 := ak_ hI
 have HK := ak_ (KeepBut.refl w g none)
 have HL := ak_ hB.size
 clear hI
 have HW0 := ak_ hB.size
 have HB := ak_ hB
 clear hB
 have H : ((spec_l00Src_pick.f s0_0 s0_1 s0_2 a1).bind fun bt240 => (some ((bt240.1 == 0), bt240.2.1, bt240.2.2))) = some (r1, r2, r3) := h
 clear h
 replace H := ob_ H
 obtain ⟨⟨t240, t241, t242⟩, A30, H⟩ := H
 (try dsimp only at H)
 have A3 := ak_ A30
 clear A30
 simp only [Option.some.injEq, Prod.mk.injEq] at H
 obtain ⟨rfl, rfl, rfl⟩ := H
 go_enter Tryd.func84, Tryd.ntmps84
 go_wp2_with (first | ((with_reducible refine gate_callee (f := 86) rfl ?_); refine goesL_ (some 7) rfl rfl Tryd.func86 (by kernel_rfl) rfl #[.pointer (some ⟨g, 0, none⟩), .int .i64 a1] rfl ln_ ?_; (with_reducible refine (spec_l00Src_pick.calls g s0_0 s0_1 s0_2 a1 t240 t241 t242 w0 _ (isS155_a HI0) (hz_ (IsS155.ge HI0.out)) A3.out).mono ?_); rintro e w4 ⟨rfl, hi, hb, hk⟩; refine ⟨_, rfl, ?_⟩; replace HK := ak_ (KeepBut.trans kb_ hk (.inl rfl)); replace HB := ak_ (hb); replace HI0 := ak_ (hi); skip; clear hb hk hi))
 go_ret
 exact ⟨ew_, isS155_a HI0, hz_ (IsS155.ge HI0.out), kb_⟩

end Go.Proofs.YtfenjlkopofopaaDoor.P
end

section
-- Written by gprint.py (own program, over the printer of the kit) out of the translation. Lean checks it.
namespace Go.Proofs.YtfenjlkopofopaaDoor.P
open Go.RowKit Go.Proofs.YtfenjlkopofopaaDoorW.PrintWords Go.Proofs.YtfenjlkopofopaaDoorW.PrintLast Go.Proofs.YtfenjlkopofopaaDoorW.PrintMore Go.Proofs.YtfenjlkopofopaaDoorW.Pk
open Bool renaming true → T_, false → F_
open List renaming setIfInBounds_toArray → sT_, set_cons_zero → s0_, set_cons_succ → sS_
attribute [local go_sem] max2_int min2_int max_two min_two max_three min_three max_four min_four   -- for this text's walks alone
set_option linter.unusedVariables false
set_option linter.unusedSimpArgs false

/-! ### spec_l23Kind: function 133 -/
def spec_l23Kind.f (s0_0 : List Int) (s0_1 : Int) (s0_2 : Int) : Option (ByteArray × Int × Int) := (spec_l00Src_text.f s0_0 s0_1 s0_2 (([(⟨#[104, 101, 109, 112]⟩ : ByteArray), (⟨#[104, 101, 109, 112]⟩ : ByteArray), (⟨#[109, 97, 110, 105, 108, 97]⟩ : ByteArray), (⟨#[119, 105, 114, 101, 45, 54]⟩ : ByteArray)] : List ByteArray))).bind fun bt246 => (some (bt246.1, bt246.2.1, bt246.2.2))
set_option maxHeartbeats 8000000 in
set_option maxRecDepth 100000 in
theorem spec_l23Kind.calls (g : Nat) (s0_0 : List Int) (s0_1 : Int) (s0_2 : Int) (r1 : ByteArray) (r2 : Int) (r3 : Int) (w0 w : World) (hI : IsS155 w0 w g s0_0 s0_1 s0_2) (hB : Below w0.heap.size w0 w) (h : spec_l23Kind.f s0_0 s0_1 s0_2 = some (r1, r2, r3)) :
  Calls Tryd.prog 133 #[.pointer (some ⟨g, 0, none⟩)] w fun e w' => e = .returned (.string r1) ∧ IsS155 w0 w' g s0_0 r2 r3 ∧ Below w0.heap.size w0 w' ∧ KeepBut w w' g none := by
 have HI0 := ak_ hI
 have HK := ak_ (KeepBut.refl w g none)
 have HL := ak_ hB.size
 clear hI
 have HW0 := ak_ hB.size
 have HB := ak_ hB
 clear hB
 have H : ((spec_l00Src_text.f s0_0 s0_1 s0_2 (([(⟨#[104, 101, 109, 112]⟩ : ByteArray), (⟨#[104, 101, 109, 112]⟩ : ByteArray), (⟨#[109, 97, 110, 105, 108, 97]⟩ : ByteArray), (⟨#[119, 105, 114, 101, 45, 54]⟩ : ByteArray)] : List ByteArray))).bind fun bt246 => (some (bt246.1, bt246.2.1, bt246.2.2))) = some (r1, r2, r3) := h
 clear h
 obtain ⟨y243, hy243⟩ : ∃ y_ : List ByteArray, y_ = (([(⟨#[104, 101, 109, 112]⟩ : ByteArray), (⟨#[104, 101, 109, 112]⟩ : ByteArray), (⟨#[109, 97, 110, 105, 108, 97]⟩ : ByteArray), (⟨#[119, 105, 114, 101, 45, 54]⟩ : ByteArray)] : List ByteArray)) := ⟨_, rfl⟩
 replace H : ((spec_l00Src_text.f s0_0 s0_1 s0_2 y243).bind fun bt246 => (some (bt246.1, bt246.2.1, bt246.2.2))) = some (r1, r2, r3) := by first | (rw [hy243]; with_reducible exact H) | (have H2_ := (Option.bind_some _ _).symm.trans H; rw [hy243]; with_reducible exact H2_) | (have H2_ := (Option.bind_some _ _).symm.trans H; with_reducible exact H2_) | with_reducible exact H | (rw [hy243]; exact H) | exact H
 have Ny243 := ak_ hy243
 clear hy243
 replace H := ob_ H
 obtain ⟨⟨t246, t247, t248⟩, A20, H⟩ := H
 (try dsimp only at H)
 have A2 := ak_ A20
 clear A20
 simp only [Option.some.injEq, Prod.mk.injEq] at H
 obtain ⟨rfl, rfl, rfl⟩ := H
 go_enter Tryd.func133, Tryd.ntmps133
 go_wp2_with (first | ((with_reducible refine gate_dst (N := 4) rfl ?_); refine Kd.R_lit Kd.string _ 9 ?hg (N := 4) ?hd (xs := ([(⟨#[104, 101, 109, 112]⟩ : ByteArray), (⟨#[104, 101, 109, 112]⟩ : ByteArray), (⟨#[109, 97, 110, 105, 108, 97]⟩ : ByteArray), (⟨#[119, 105, 114, 101, 45, 54]⟩ : ByteArray)] : List ByteArray)) (inner := [.string (⟨#[104, 101, 109, 112]⟩ : ByteArray), .string (⟨#[104, 101, 109, 112]⟩ : ByteArray), .string (⟨#[109, 97, 110, 105, 108, 97]⟩ : ByteArray), .string (⟨#[119, 105, 114, 101, 45, 54]⟩ : ByteArray)]) (ok := fun _ => True) (okp := fun _ => True) ?hr ?hp (fun _ hk => hk) trivial (Below.refl _ _) (Nat.le_refl _) (by simp) ?_; (case hd => rfl); (case hg => rfl); (case hr => first | (go_simp; done) | (go_simp; rfl)); (case hp => exact (Reps.one (show Kd.M Kd.string _ _ _ (⟨#[104, 101, 109, 112]⟩ : ByteArray) [.string (⟨#[104, 101, 109, 112]⟩ : ByteArray)] from rfl) (Reps.one (show Kd.M Kd.string _ _ _ (⟨#[104, 101, 109, 112]⟩ : ByteArray) [.string (⟨#[104, 101, 109, 112]⟩ : ByteArray)] from rfl) (Reps.one (show Kd.M Kd.string _ _ _ (⟨#[109, 97, 110, 105, 108, 97]⟩ : ByteArray) [.string (⟨#[109, 97, 110, 105, 108, 97]⟩ : ByteArray)] from rfl) (Reps.one (show Kd.M Kd.string _ _ _ (⟨#[119, 105, 114, 101, 45, 54]⟩ : ByteArray) [.string (⟨#[119, 105, 114, 101, 45, 54]⟩ : ByteArray)] from rfl) (Reps.none _ _)))))); intro v244 w3 ho4 hb hg_ hnew_; clear hg_ hnew_; (first | rw [← Ny243.out] at ho4 | (simp only [Int.reduceToNat] at ho4; rw [← Ny243.out] at ho4)); have n0_ := ak_ (Kd.R_lower ho4 (keep_size (w := w) (g := g) (row := none) kb_)); have n1_ := ak_ (IsS155.below (isS155_a HI0) hb); have n2_ := ak_ (KeepBut.trans kb_ (KeepBut.of_below hb g none) (.inl rfl)); have n3_ := ak_ (below_step (hz_ (IsS155.ge HI0.out)) hb); clear HI0 HK HB; have HO245 := n0_; have HI0 := n1_; have HK := n2_; have HB := n3_; clear n0_ n1_ n2_ n3_; clear hb ho4; obtain ⟨Ao5, co5, eo5⟩ := Kd.R_slice HO245.out; subst eo5) | ((with_reducible refine gate_callee (f := 78) rfl ?_); refine goesL_ (some 5) rfl rfl Tryd.func78 (by kernel_rfl) rfl #[.pointer (some ⟨g, 0, none⟩), .slice Ao5 y243.length co5] rfl ln_ ?_; (with_reducible refine (spec_l00Src_text.calls g s0_0 s0_1 s0_2 _ _ y243 t246 t247 t248 w0 _ (isS155_a HI0) (hz_ (IsS155.ge HI0.out)) ?side3 ((Kd.R_reads' HO245.out).2.1) (far_slice (IsS155.own_ne HI0.out HO245.out (by decide))) A2.out).mono ?_); (case side3 => repeat (first | exact (Kd.R_reads' HO245.out).2.2 | (with_reducible refine Kd.C_alloc ?_ _) | (with_reducible refine Kd.C_drewN ?_ _) | (with_reducible refine Kd.C_drew ?_))); rintro e w6 ⟨rfl, hi, hb, hk⟩; refine ⟨_, rfl, ?_⟩; replace HO245 := ak_ (Kd.R_mono (Kd.R_keep (IsS155.apart (show IsS155 w0 _ g s0_0 s0_1 s0_2 from isS155_a HI0) (kr_ HO245) (by decide)) hk (fun _ h => h.2)) (fun _ h => h.1)); replace HK := ak_ (KeepBut.trans kb_ hk (.inl rfl)); replace HB := ak_ (hb); replace HI0 := ak_ (hi); skip; clear hb hk hi))
 go_ret
 exact ⟨ew_, isS155_a HI0, hz_ (IsS155.ge HI0.out), kb_⟩

/-! ### spec_l23New: function 89 -/
def spec_l23New.f (s0_0 : List Int) (s0_1 : Int) (s0_2 : Int) : Option (ByteArray × Int × Int × Int) := (spec_l23Kind.f s0_0 s0_1 s0_2).bind fun bt250 => ((spec_l00Src_pick.f s0_0 bt250.2.1 bt250.2.2 60).bind fun bt254 => (some (bt250.1, wrap64 (50 + (wrap64 (10 * bt254.1))), bt254.2.1, bt254.2.2)))
set_option maxHeartbeats 8000000 in
set_option maxRecDepth 100000 in
theorem spec_l23New.calls (g : Nat) (s0_0 : List Int) (s0_1 : Int) (s0_2 : Int) (r1 : ByteArray) (r2 : Int) (r3 : Int) (r4 : Int) (w0 w : World) (hI : IsS155 w0 w g s0_0 s0_1 s0_2) (hB : Below w0.heap.size w0 w) (h : spec_l23New.f s0_0 s0_1 s0_2 = some (r1, r2, r3, r4)) :
  Calls Tryd.prog 89 #[.pointer (some ⟨g, 0, none⟩)] w fun e w' => e = .returned (.agg #[.string r1, .int .i64 r2]) ∧ IsS155 w0 w' g s0_0 r3 r4 ∧ Below w0.heap.size w0 w' ∧ KeepBut w w' g none := by
 have hu23 := Tryd.underlying23
 have HI0 := ak_ hI
 have HK := ak_ (KeepBut.refl w g none)
 have HL := ak_ hB.size
 clear hI
 have HW0 := ak_ hB.size
 have HB := ak_ hB
 clear hB
 have H : ((spec_l23Kind.f s0_0 s0_1 s0_2).bind fun bt250 => ((spec_l00Src_pick.f s0_0 bt250.2.1 bt250.2.2 60).bind fun bt254 => (some (bt250.1, wrap64 (50 + (wrap64 (10 * bt254.1))), bt254.2.1, bt254.2.2)))) = some (r1, r2, r3, r4) := h
 clear h
 replace H := ob_ H
 obtain ⟨⟨t250, t251, t252⟩, A20, H⟩ := H
 (try dsimp only at H)
 have A2 := ak_ A20
 clear A20
 replace H := ob_ H
 obtain ⟨⟨t254, t255, t256⟩, A30, H⟩ := H
 (try dsimp only at H)
 have A3 := ak_ A30
 clear A30
 simp only [Option.some.injEq, Prod.mk.injEq] at H
 obtain ⟨rfl, rfl, rfl, rfl⟩ := H
 go_enter Tryd.func89, Tryd.ntmps89
 go_wp2_with (first | ((with_reducible refine gate_dst (N := 2) rfl ?_); refine box_event ?hg (N := 2) ?hd (cs := #[.string (⟨#[]⟩ : ByteArray), .int .i64 0]) (t := 23) ?hr ?_; (case hd => rfl); (case hg => rfl); (case hr => first | (go_simp; done) | (go_simp; rfl)); intro gb249 hg w4 hbox hb; have n0_ := ak_ (IsS155.below (isS155_a HI0) hb); have n1_ := ak_ (KeepBut.trans kb_ (KeepBut.of_below hb g none) (.inl rfl)); have n2_ := ak_ (below_step (hz_ (IsS155.ge HI0.out)) hb); have n3_ := ak_ (hbox); have n4_ := ak_ ((by rw [hg]; exact (keep_size (w := w) (g := g) (row := none) kb_) : w.heap.size ≤ gb249)); have n5_ := ak_ ((Nat.le_trans HW0.out (by rw [hg]; exact (keep_size (w := w) (g := g) (row := none) kb_) : w.heap.size ≤ gb249) : w0.heap.size ≤ gb249)); have n6_ := ak_ ((by rw [hg]; exact Nat.ne_of_lt (IsS155.lt (show IsS155 w0 _ g s0_0 s0_1 s0_2 from isS155_a HI0)) : g ≠ gb249)); have n7_ := ak_ ((by rw [hg]; exact Nat.ne_of_gt (IsS155.lt (show IsS155 w0 _ g s0_0 s0_1 s0_2 from isS155_a HI0)) : gb249 ≠ g)); clear HI0 HK HB; have HI0 := n0_; have HK := n1_; have HB := n2_; have BK249 := n3_; have GW249 := n4_; have GE249 := n5_; have NB0_249 := n6_; have NB249_0 := n7_; clear n0_ n1_ n2_ n3_ n4_ n5_ n6_ n7_; clear hb hbox hg) | ((with_reducible refine gate_callee (f := 133) rfl ?_); refine goesL_ (some 5) rfl rfl Tryd.func133 (by kernel_rfl) rfl #[.pointer (some ⟨g, 0, none⟩)] rfl ln_ ?_; (with_reducible refine (spec_l23Kind.calls g s0_0 s0_1 s0_2 t250 t251 t252 w0 _ ?side1 ?side2 A2.out).mono ?_); (case side1 => repeat (first | (with_reducible first | exact HI0.out | apply IsS155.alloc | apply IsS155.drewN | apply IsS155.drew | apply IsS155.set_1 | apply IsS155.set_2 | refine IsS155.far ?_ NB0_249.out _) | exact HI0.out)); (case side2 => repeat (first | (with_reducible first | exact HB.out | apply below_alloc | apply pw_below_drewN | apply below_drew1 | refine below_set ?_ (IsS155.ge HI0.out) | refine below_set ?_ GE249.out) | exact HB.out)); rintro e w5 ⟨rfl, hi, hb, hk⟩; refine ⟨_, rfl, ?_⟩; replace BK249 := ak_ (KeepBut.blk hk (g' := gb249) (o := .cells #[.string (⟨#[]⟩ : ByteArray), .int .i64 0] 23 (0, 0)) (bk_ BK249) NB249_0.out (by simp)); replace HK := ak_ (KeepBut.trans (by repeat (first | (with_reducible first | exact HK.out | apply KeepBut.set_ | apply keep_drewN | apply keep_drew | apply keep_alloc | refine keep_far ?_ GW249.out _) | exact HK.out)) hk (.inl rfl)); replace HB := ak_ (hb); replace HI0 := ak_ (hi); skip; clear hb hk hi) | ((with_reducible refine gate_dst (N := 3) rfl ?_); refine box_event ?hg (N := 3) ?hd (cs := #[.string (⟨#[]⟩ : ByteArray), .int .i64 0]) (t := 23) ?hr ?_; (case hd => rfl); (case hg => rfl); (case hr => first | (go_simp; done) | (go_simp; rfl)); intro gb253 hg w6 hbox hb; replace HB := ak_ (below_step (by repeat (first | (with_reducible first | exact HB.out | apply below_alloc | apply pw_below_drewN | apply below_drew1 | refine below_set ?_ (IsS155.ge HI0.out) | refine below_set ?_ GE249.out) | exact HB.out)) hb); have BK253 := ak_ (hbox); have GW253 := ak_ ((by rw [hg]; exact (keep_size (w := w) (g := g) (row := none) (by repeat (first | (with_reducible first | exact HK.out | apply KeepBut.set_ | apply keep_drewN | apply keep_drew | apply keep_alloc | refine keep_far ?_ GW249.out _) | exact HK.out))) : w.heap.size ≤ gb253)); have GE253 := ak_ ((Nat.le_trans HW0.out (by rw [hg]; exact (keep_size (w := w) (g := g) (row := none) (by repeat (first | (with_reducible first | exact HK.out | apply KeepBut.set_ | apply keep_drewN | apply keep_drew | apply keep_alloc | refine keep_far ?_ GW249.out _) | exact HK.out))) : w.heap.size ≤ gb253) : w0.heap.size ≤ gb253)); replace HK := ak_ (KeepBut.trans (by repeat (first | (with_reducible first | exact HK.out | apply KeepBut.set_ | apply keep_drewN | apply keep_drew | apply keep_alloc | refine keep_far ?_ GW249.out _) | exact HK.out)) (KeepBut.of_below hb g none) (.inl rfl)); have NB249_253 := ak_ ((by rw [hg]; exact Nat.ne_of_lt (blk_lt (g := gb249) (o := .cells #[.string (⟨#[]⟩ : ByteArray), .int .i64 0] 23 (0, 0)) (bk_ BK249)) : gb249 ≠ gb253)); have NB253_249 := ak_ ((by rw [hg]; exact Nat.ne_of_gt (blk_lt (g := gb249) (o := .cells #[.string (⟨#[]⟩ : ByteArray), .int .i64 0] 23 (0, 0)) (bk_ BK249)) : gb253 ≠ gb249)); replace BK249 := ak_ (blk_below (g := gb249) (o := .cells #[.string (⟨#[]⟩ : ByteArray), .int .i64 0] 23 (0, 0)) (bk_ BK249) hb); have NB0_253 := ak_ ((by rw [hg]; exact Nat.ne_of_lt (IsS155.lt (show IsS155 w0 _ g s0_0 t251 t252 from by repeat (first | (with_reducible first | exact HI0.out | apply IsS155.alloc | apply IsS155.drewN | apply IsS155.drew | apply IsS155.set_1 | apply IsS155.set_2 | refine IsS155.far ?_ NB0_249.out _) | exact HI0.out))) : g ≠ gb253)); have NB253_0 := ak_ ((by rw [hg]; exact Nat.ne_of_gt (IsS155.lt (show IsS155 w0 _ g s0_0 t251 t252 from by repeat (first | (with_reducible first | exact HI0.out | apply IsS155.alloc | apply IsS155.drewN | apply IsS155.drew | apply IsS155.set_1 | apply IsS155.set_2 | refine IsS155.far ?_ NB0_249.out _) | exact HI0.out))) : gb253 ≠ g)); replace HI0 := ak_ (IsS155.below (by repeat (first | (with_reducible first | exact HI0.out | apply IsS155.alloc | apply IsS155.drewN | apply IsS155.drew | apply IsS155.set_1 | apply IsS155.set_2 | refine IsS155.far ?_ NB0_249.out _) | exact HI0.out)) hb); skip; clear hb hbox hg; have hnb7 := NB253_249.out; have hnc7 := NB249_253.out; have hnb8 := NB253_0.out; have hnc8 := NB0_253.out; have hcz9_0 : w6.cell? ⟨gb253, 0, none⟩ = some (.string (⟨#[]⟩ : ByteArray)) := (blk_cell BK253.out 0).trans rfl; have hcz9_1 : w6.cell? ⟨gb253, 1, none⟩ = some (.int .i64 0) := (blk_cell BK253.out 1).trans rfl; have hfz9_0 := blk_frozen BK253.out 0; have hfz9_1 := blk_frozen BK253.out 1) | ((with_reducible refine gate_callee (f := 86) rfl ?_); refine goesL_ (some 8) rfl rfl Tryd.func86 (by kernel_rfl) rfl #[.pointer (some ⟨g, 0, none⟩), .int .i64 60] rfl ln_ ?_; (with_reducible refine (spec_l00Src_pick.calls g s0_0 t251 t252 60 t254 t255 t256 w0 _ ?side1 ?side2 A3.out).mono ?_); (case side1 => repeat (first | (with_reducible first | exact HI0.out | apply IsS155.alloc | apply IsS155.drewN | apply IsS155.drew | apply IsS155.set_1 | apply IsS155.set_2 | refine IsS155.far ?_ NB0_249.out _ | refine IsS155.far ?_ NB0_253.out _) | exact HI0.out)); (case side2 => repeat (first | (with_reducible first | exact HB.out | apply below_alloc | apply pw_below_drewN | apply below_drew1 | refine below_set ?_ (IsS155.ge HI0.out) | refine below_set ?_ GE249.out | refine below_set ?_ GE253.out) | exact HB.out)); rintro e w10 ⟨rfl, hi, hb, hk⟩; refine ⟨_, rfl, ?_⟩; replace BK249 := ak_ (KeepBut.blk hk (g' := gb249) (o := .cells #[.string (⟨#[]⟩ : ByteArray), .int .i64 0] 23 (0, 0)) (by (with_reducible repeat (first | refine blk_drewN ?_ _ | refine blk_drew ?_ | refine blk_alloc ?_ _)); refine blk_far ?_ NB249_253.out _; (with_reducible repeat (first | refine blk_drewN ?_ _ | refine blk_drew ?_ | refine blk_alloc ?_ _)); refine blk_far ?_ NB249_253.out _; (with_reducible repeat (first | refine blk_drewN ?_ _ | refine blk_drew ?_ | refine blk_alloc ?_ _)); exact BK249.out) NB249_0.out (by simp)); replace BK253 := ak_ (KeepBut.blk hk (g' := gb253) (o := .cells #[.string t250, .int .i64 0] 23 (0, 0)) (by (with_reducible repeat (first | refine blk_drewN ?_ _ | refine blk_drew ?_ | refine blk_alloc ?_ _)); refine blk_put (cs := #[.string t250, .int .i64 0]) ?_ 1 _ rfl; (with_reducible repeat (first | refine blk_drewN ?_ _ | refine blk_drew ?_ | refine blk_alloc ?_ _)); refine blk_put (cs := #[.string (⟨#[]⟩ : ByteArray), .int .i64 0]) ?_ 0 _ rfl; (with_reducible repeat (first | refine blk_drewN ?_ _ | refine blk_drew ?_ | refine blk_alloc ?_ _)); exact BK253.out) NB253_0.out (by simp)); replace HK := ak_ (KeepBut.trans (by repeat (first | (with_reducible first | exact HK.out | apply KeepBut.set_ | apply keep_drewN | apply keep_drew | apply keep_alloc | refine keep_far ?_ GW249.out _ | refine keep_far ?_ GW253.out _) | exact HK.out)) hk (.inl rfl)); replace HB := ak_ (hb); replace HI0 := ak_ (hi); skip; (try clear hb); (try clear hb2); (try clear hk); (try clear hi); have hcz11_0 : w10.cell? ⟨gb253, 0, none⟩ = some (.string t250) := (blk_cell BK253.out 0).trans rfl; have hcz11_1 : w10.cell? ⟨gb253, 1, none⟩ = some (.int .i64 0) := (blk_cell BK253.out 1).trans rfl; have hfz11_0 := blk_frozen BK253.out 0; have hfz11_1 := blk_frozen BK253.out 1; have hnb12 := NB249_0.out; have hnc12 := NB0_249.out; have hcz13_0 : w10.cell? ⟨gb249, 0, none⟩ = some (.string (⟨#[]⟩ : ByteArray)) := (blk_cell BK249.out 0).trans rfl; have hcz13_1 : w10.cell? ⟨gb249, 1, none⟩ = some (.int .i64 0) := (blk_cell BK249.out 1).trans rfl; have hfz13_0 := blk_frozen BK249.out 0; have hfz13_1 := blk_frozen BK249.out 1))
 refine bodyPost_ret (results_cell_row rfl _ _ gb249 23 #[.string t250, .int .i64 (wrap64 (50 + (wrap64 (10 * t254))))] (0, 0) _ rfl (by (with_reducible repeat (first | refine blk_drewN ?_ _ | refine blk_drew ?_ | refine blk_alloc ?_ _)); refine blk_put (cs := #[.string t250, .int .i64 0]) ?_ 1 _ rfl; (with_reducible repeat (first | refine blk_drewN ?_ _ | refine blk_drew ?_ | refine blk_alloc ?_ _)); refine blk_put (cs := #[.string (⟨#[]⟩ : ByteArray), .int .i64 0]) ?_ 0 _ rfl; (with_reducible repeat (first | refine blk_drewN ?_ _ | refine blk_drew ?_ | refine blk_alloc ?_ _)); refine blk_far ?_ NB249_253.out _; (with_reducible repeat (first | refine blk_drewN ?_ _ | refine blk_drew ?_ | refine blk_alloc ?_ _)); exact BK249.out) Tryd.underlying23 rfl (by kernel_rfl)) rfl ?_
 exact ⟨ew_, by repeat (first | (with_reducible first | exact HI0.out | apply IsS155.alloc | apply IsS155.drewN | apply IsS155.drew | apply IsS155.set_1 | apply IsS155.set_2 | refine IsS155.far ?_ NB0_249.out _ | refine IsS155.far ?_ NB0_253.out _) | exact HI0.out), by repeat (first | (with_reducible first | exact HB.out | apply below_alloc | apply pw_below_drewN | apply below_drew1 | refine below_set ?_ (IsS155.ge HI0.out) | refine below_set ?_ GE249.out | refine below_set ?_ GE253.out) | exact HB.out), by repeat (first | (with_reducible first | exact HK.out | apply KeepBut.set_ | apply keep_drewN | apply keep_drew | apply keep_alloc | refine keep_far ?_ GW249.out _ | refine keep_far ?_ GW253.out _) | exact HK.out)⟩

/-! ### spec_l23Draw: function 93 -/
mutual
def spec_l23Draw.j0 : Nat → List (S23) → Int → List Int → Int → Int → Option ((List (S23)) × Int × Int)
 | 0, _, _, _, _, _ => none
 | k + 1, x3, x4, x1000, x1001, x1002 => spec_l23Draw.l0 k x3 x4 x1000 x1001 x1002
def spec_l23Draw.l0 : Nat → List (S23) → Int → List Int → Int → Int → Option ((List (S23)) × Int × Int)
 | 0, _, _, _, _, _ => none
 | k + 1, x3, x5, x1000, x1001, x1002 => if x5 > 0 then ((spec_l23New.f x1000 x1001 x1002).bind fun bt272 => (if x3.length < 5864062014805 then (spec_l23Draw.l0 k (x3 ++ [(⟨bt272.1, bt272.2.1⟩ : S23)]) (wrap64 (x5 - 1)) x1000 bt272.2.2.1 bt272.2.2.2) else (none))) else (some (x3, x1001, x1002))
end
def spec_l23Draw.f (k : Nat) (s0_0 : List Int) (s0_1 : Int) (s0_2 : Int) : Option ((List (S23)) × Int × Int) := (some (([] : List (S23)) : List (S23))).bind fun y257 => ((spec_l00Src_pick.f s0_0 s0_1 s0_2 7).bind fun bt260 => ((spec_l00Src_one.f s0_0 bt260.2.1 bt260.2.2 16).bind fun bt263 => (if bt263.1 = true then ((spec_l00Src_among.f s0_0 bt263.2.1 bt263.2.2 (([7, 8, 40, 41] : List Int))).bind fun bt269 => (spec_l23Draw.j0 k y257 bt269.1 s0_0 bt269.2.1 bt269.2.2)) else (spec_l23Draw.j0 k y257 bt260.1 s0_0 bt263.2.1 bt263.2.2))))
set_option maxHeartbeats 8000000 in
set_option maxRecDepth 100000 in
theorem spec_l23Draw.calls (k : Nat) (g : Nat) (s0_0 : List Int) (s0_1 : Int) (s0_2 : Int) (r1 : List (S23)) (r2 : Int) (r3 : Int) (w0 w : World) (hI : IsS155 w0 w g s0_0 s0_1 s0_2) (hB : Below w0.heap.size w0 w) (h : spec_l23Draw.f k s0_0 s0_1 s0_2 = some (r1, r2, r3)) :
  Calls Tryd.prog 93 #[.pointer (some ⟨g, 0, none⟩)] w fun e w' => ∃ v0_ : Value, e = .returned (v0_) ∧ Kd.R k23 23 w' w.heap.size (fun _ => True) v0_ r1 ∧ IsS155 w0 w' g s0_0 r2 r3 ∧ Below w0.heap.size w0 w' ∧ KeepBut w w' g none := by
 have HI0 := ak_ hI
 have HK := ak_ (KeepBut.refl w g none)
 have HL := ak_ hB.size
 clear hI
 have HW0 := ak_ hB.size
 have HB := ak_ hB
 clear hB
 have H : ((some (([] : List (S23)) : List (S23))).bind fun y257 => ((spec_l00Src_pick.f s0_0 s0_1 s0_2 7).bind fun bt260 => ((spec_l00Src_one.f s0_0 bt260.2.1 bt260.2.2 16).bind fun bt263 => (if bt263.1 = true then ((spec_l00Src_among.f s0_0 bt263.2.1 bt263.2.2 (([7, 8, 40, 41] : List Int))).bind fun bt269 => (spec_l23Draw.j0 k y257 bt269.1 s0_0 bt269.2.1 bt269.2.2)) else (spec_l23Draw.j0 k y257 bt260.1 s0_0 bt263.2.1 bt263.2.2))))) = some (r1, r2, r3) := h
 clear h
 obtain ⟨y257, hy257⟩ : ∃ y_ : List (S23), y_ = (([] : List (S23))) := ⟨_, rfl⟩
 replace H : ((spec_l00Src_pick.f s0_0 s0_1 s0_2 7).bind fun bt260 => ((spec_l00Src_one.f s0_0 bt260.2.1 bt260.2.2 16).bind fun bt263 => (if bt263.1 = true then ((spec_l00Src_among.f s0_0 bt263.2.1 bt263.2.2 (([7, 8, 40, 41] : List Int))).bind fun bt269 => (spec_l23Draw.j0 k y257 bt269.1 s0_0 bt269.2.1 bt269.2.2)) else (spec_l23Draw.j0 k y257 bt260.1 s0_0 bt263.2.1 bt263.2.2)))) = some (r1, r2, r3) := by first | (rw [hy257]; with_reducible exact H) | (have H2_ := (Option.bind_some _ _).symm.trans H; rw [hy257]; with_reducible exact H2_) | (have H2_ := (Option.bind_some _ _).symm.trans H; with_reducible exact H2_) | with_reducible exact H | (rw [hy257]; exact H) | exact H
 have Ny257 := ak_ hy257
 clear hy257
 replace H := ob_ H
 obtain ⟨⟨t260, t261, t262⟩, A20, H⟩ := H
 (try dsimp only at H)
 have A2 := ak_ A20
 clear A20
 replace H := ob_ H
 obtain ⟨⟨t263, t264, t265⟩, A30, H⟩ := H
 (try dsimp only at H)
 have A3 := ak_ A30
 clear A30
 have HC4 := ak_ H
 clear H
 go_enter Tryd.func93, Tryd.ntmps93
 go_upto_if 10 with (first | ((with_reducible refine gate_dst (N := 6) rfl ?_); refine Kd.R_lit k23 _ 23 ?hg (N := 6) ?hd (xs := ([] : List (S23))) (inner := []) (ok := fun _ => True) (okp := fun _ => True) ?hr ?hp (fun _ hk => hk) trivial (Below.refl _ _) (Nat.le_refl _) (by simp) ?_; (case hd => rfl); (case hg => rfl); (case hr => first | (go_simp; done) | (go_simp; rfl)); (case hp => exact (Reps.none _ _)); intro v258 w5 ho6 hb hg_ hnew_; clear hg_ hnew_; (first | rw [← Ny257.out] at ho6 | (simp only [Int.reduceToNat] at ho6; rw [← Ny257.out] at ho6)); have n0_ := ak_ (Kd.R_lower ho6 (keep_size (w := w) (g := g) (row := none) kb_)); have n1_ := ak_ (IsS155.below (isS155_a HI0) hb); have n2_ := ak_ (KeepBut.trans kb_ (KeepBut.of_below hb g none) (.inl rfl)); have n3_ := ak_ (below_step (hz_ (IsS155.ge HI0.out)) hb); clear HI0 HK HB; have HO259 := n0_; have HI0 := n1_; have HK := n2_; have HB := n3_; clear n0_ n1_ n2_ n3_; clear hb ho6) | ((with_reducible refine gate_callee (f := 86) rfl ?_); refine goesL_ (some 8) rfl rfl Tryd.func86 (by kernel_rfl) rfl #[.pointer (some ⟨g, 0, none⟩), .int .i64 7] rfl ln_ ?_; (with_reducible refine (spec_l00Src_pick.calls g s0_0 s0_1 s0_2 7 t260 t261 t262 w0 _ (isS155_a HI0) (hz_ (IsS155.ge HI0.out)) A2.out).mono ?_); rintro e w7 ⟨rfl, hi, hb, hk⟩; refine ⟨_, rfl, ?_⟩; replace HO259 := ak_ (Kd.R_mono (Kd.R_keep (IsS155.apart (show IsS155 w0 _ g s0_0 s0_1 s0_2 from isS155_a HI0) (kr_ HO259) (by decide)) hk (fun _ h => h.2)) (fun _ h => h.1)); replace HK := ak_ (KeepBut.trans kb_ hk (.inl rfl)); replace HB := ak_ (hb); replace HI0 := ak_ (hi); skip; clear hb hk hi) | ((with_reducible refine gate_callee (f := 84) rfl ?_); refine goesL_ (some 10) rfl rfl Tryd.func84 (by kernel_rfl) rfl #[.pointer (some ⟨g, 0, none⟩), .int .i64 16] rfl ln_ ?_; (with_reducible refine (spec_l00Src_one.calls g s0_0 t261 t262 16 t263 t264 t265 w0 _ (isS155_a HI0) (hz_ (IsS155.ge HI0.out)) A3.out).mono ?_); rintro e w8 ⟨rfl, hi, hb, hk⟩; refine ⟨_, rfl, ?_⟩; replace HO259 := ak_ (Kd.R_mono (Kd.R_keep (IsS155.apart (show IsS155 w0 _ g s0_0 t261 t262 from isS155_a HI0) (kr_ HO259) (by decide)) hk (fun _ h => h.2)) (fun _ h => h.1)); replace HK := ak_ (KeepBut.trans kb_ hk (.inl rfl)); replace HB := ak_ (hb); replace HI0 := ak_ (hi); skip; clear hb hk hi))
 (try simp only [Act.put, List.setIfInBounds_toArray, List.set_cons_zero, List.set_cons_succ])
 go_cut [4] (fun v4 wc => ∃ (kq : Nat) (x4_3 : Int) (x1001_3 : Int) (x1002_3 : Int), v4 = .int .i64 x4_3 ∧ Aside0 (spec_l23Draw.j0 kq y257 x4_3 s0_0 x1001_3 x1002_3 = some (r1, r2, r3)) ∧ Aside0 (kq ≤ k) ∧ Aside0 (Kd.R k23 23 wc w.heap.size (fun _ => True) v258 y257) ∧ Aside0 (IsS155 w0 wc g s0_0 x1001_3 x1002_3) ∧ Aside0 (KeepBut w wc g none) ∧ Aside0 (Below w0.heap.size w0 wc))
 case first =>
  have H := HC4.out
  clear HC4
  by_cases c9 : t263 = true
  rotate_left
  ·replace c9 := Bool.eq_false_iff.mpr c9
   subst c9
   have H1 : (spec_l23Draw.j0 k y257 t260 s0_0 t264 t265) = some (r1, r2, r3) := by rw [if_neg (show ¬ (false = true) by decide)] at H; exact H
   clear H
   have H := H1
   clear H1
   have H' := ak_ H
   clear H
   go_wp2
   go_meet
   case rel => exact ⟨_, (t260), (t264), (t265), fr_, H', ⟨by first | omega | exact Nat.le_refl _⟩, ⟨kr_ HO259⟩, ⟨by repeat (first | (with_reducible first | exact HI0.out | apply IsS155.alloc | apply IsS155.drewN | apply IsS155.drew | apply IsS155.set_1 | apply IsS155.set_2) | exact HI0.out)⟩, ⟨kb_⟩, ⟨hz_ (IsS155.ge HI0.out)⟩⟩
  subst c9
  have H1 : ((spec_l00Src_among.f s0_0 t264 t265 (([7, 8, 40, 41] : List Int))).bind fun bt269 => (spec_l23Draw.j0 k y257 bt269.1 s0_0 bt269.2.1 bt269.2.2)) = some (r1, r2, r3) := by rw [if_pos rfl] at H; exact H
  clear H
  have H := H1
  clear H1
  obtain ⟨y266, hy266⟩ : ∃ y_ : List Int, y_ = (([7, 8, 40, 41] : List Int)) := ⟨_, rfl⟩
  replace H : ((spec_l00Src_among.f s0_0 t264 t265 y266).bind fun bt269 => (spec_l23Draw.j0 k y257 bt269.1 s0_0 bt269.2.1 bt269.2.2)) = some (r1, r2, r3) := by first | (rw [hy266]; with_reducible exact H) | (have H2_ := (Option.bind_some _ _).symm.trans H; rw [hy266]; with_reducible exact H2_) | (have H2_ := (Option.bind_some _ _).symm.trans H; with_reducible exact H2_) | with_reducible exact H | (rw [hy266]; exact H) | exact H
  have Ny266 := ak_ hy266
  clear hy266
  replace H := ob_ H
  obtain ⟨⟨t269, t270, t271⟩, A100, H⟩ := H
  (try dsimp only at H)
  have A10 := ak_ A100
  clear A100
  have H' := ak_ H
  clear H
  go_wp2_with (first | ((with_reducible refine gate_dst (N := 12) rfl ?_); refine Kd.R_lit (Kd.int .i64) _ 2 ?hg (N := 12) ?hd (xs := ([7, 8, 40, 41] : List Int)) (inner := [.int .i64 7, .int .i64 8, .int .i64 40, .int .i64 41]) (ok := fun _ => True) (okp := fun _ => True) ?hr ?hp (fun _ hk => hk) trivial (Below.refl _ _) (Nat.le_refl _) (by simp) ?_; (case hd => rfl); (case hg => rfl); (case hr => first | (go_simp; done) | (go_simp; rfl)); (case hp => exact (Reps.one (show Kd.M (Kd.int .i64) _ _ _ 7 [.int .i64 7] from rfl) (Reps.one (show Kd.M (Kd.int .i64) _ _ _ 8 [.int .i64 8] from rfl) (Reps.one (show Kd.M (Kd.int .i64) _ _ _ 40 [.int .i64 40] from rfl) (Reps.one (show Kd.M (Kd.int .i64) _ _ _ 41 [.int .i64 41] from rfl) (Reps.none _ _)))))); intro v267 w11 ho12 hb hg_ hnew_; clear hg_ hnew_; (first | rw [← Ny266.out] at ho12 | (simp only [Int.reduceToNat] at ho12; rw [← Ny266.out] at ho12)); have n0_ := ak_ (Kd.R_below (kr_ HO259) hb); have n1_ := ak_ (Kd.R_lower ho12 (keep_size (w := w) (g := g) (row := none) kb_)); have n2_ := ak_ (IsS155.below (isS155_a HI0) hb); have n3_ := ak_ (KeepBut.trans kb_ (KeepBut.of_below hb g none) (.inl rfl)); have n4_ := ak_ (below_step (hz_ (IsS155.ge HI0.out)) hb); clear HO259 HI0 HK HB; have HO259 := n0_; have HO268 := n1_; have HI0 := n2_; have HK := n3_; have HB := n4_; clear n0_ n1_ n2_ n3_ n4_; clear hb ho12; obtain ⟨Ao13, co13, eo13⟩ := Kd.R_slice HO268.out; subst eo13) | ((with_reducible refine gate_callee (f := 85) rfl ?_); refine goesL_ (some 13) rfl rfl Tryd.func85 (by kernel_rfl) rfl #[.pointer (some ⟨g, 0, none⟩), .slice Ao13 y266.length co13] rfl ln_ ?_; (with_reducible refine (spec_l00Src_among.calls g s0_0 t264 t265 _ _ y266 t269 t270 t271 w0 _ (isS155_a HI0) (hz_ (IsS155.ge HI0.out)) ?side3 ((Kd.R_reads' HO268.out).2.1) (far_slice (IsS155.own_ne HI0.out HO268.out (by decide))) A10.out).mono ?_); (case side3 => repeat (first | exact (Kd.R_reads' HO268.out).2.2 | (with_reducible refine Kd.C_alloc ?_ _) | (with_reducible refine Kd.C_drewN ?_ _) | (with_reducible refine Kd.C_drew ?_))); rintro e w14 ⟨rfl, hi, hb, hk⟩; refine ⟨_, rfl, ?_⟩; replace HO259 := ak_ (Kd.R_mono (Kd.R_keep (IsS155.apart (show IsS155 w0 _ g s0_0 t264 t265 from isS155_a HI0) (kr_ HO259) (by decide)) hk (fun _ h => h.2)) (fun _ h => h.1)); replace HO268 := ak_ (Kd.R_mono (Kd.R_keep (IsS155.apart (show IsS155 w0 _ g s0_0 t264 t265 from isS155_a HI0) (kr_ HO268) (by decide)) hk (fun _ h => h.2)) (fun _ h => h.1)); replace HK := ak_ (KeepBut.trans kb_ hk (.inl rfl)); replace HB := ak_ (hb); replace HI0 := ak_ (hi); skip; clear hb hk hi))
  go_meet
  case rel => exact ⟨_, (t269), (t270), (t271), fr_, H', ⟨by first | omega | exact Nat.le_refl _⟩, ⟨kr_ HO259⟩, ⟨by repeat (first | (with_reducible first | exact HI0.out | apply IsS155.alloc | apply IsS155.drewN | apply IsS155.drew | apply IsS155.set_1 | apply IsS155.set_2) | exact HI0.out)⟩, ⟨kb_⟩, ⟨hz_ (IsS155.ge HI0.out)⟩⟩
 case rest =>
  clear HC4
  try clear p2
  try clear c8
  try clear c9
  obtain ⟨kq, x4_3, x1001_3, x1002_3, rfl, HA, HJ3, HO_3, HI0, HK, HB⟩ := hcut
  cases kq with
  | zero => exact absurd HA.out (by simp [spec_l23Draw.j0])
  | succ kj3 =>
   have H := HA.out
   clear HA
   simp only [spec_l23Draw.j0] at H
   have H' := ak_ H
   clear H
   go_wp2
   go_loopg [3, 5] kj3 (fun kq v3 v5 w' => ∃ (x3_2 : List (S23)) (x5_2 : Int) (x1001_2 : Int) (x1002_2 : Int), v5 = .int .i64 x5_2 ∧ Aside0 (spec_l23Draw.l0 kq x3_2 x5_2 s0_0 x1001_2 x1002_2 = some (r1, r2, r3)) ∧ Aside0 (kq ≤ kj3) ∧ Aside0 (Kd.R k23 23 w' w.heap.size (fun _ => True) v3 x3_2) ∧ Aside0 (IsS155 w0 w' g s0_0 x1001_2 x1002_2) ∧ Aside0 (KeepBut w w' g none) ∧ Aside0 (Below w0.heap.size w0 w'))
   case atStart => exact ⟨(y257), (x4_3), (x1001_3), (x1002_3), fr_, H', ⟨Nat.le_refl _⟩, ⟨kr_ HO_3⟩, ⟨by repeat (first | (with_reducible first | exact HI0.out | apply IsS155.alloc | apply IsS155.drewN | apply IsS155.drew | apply IsS155.set_1 | apply IsS155.set_2) | exact HI0.out)⟩, ⟨kb_⟩, ⟨hz_ (IsS155.ge HI0.out)⟩⟩
   case round =>
    clear H'
    try clear p2
    try clear c8
    try clear c9
    try clear p2
    obtain ⟨x3_2, x5_2, x1001_2, x1002_2, rfl, HA, HK2, HO_3, HI0, HK, HB⟩ := hrel
    cases gk with
    | zero => exact absurd HA.out (by simp [spec_l23Draw.l0])
    | succ k2 =>
     have H := HA.out
     clear HA
     simp only [spec_l23Draw.l0] at H
     by_cases c15 : x5_2 > 0
     ·rw [if_pos c15] at H
      have c15b0 : decide (0 < x5_2) = true := dt_ c15
      clear c15
      replace H := ob_ H
      obtain ⟨⟨t272, t273, t274, t275⟩, A160, H⟩ := H
      (try dsimp only at H)
      have A16 := ak_ A160
      clear A160
      by_cases c17 : x3_2.length < 5864062014805
      ·rw [if_pos c17] at H
       have LMc17 := ak_ c17
       clear c17
       obtain ⟨y276, hy276⟩ : ∃ y_ : List (S23), y_ = (x3_2 ++ [(⟨t272, t273⟩ : S23)]) := ⟨_, rfl⟩
       replace H : (spec_l23Draw.l0 k2 y276 (wrap64 (x5_2 - 1)) s0_0 t274 t275) = some (r1, r2, r3) := by first | (rw [hy276]; with_reducible exact H) | (have H2_ := (Option.bind_some _ _).symm.trans H; rw [hy276]; with_reducible exact H2_) | (have H2_ := (Option.bind_some _ _).symm.trans H; with_reducible exact H2_) | with_reducible exact H | (rw [hy276]; exact H) | exact H
       have Ny276 := ak_ hy276
       clear hy276
       have H' := ak_ H
       clear H
       go_wp2_with (first | ((with_reducible refine gate_callee (f := 89) rfl ?_); refine goesL_ (some 21) rfl rfl Tryd.func89 (by kernel_rfl) rfl #[.pointer (some ⟨g, 0, none⟩)] rfl ln_ ?_; (with_reducible refine (spec_l23New.calls g s0_0 x1001_2 x1002_2 t272 t273 t274 t275 w0 _ (isS155_a HI0) (hz_ (IsS155.ge HI0.out)) A16.out).mono ?_); rintro e w18 ⟨rfl, hi, hb, hk⟩; refine ⟨_, rfl, ?_⟩; replace HO_3 := ak_ (Kd.R_mono (Kd.R_keep (IsS155.apart (show IsS155 w0 _ g s0_0 x1001_2 x1002_2 from isS155_a HI0) (kr_ HO_3) (by decide)) hk (fun _ h => h.2)) (fun _ h => h.1)); replace HK := ak_ (KeepBut.trans kb_ hk (.inl rfl)); replace HB := ak_ (hb); replace HI0 := ak_ (hi); skip; clear hb hk hi) | ((with_reducible refine gate_builtin (b := .append) (xs := #[.tmp 19, .tmp 22]) rfl ?_); at_builtin; refine Kd.R_append k23 w.heap.size rfl (.tmp 19) (.tmp 22) 30 23 (.agg #[(.string ⟨#[]⟩), (.int .i64 0)]) 24 rfl Tryd.underlying30 info23 rfl (by decide) (by omega) u3 x3_2 (⟨t272, t273⟩ : S23) [.string t272, .int .i64 t273] (fun _ => True) (fun _ => False) rfl rfl ?aP (fun _ hk => hk.elim) ?aF ?aO (Below.refl _ _) ?aS ?aL ?_; (case aP => exact k23_mkM _ _ _ (⟨t272, t273⟩ : S23)); (case aF => exact (fun _ _ => trivial)); (case aO => exact (kr_ HO_3)); (case aS => exact (keep_size (w := w) (g := g) (row := none) kb_)); (case aL => have := LMc17.out; omega); intro v277 w19 ho hb hg hat; rw [← Ny276.out] at ho; have n0_ := ak_ (IsS155.grown (isS155_a HI0) hg (IsS155.own_ne HI0.out HO_3.out (by decide))); have n1_ := ak_ (below_weaken (hz_ (IsS155.ge HI0.out)) HL.out hb); have n2_ := ak_ (KeepBut.trans kb_ (KeepBut.of_grown hg g) (Kd.R_base2 HO_3.out)); have n3_ := ak_ (ho); clear HI0 HB HK HO_3; have HI0 := n0_; have HB := n1_; have HK := n2_; have HO278 := n3_; clear n0_ n1_ n2_ n3_; clear ho hb hg hat))
       go_roundg k2
       case measure => have := HJ3.out; have := HK2.out; omega
       case rel => exact ⟨(y276), (wrap64 (x5_2 - 1)), (t274), (t275), fr_, H', ⟨by have := HJ3.out; have := HK2.out; omega⟩, ⟨kr_ HO278⟩, ⟨by repeat (first | (with_reducible first | exact HI0.out | apply IsS155.alloc | apply IsS155.drewN | apply IsS155.drew | apply IsS155.set_1 | apply IsS155.set_2) | exact HI0.out)⟩, ⟨kb_⟩, ⟨hz_ (IsS155.ge HI0.out)⟩⟩
      ·rw [if_neg c17] at H
       exact absurd H (by simp)
     ·rw [if_neg c15] at H
      have c15b0 : decide (0 < x5_2) = false := decide_eq_false c15
      clear c15
      simp only [Option.some.injEq, Prod.mk.injEq] at H
      obtain ⟨rfl, rfl, rfl⟩ := H
      go_wp2
      go_ret
      exact ⟨_, ew_, by (with_reducible repeat (first | apply Kd.R_alloc | apply Kd.R_drewN | apply Kd.R_drew)); exact HO_3.out, isS155_a HI0, hz_ (IsS155.ge HI0.out), kb_⟩

/-! ### spec_l23Bent: function 77 -/
def spec_l23Bent.f (k : Nat) (s0_0 : List Int) (s0_1 : Int) (s0_2 : Int) : Option ((List (S23)) × Int × Int) := (spec_l23Draw.f k s0_0 s0_1 s0_2).bind fun bt279 => (if (bt279.1.length : Int) = 0 then (some (bt279.1, bt279.2.1, bt279.2.2)) else ((spec_l00Src_pick.f s0_0 bt279.2.1 bt279.2.2 (bt279.1.length : Int)).bind fun bt284 => (if 0 ≤ bt284.1 then (if bt284.1 < (bt279.1.length : Int) then ((spec_l00Src_pick.f s0_0 bt284.2.1 bt284.2.2 24).bind fun bt287 => (if bt287.1 = 0 then ((spec_l00Src_text.f s0_0 bt287.2.1 bt287.2.2 (([(⟨#[]⟩ : ByteArray), (⟨#[72, 101, 109, 112]⟩ : ByteArray)] : List ByteArray))).bind fun bt293 => (some ((bt279.1.set (bt284.1 : Int).toNat (⟨bt293.1, (rd_T23 bt279.1 bt284.1).f1⟩ : S23)), bt293.2.1, bt293.2.2))) else (if bt287.1 = 1 then ((spec_l00Src_among.f s0_0 bt287.2.1 bt287.2.2 (([(-1), 0, 1, 100000, 100001, (-9223372036854775808)] : List Int))).bind fun bt300 => (some ((bt279.1.set (bt284.1 : Int).toNat (⟨(rd_T23 bt279.1 bt284.1).f0, bt300.1⟩ : S23)), bt300.2.1, bt300.2.2))) else (some (bt279.1, bt287.2.1, bt287.2.2))))) else (none)) else (none))))
set_option maxHeartbeats 8000000 in
set_option maxRecDepth 100000 in
theorem spec_l23Bent.calls (k : Nat) (g : Nat) (s0_0 : List Int) (s0_1 : Int) (s0_2 : Int) (r1 : List (S23)) (r2 : Int) (r3 : Int) (w0 w : World) (hI : IsS155 w0 w g s0_0 s0_1 s0_2) (hB : Below w0.heap.size w0 w) (h : spec_l23Bent.f k s0_0 s0_1 s0_2 = some (r1, r2, r3)) :
  Calls Tryd.prog 77 #[.pointer (some ⟨g, 0, none⟩)] w fun e w' => ∃ v0_ : Value, e = .returned (v0_) ∧ Kd.R k23 23 w' w.heap.size (fun _ => True) v0_ r1 ∧ IsS155 w0 w' g s0_0 r2 r3 ∧ Below w0.heap.size w0 w' ∧ KeepBut w w' g none := by
 have HI0 := ak_ hI
 have HK := ak_ (KeepBut.refl w g none)
 have HL := ak_ hB.size
 clear hI
 have HW0 := ak_ hB.size
 have HB := ak_ hB
 clear hB
 have H : ((spec_l23Draw.f k s0_0 s0_1 s0_2).bind fun bt279 => (if (bt279.1.length : Int) = 0 then (some (bt279.1, bt279.2.1, bt279.2.2)) else ((spec_l00Src_pick.f s0_0 bt279.2.1 bt279.2.2 (bt279.1.length : Int)).bind fun bt284 => (if 0 ≤ bt284.1 then (if bt284.1 < (bt279.1.length : Int) then ((spec_l00Src_pick.f s0_0 bt284.2.1 bt284.2.2 24).bind fun bt287 => (if bt287.1 = 0 then ((spec_l00Src_text.f s0_0 bt287.2.1 bt287.2.2 (([(⟨#[]⟩ : ByteArray), (⟨#[72, 101, 109, 112]⟩ : ByteArray)] : List ByteArray))).bind fun bt293 => (some ((bt279.1.set (bt284.1 : Int).toNat (⟨bt293.1, (rd_T23 bt279.1 bt284.1).f1⟩ : S23)), bt293.2.1, bt293.2.2))) else (if bt287.1 = 1 then ((spec_l00Src_among.f s0_0 bt287.2.1 bt287.2.2 (([(-1), 0, 1, 100000, 100001, (-9223372036854775808)] : List Int))).bind fun bt300 => (some ((bt279.1.set (bt284.1 : Int).toNat (⟨(rd_T23 bt279.1 bt284.1).f0, bt300.1⟩ : S23)), bt300.2.1, bt300.2.2))) else (some (bt279.1, bt287.2.1, bt287.2.2))))) else (none)) else (none))))) = some (r1, r2, r3) := h
 clear h
 replace H := ob_ H
 obtain ⟨⟨t279, t282, t283⟩, A20, H⟩ := H
 (try dsimp only at H)
 have A2 := ak_ A20
 clear A20
 by_cases c3 : (t279.length : Int) = 0
 ·rw [if_pos c3] at H
  have c3b0 : ((t279.length : Int) == 0) = true := beq_iff_eq.mpr c3
  have c3b1 : ((t279.length : Int) != 0) = false := bne_eq_false_iff_eq.mpr c3
  clear c3
  simp only [Option.some.injEq, Prod.mk.injEq] at H
  obtain ⟨rfl, rfl, rfl⟩ := H
  go_enter Tryd.func77, Tryd.ntmps77
  go_wp2_with (first | ((with_reducible refine gate_callee (f := 93) rfl ?_); refine goesL_ (some 6) rfl rfl Tryd.func93 (by kernel_rfl) rfl #[.pointer (some ⟨g, 0, none⟩)] rfl ln_ ?_; (with_reducible refine (spec_l23Draw.calls k g s0_0 s0_1 s0_2 t279 t282 t283 w0 _ (isS155_a HI0) (hz_ (IsS155.ge HI0.out)) A2.out).mono ?_); rintro e w4 ⟨v280, rfl, ho0, hi, hb, hk⟩; refine ⟨_, rfl, ?_⟩; have HO281 := ak_ (Kd.R_lower ho0 (keep_size (w := w) (g := g) (row := none) kb_)); replace HK := ak_ (KeepBut.trans kb_ hk (.inl rfl)); replace HB := ak_ (hb); replace HI0 := ak_ (hi); skip; (try clear hb); (try clear hb2); (try clear hk); (try clear hi); (try clear ho0); obtain ⟨Ao5, co5, eo5⟩ := Kd.R_slice HO281.out; subst eo5))
  go_ret
  exact ⟨_, ew_, by (with_reducible repeat (first | apply Kd.R_alloc | apply Kd.R_drewN | apply Kd.R_drew)); exact HO281.out, isS155_a HI0, hz_ (IsS155.ge HI0.out), kb_⟩
 rw [if_neg c3] at H
 have c3b0 : ((t279.length : Int) == 0) = false := beq_eq_false_iff_ne.mpr c3
 have c3b1 : ((t279.length : Int) != 0) = true := bne_iff_ne.mpr c3
 have c3b2 : ¬ (t279 = []) := fun h_ => c3 (by rw [h_]; rfl)
 replace H := ob_ H
 obtain ⟨⟨t284, t285, t286⟩, A60, H⟩ := H
 (try dsimp only at H)
 have A6 := ak_ A60
 clear A60
 by_cases c7 : 0 ≤ t284
 rotate_left
 ·rw [if_neg c7] at H
  exact absurd H (by simp)

 rw [if_pos c7] at H
 have c7b0 : decide (0 ≤ t284) = true := dt_ c7
 clear c7
 by_cases c8 : t284 < (t279.length : Int)
 rotate_left
 ·rw [if_neg c8] at H
  exact absurd H (by simp)
 rw [if_pos c8] at H
 have c8b0 : decide (t284 < (t279.length : Int)) = true := dt_ c8
 clear c8
 replace H := ob_ H
 obtain ⟨⟨t287, t288, t289⟩, A100, H⟩ := H
 (try dsimp only at H)
 have A10 := ak_ A100
 clear A100
 by_cases c11 : t287 = 0
 ·rw [if_pos c11] at H
  have c11b0 : (t287 == 0) = true := beq_iff_eq.mpr c11
  have c11b1 : (t287 != 0) = false := bne_eq_false_iff_eq.mpr c11
  clear c11
  obtain ⟨y290, hy290⟩ : ∃ y_ : List ByteArray, y_ = (([(⟨#[]⟩ : ByteArray), (⟨#[72, 101, 109, 112]⟩ : ByteArray)] : List ByteArray)) := ⟨_, rfl⟩
  replace H : ((spec_l00Src_text.f s0_0 t288 t289 y290).bind fun bt293 => (some ((t279.set (t284 : Int).toNat (⟨bt293.1, (rd_T23 t279 t284).f1⟩ : S23)), bt293.2.1, bt293.2.2))) = some (r1, r2, r3) := by first | (rw [hy290]; with_reducible exact H) | (have H2_ := (Option.bind_some _ _).symm.trans H; rw [hy290]; with_reducible exact H2_) | (have H2_ := (Option.bind_some _ _).symm.trans H; with_reducible exact H2_) | with_reducible exact H | (rw [hy290]; exact H) | exact H
  have Ny290 := ak_ hy290
  clear hy290
  replace H := ob_ H
  obtain ⟨⟨t293, t294, t295⟩, A120, H⟩ := H
  (try dsimp only at H)
  have A12 := ak_ A120
  clear A120
  obtain ⟨y296, hy296⟩ : ∃ y_ : List (S23), y_ = (t279.set (t284 : Int).toNat (⟨t293, (rd_T23 t279 t284).f1⟩ : S23)) := ⟨_, rfl⟩
  replace H : (some (y296, t294, t295)) = some (r1, r2, r3) := by first | (rw [hy296]; with_reducible exact H) | (have H2_ := (Option.bind_some _ _).symm.trans H; rw [hy296]; with_reducible exact H2_) | (have H2_ := (Option.bind_some _ _).symm.trans H; with_reducible exact H2_) | with_reducible exact H | (rw [hy296]; exact H) | exact H
  have Ny296 := ak_ hy296
  clear hy296
  simp only [Option.some.injEq, Prod.mk.injEq] at H
  obtain ⟨rfl, rfl, rfl⟩ := H
  go_enter Tryd.func77, Tryd.ntmps77
  go_wp2_with (first | ((with_reducible refine gate_callee (f := 93) rfl ?_); refine goesL_ (some 6) rfl rfl Tryd.func93 (by kernel_rfl) rfl #[.pointer (some ⟨g, 0, none⟩)] rfl ln_ ?_; (with_reducible refine (spec_l23Draw.calls k g s0_0 s0_1 s0_2 t279 t282 t283 w0 _ (isS155_a HI0) (hz_ (IsS155.ge HI0.out)) A2.out).mono ?_); rintro e w13 ⟨v280, rfl, ho0, hi, hb, hk⟩; refine ⟨_, rfl, ?_⟩; have HO281 := ak_ (Kd.R_lower ho0 (keep_size (w := w) (g := g) (row := none) kb_)); replace HK := ak_ (KeepBut.trans kb_ hk (.inl rfl)); replace HB := ak_ (hb); replace HI0 := ak_ (hi); skip; (try clear hb); (try clear hb2); (try clear hk); (try clear hi); (try clear ho0); obtain ⟨Ao14, co14, eo14⟩ := Kd.R_slice HO281.out; subst eo14) | ((with_reducible refine gate_callee (f := 86) rfl ?_); refine goesL_ (some 15) rfl rfl Tryd.func86 (by kernel_rfl) rfl #[.pointer (some ⟨g, 0, none⟩), .int .i64 (t279.length : Int)] rfl ln_ ?_; (with_reducible refine (spec_l00Src_pick.calls g s0_0 t282 t283 (t279.length : Int) t284 t285 t286 w0 _ (isS155_a HI0) (hz_ (IsS155.ge HI0.out)) A6.out).mono ?_); rintro e w15 ⟨rfl, hi, hb, hk⟩; refine ⟨_, rfl, ?_⟩; replace HO281 := ak_ (Kd.R_mono (Kd.R_keep (IsS155.apart (show IsS155 w0 _ g s0_0 t282 t283 from isS155_a HI0) (kr_ HO281) (by decide)) hk (fun _ h => h.2)) (fun _ h => h.1)); replace HK := ak_ (KeepBut.trans kb_ hk (.inl rfl)); replace HB := ak_ (hb); replace HI0 := ak_ (hi); skip; (try clear hb); (try clear hb2); (try clear hk); (try clear hi); have p9 : 0 ≤ (t284 : Int) := od_; have q9 : (t284 : Int) < ((t279.length : Int) : Int) := od_; obtain ⟨go9, co9, eo9, gb9, gl9, cl9, HG9⟩ := Kd.R_form HO281.out (by omega); (first | cases eo9 | (injection eo9 with ea_ en_ ec_; (first | subst ea_ | (injection ea_ with ea_; subst ea_)); subst ec_; clear en_)); have GB9 := ak_ gb9; have GG9 := ak_ HG9; clear gb9 gl9 HG9; obtain ⟨ce9, hcl9, hM9, hcc9, hfr9⟩ := Kd.R_elem HO281.out z23 (t284 : Int) p9 q9; obtain rfl := k23_openM hM9; have hx9_0 : w15.cell? ⟨go9, (t284 : Int).toNat * 2, none⟩ = some (.string ((rd_T23 t279 t284).f0)) := hcc9 0 _ rfl; have hx9_1 : w15.cell? ⟨go9, (t284 : Int).toNat * 2 + 1, none⟩ = some (.int .i64 ((rd_T23 t279 t284).f1)) := hcc9 1 _ rfl; have hf9_0 : w15.frozen? ⟨go9, (t284 : Int).toNat * 2, none⟩ = false := hfr9 0; have hf9_1 : w15.frozen? ⟨go9, (t284 : Int).toNat * 2 + 1, none⟩ = false := hfr9 1; (try clear hcl9); (try clear hcc9); (try clear hfr9); (try clear hM9); replace p9 := eq_true p9; replace q9 := eq_true q9) | ((with_reducible refine gate_callee (f := 86) rfl ?_); refine goesL_ (some 18) rfl rfl Tryd.func86 (by kernel_rfl) rfl #[.pointer (some ⟨g, 0, none⟩), .int .i64 24] rfl ln_ ?_; (with_reducible refine (spec_l00Src_pick.calls g s0_0 t285 t286 24 t287 t288 t289 w0 _ (isS155_a HI0) (hz_ (IsS155.ge HI0.out)) A10.out).mono ?_); rintro e w16 ⟨rfl, hi, hb, hk⟩; refine ⟨_, rfl, ?_⟩; replace HO281 := ak_ (Kd.R_mono (Kd.R_keep (IsS155.apart (show IsS155 w0 _ g s0_0 t285 t286 from isS155_a HI0) (kr_ HO281) (by decide)) hk (fun _ h => h.2)) (fun _ h => h.1)); replace HK := ak_ (KeepBut.trans kb_ hk (.inl rfl)); replace HB := ak_ (hb); replace HI0 := ak_ (hi); skip; clear hb hk hi) | ((with_reducible refine gate_dst (N := 23) rfl ?_); refine Kd.R_lit Kd.string _ 9 ?hg (N := 23) ?hd (xs := ([(⟨#[]⟩ : ByteArray), (⟨#[72, 101, 109, 112]⟩ : ByteArray)] : List ByteArray)) (inner := [.string (⟨#[]⟩ : ByteArray), .string (⟨#[72, 101, 109, 112]⟩ : ByteArray)]) (ok := fun _ => True) (okp := fun _ => True) ?hr ?hp (fun _ hk => hk) trivial (Below.refl _ _) (Nat.le_refl _) (by simp) ?_; (case hd => rfl); (case hg => rfl); (case hr => first | (go_simp; done) | (go_simp; rfl)); (case hp => exact (Reps.one (show Kd.M Kd.string _ _ _ (⟨#[]⟩ : ByteArray) [.string (⟨#[]⟩ : ByteArray)] from rfl) (Reps.one (show Kd.M Kd.string _ _ _ (⟨#[72, 101, 109, 112]⟩ : ByteArray) [.string (⟨#[72, 101, 109, 112]⟩ : ByteArray)] from rfl) (Reps.none _ _)))); intro v291 w17 ho18 hb hg_ hnew_; clear hg_ hnew_; (first | rw [← Ny290.out] at ho18 | (simp only [Int.reduceToNat] at ho18; rw [← Ny290.out] at ho18)); have n0_ := ak_ (Kd.R_below (kr_ HO281) hb); have n1_ := ak_ (Kd.R_lower ho18 (keep_size (w := w) (g := g) (row := none) kb_)); have n2_ := ak_ (IsS155.below (isS155_a HI0) hb); have n3_ := ak_ (KeepBut.trans kb_ (KeepBut.of_below hb g none) (.inl rfl)); have n4_ := ak_ (below_step (hz_ (IsS155.ge HI0.out)) hb); clear HO281 HI0 HK HB; have HO281 := n0_; have HO292 := n1_; have HI0 := n2_; have HK := n3_; have HB := n4_; clear n0_ n1_ n2_ n3_ n4_; clear hb ho18; obtain ⟨Ao19, co19, eo19⟩ := Kd.R_slice HO292.out; subst eo19) | ((with_reducible refine gate_callee (f := 78) rfl ?_); refine goesL_ (some 24) rfl rfl Tryd.func78 (by kernel_rfl) rfl #[.pointer (some ⟨g, 0, none⟩), .slice Ao19 y290.length co19] rfl ln_ ?_; (with_reducible refine (spec_l00Src_text.calls g s0_0 t288 t289 _ _ y290 t293 t294 t295 w0 _ (isS155_a HI0) (hz_ (IsS155.ge HI0.out)) ?side3 ((Kd.R_reads' HO292.out).2.1) (far_slice (IsS155.own_ne HI0.out HO292.out (by decide))) A12.out).mono ?_); (case side3 => repeat (first | exact (Kd.R_reads' HO292.out).2.2 | (with_reducible refine Kd.C_alloc ?_ _) | (with_reducible refine Kd.C_drewN ?_ _) | (with_reducible refine Kd.C_drew ?_))); rintro e w20 ⟨rfl, hi, hb, hk⟩; refine ⟨_, rfl, ?_⟩; replace HO281 := ak_ (Kd.R_mono (Kd.R_keep (IsS155.apart (show IsS155 w0 _ g s0_0 t288 t289 from isS155_a HI0) (kr_ HO281) (by decide)) hk (fun _ h => h.2)) (fun _ h => h.1)); replace HO292 := ak_ (Kd.R_mono (Kd.R_keep (IsS155.apart (show IsS155 w0 _ g s0_0 t288 t289 from isS155_a HI0) (kr_ HO292) (by decide)) hk (fun _ h => h.2)) (fun _ h => h.1)); replace HK := ak_ (KeepBut.trans kb_ hk (.inl rfl)); replace HB := ak_ (hb); replace HI0 := ak_ (hi); skip; (try clear hb); (try clear hb2); (try clear hk); (try clear hi); have HX21 := ak_ (show Kd.R k23 23 w20 w.heap.size (fun _ => True) (.slice (some ⟨go9, 0, none⟩) t279.length co14) t279 from (kr_ HO281)); obtain ⟨ce21, hcl21, hM21, hcc21, hfr21⟩ := Kd.R_elem HX21.out z23 (t284 : Int) (od_) (by have h_ : (t284 : Int) < ((t279.length : Int) : Int) := od_; first | exact h_ | (have e_ := (Kd.R_reads' HO281.out).1; omega) | simpa using h_); obtain rfl := k23_openM hM21; have HP21 := Kd.R_seg HX21.out (t284 : Int) (od_) (by have h_ : (t284 : Int) < ((t279.length : Int) : Int) := od_; first | exact h_ | (have e_ := (Kd.R_reads' HO281.out).1; omega) | simpa using h_) (seg := [.string t293]) (j := 0) hcl21 hcc21 (show 1 ≤ 2 from by decide) (x' := (⟨t293, (rd_T23 t279 t284).f1⟩ : S23)) (k23_mkM _ _ _ (⟨t293, (rd_T23 t279 t284).f1⟩ : S23) ) (fun _ hk => hk); have hx21_0 := hcc21 0 _ rfl; (try simp only [show (k23).sz = 2 from rfl, Nat.mul_one, Nat.add_zero] at hx21_0); have hf21_0 := hfr21 0; (try simp only [show (k23).sz = 2 from rfl, Nat.mul_one, Nat.add_zero] at hf21_0); (try clear hcl21); (try clear hcc21); (try clear hfr21); (try clear hM21)) | ((with_reducible refine gate_store (t := 9) (p := 26) rfl ?_); refine store_event (t := 9) (p := 26) (v := ?vo_w22) (w1 := (w20.setCell ⟨go9, (t284 : Int).toNat * 2, none⟩ (.string t293))) ?hg ?ho ?hn ?hr ?_; (case ho => rfl); (case hg => rfl); (case hn => rfl); (case hr => first | (go_simp; done) | (go_simp; rfl)); intro w22 hw; have hg : w20.grownBy w22 (some go9) := (by rw [hw]; exact HP21.2); have hp_ : Kd.R k23 23 w22 w.heap.size (fun _ => True) (.slice (some ⟨go9, 0, none⟩) t279.length co14) y296 := (by rw [hw, Ny296.out]; exact HP21.1); clear HP21; replace HI0 := ak_ (IsS155.grown (isS155_a HI0) hg (IsS155.own_ne HI0.out HO281.out (by decide))); replace HO292 := ak_ (Kd.R_over' (v := (.slice (some ⟨go9, 0, none⟩) t279.length co14)) (kr_ HO292) (Kd.R_typed HO281.out) (by decide) hg); replace HB := ak_ ((by rw [hw]; exact below_set (HB.out) (Nat.le_trans HL.out GB9.out) : Below w0.heap.size w0 w22)); replace HK := ak_ (KeepBut.trans kb_ (KeepBut.of_grown hg g) (Kd.R_base2 HO281.out)); replace HO281 := ak_ (hp_); skip; clear hg hw hp_))
  go_ret
  exact ⟨_, ew_, by (with_reducible repeat (first | apply Kd.R_alloc | apply Kd.R_drewN | apply Kd.R_drew)); exact HO281.out, isS155_a HI0, hz_ (IsS155.ge HI0.out), kb_⟩
 rw [if_neg c11] at H
 have c11b0 : (t287 == 0) = false := beq_eq_false_iff_ne.mpr c11
 have c11b1 : (t287 != 0) = true := bne_iff_ne.mpr c11
 by_cases c23 : t287 = 1
 rotate_left
 ·rw [if_neg c23] at H
  have c23b0 : (t287 == 1) = false := beq_eq_false_iff_ne.mpr c23
  have c23b1 : (t287 != 1) = true := bne_iff_ne.mpr c23
  simp only [Option.some.injEq, Prod.mk.injEq] at H
  obtain ⟨rfl, rfl, rfl⟩ := H
  go_enter Tryd.func77, Tryd.ntmps77
  go_wp2_with (first | ((with_reducible refine gate_callee (f := 93) rfl ?_); refine goesL_ (some 6) rfl rfl Tryd.func93 (by kernel_rfl) rfl #[.pointer (some ⟨g, 0, none⟩)] rfl ln_ ?_; (with_reducible refine (spec_l23Draw.calls k g s0_0 s0_1 s0_2 t279 t282 t283 w0 _ (isS155_a HI0) (hz_ (IsS155.ge HI0.out)) A2.out).mono ?_); rintro e w35 ⟨v280, rfl, ho0, hi, hb, hk⟩; refine ⟨_, rfl, ?_⟩; have HO281 := ak_ (Kd.R_lower ho0 (keep_size (w := w) (g := g) (row := none) kb_)); replace HK := ak_ (KeepBut.trans kb_ hk (.inl rfl)); replace HB := ak_ (hb); replace HI0 := ak_ (hi); skip; (try clear hb); (try clear hb2); (try clear hk); (try clear hi); (try clear ho0); obtain ⟨Ao36, co36, eo36⟩ := Kd.R_slice HO281.out; subst eo36) | ((with_reducible refine gate_callee (f := 86) rfl ?_); refine goesL_ (some 15) rfl rfl Tryd.func86 (by kernel_rfl) rfl #[.pointer (some ⟨g, 0, none⟩), .int .i64 (t279.length : Int)] rfl ln_ ?_; (with_reducible refine (spec_l00Src_pick.calls g s0_0 t282 t283 (t279.length : Int) t284 t285 t286 w0 _ (isS155_a HI0) (hz_ (IsS155.ge HI0.out)) A6.out).mono ?_); rintro e w37 ⟨rfl, hi, hb, hk⟩; refine ⟨_, rfl, ?_⟩; replace HO281 := ak_ (Kd.R_mono (Kd.R_keep (IsS155.apart (show IsS155 w0 _ g s0_0 t282 t283 from isS155_a HI0) (kr_ HO281) (by decide)) hk (fun _ h => h.2)) (fun _ h => h.1)); replace HK := ak_ (KeepBut.trans kb_ hk (.inl rfl)); replace HB := ak_ (hb); replace HI0 := ak_ (hi); skip; (try clear hb); (try clear hb2); (try clear hk); (try clear hi); have p9 : 0 ≤ (t284 : Int) := od_; have q9 : (t284 : Int) < ((t279.length : Int) : Int) := od_; obtain ⟨go9, co9, eo9, gb9, gl9, cl9, HG9⟩ := Kd.R_form HO281.out (by omega); (first | cases eo9 | (injection eo9 with ea_ en_ ec_; (first | subst ea_ | (injection ea_ with ea_; subst ea_)); subst ec_; clear en_)); have GB9 := ak_ gb9; have GG9 := ak_ HG9; clear gb9 gl9 HG9; obtain ⟨ce9, hcl9, hM9, hcc9, hfr9⟩ := Kd.R_elem HO281.out z23 (t284 : Int) p9 q9; obtain rfl := k23_openM hM9; have hx9_0 : w37.cell? ⟨go9, (t284 : Int).toNat * 2, none⟩ = some (.string ((rd_T23 t279 t284).f0)) := hcc9 0 _ rfl; have hx9_1 : w37.cell? ⟨go9, (t284 : Int).toNat * 2 + 1, none⟩ = some (.int .i64 ((rd_T23 t279 t284).f1)) := hcc9 1 _ rfl; have hf9_0 : w37.frozen? ⟨go9, (t284 : Int).toNat * 2, none⟩ = false := hfr9 0; have hf9_1 : w37.frozen? ⟨go9, (t284 : Int).toNat * 2 + 1, none⟩ = false := hfr9 1; (try clear hcl9); (try clear hcc9); (try clear hfr9); (try clear hM9); replace p9 := eq_true p9; replace q9 := eq_true q9) | ((with_reducible refine gate_callee (f := 86) rfl ?_); refine goesL_ (some 18) rfl rfl Tryd.func86 (by kernel_rfl) rfl #[.pointer (some ⟨g, 0, none⟩), .int .i64 24] rfl ln_ ?_; (with_reducible refine (spec_l00Src_pick.calls g s0_0 t285 t286 24 t287 t288 t289 w0 _ (isS155_a HI0) (hz_ (IsS155.ge HI0.out)) A10.out).mono ?_); rintro e w38 ⟨rfl, hi, hb, hk⟩; refine ⟨_, rfl, ?_⟩; replace HO281 := ak_ (Kd.R_mono (Kd.R_keep (IsS155.apart (show IsS155 w0 _ g s0_0 t285 t286 from isS155_a HI0) (kr_ HO281) (by decide)) hk (fun _ h => h.2)) (fun _ h => h.1)); replace HK := ak_ (KeepBut.trans kb_ hk (.inl rfl)); replace HB := ak_ (hb); replace HI0 := ak_ (hi); skip; clear hb hk hi))
  go_ret
  exact ⟨_, ew_, by (with_reducible repeat (first | apply Kd.R_alloc | apply Kd.R_drewN | apply Kd.R_drew)); exact HO281.out, isS155_a HI0, hz_ (IsS155.ge HI0.out), kb_⟩
 rw [if_pos c23] at H
 have c23b0 : (t287 == 1) = true := beq_iff_eq.mpr c23
 have c23b1 : (t287 != 1) = false := bne_eq_false_iff_eq.mpr c23
 clear c23
 obtain ⟨y297, hy297⟩ : ∃ y_ : List Int, y_ = (([(-1), 0, 1, 100000, 100001, (-9223372036854775808)] : List Int)) := ⟨_, rfl⟩
 replace H : ((spec_l00Src_among.f s0_0 t288 t289 y297).bind fun bt300 => (some ((t279.set (t284 : Int).toNat (⟨(rd_T23 t279 t284).f0, bt300.1⟩ : S23)), bt300.2.1, bt300.2.2))) = some (r1, r2, r3) := by first | (rw [hy297]; with_reducible exact H) | (have H2_ := (Option.bind_some _ _).symm.trans H; rw [hy297]; with_reducible exact H2_) | (have H2_ := (Option.bind_some _ _).symm.trans H; with_reducible exact H2_) | with_reducible exact H | (rw [hy297]; exact H) | exact H
 have Ny297 := ak_ hy297
 clear hy297
 replace H := ob_ H
 obtain ⟨⟨t300, t301, t302⟩, A240, H⟩ := H
 (try dsimp only at H)
 have A24 := ak_ A240
 clear A240
 obtain ⟨y303, hy303⟩ : ∃ y_ : List (S23), y_ = (t279.set (t284 : Int).toNat (⟨(rd_T23 t279 t284).f0, t300⟩ : S23)) := ⟨_, rfl⟩
 replace H : (some (y303, t301, t302)) = some (r1, r2, r3) := by first | (rw [hy303]; with_reducible exact H) | (have H2_ := (Option.bind_some _ _).symm.trans H; rw [hy303]; with_reducible exact H2_) | (have H2_ := (Option.bind_some _ _).symm.trans H; with_reducible exact H2_) | with_reducible exact H | (rw [hy303]; exact H) | exact H
 have Ny303 := ak_ hy303
 clear hy303
 simp only [Option.some.injEq, Prod.mk.injEq] at H
 obtain ⟨rfl, rfl, rfl⟩ := H
 go_enter Tryd.func77, Tryd.ntmps77
 go_wp2_with (first | ((with_reducible refine gate_callee (f := 93) rfl ?_); refine goesL_ (some 6) rfl rfl Tryd.func93 (by kernel_rfl) rfl #[.pointer (some ⟨g, 0, none⟩)] rfl ln_ ?_; (with_reducible refine (spec_l23Draw.calls k g s0_0 s0_1 s0_2 t279 t282 t283 w0 _ (isS155_a HI0) (hz_ (IsS155.ge HI0.out)) A2.out).mono ?_); rintro e w25 ⟨v280, rfl, ho0, hi, hb, hk⟩; refine ⟨_, rfl, ?_⟩; have HO281 := ak_ (Kd.R_lower ho0 (keep_size (w := w) (g := g) (row := none) kb_)); replace HK := ak_ (KeepBut.trans kb_ hk (.inl rfl)); replace HB := ak_ (hb); replace HI0 := ak_ (hi); skip; (try clear hb); (try clear hb2); (try clear hk); (try clear hi); (try clear ho0); obtain ⟨Ao26, co26, eo26⟩ := Kd.R_slice HO281.out; subst eo26) | ((with_reducible refine gate_callee (f := 86) rfl ?_); refine goesL_ (some 15) rfl rfl Tryd.func86 (by kernel_rfl) rfl #[.pointer (some ⟨g, 0, none⟩), .int .i64 (t279.length : Int)] rfl ln_ ?_; (with_reducible refine (spec_l00Src_pick.calls g s0_0 t282 t283 (t279.length : Int) t284 t285 t286 w0 _ (isS155_a HI0) (hz_ (IsS155.ge HI0.out)) A6.out).mono ?_); rintro e w27 ⟨rfl, hi, hb, hk⟩; refine ⟨_, rfl, ?_⟩; replace HO281 := ak_ (Kd.R_mono (Kd.R_keep (IsS155.apart (show IsS155 w0 _ g s0_0 t282 t283 from isS155_a HI0) (kr_ HO281) (by decide)) hk (fun _ h => h.2)) (fun _ h => h.1)); replace HK := ak_ (KeepBut.trans kb_ hk (.inl rfl)); replace HB := ak_ (hb); replace HI0 := ak_ (hi); skip; (try clear hb); (try clear hb2); (try clear hk); (try clear hi); have p9 : 0 ≤ (t284 : Int) := od_; have q9 : (t284 : Int) < ((t279.length : Int) : Int) := od_; obtain ⟨go9, co9, eo9, gb9, gl9, cl9, HG9⟩ := Kd.R_form HO281.out (by omega); (first | cases eo9 | (injection eo9 with ea_ en_ ec_; (first | subst ea_ | (injection ea_ with ea_; subst ea_)); subst ec_; clear en_)); have GB9 := ak_ gb9; have GG9 := ak_ HG9; clear gb9 gl9 HG9; obtain ⟨ce9, hcl9, hM9, hcc9, hfr9⟩ := Kd.R_elem HO281.out z23 (t284 : Int) p9 q9; obtain rfl := k23_openM hM9; have hx9_0 : w27.cell? ⟨go9, (t284 : Int).toNat * 2, none⟩ = some (.string ((rd_T23 t279 t284).f0)) := hcc9 0 _ rfl; have hx9_1 : w27.cell? ⟨go9, (t284 : Int).toNat * 2 + 1, none⟩ = some (.int .i64 ((rd_T23 t279 t284).f1)) := hcc9 1 _ rfl; have hf9_0 : w27.frozen? ⟨go9, (t284 : Int).toNat * 2, none⟩ = false := hfr9 0; have hf9_1 : w27.frozen? ⟨go9, (t284 : Int).toNat * 2 + 1, none⟩ = false := hfr9 1; (try clear hcl9); (try clear hcc9); (try clear hfr9); (try clear hM9); replace p9 := eq_true p9; replace q9 := eq_true q9) | ((with_reducible refine gate_callee (f := 86) rfl ?_); refine goesL_ (some 18) rfl rfl Tryd.func86 (by kernel_rfl) rfl #[.pointer (some ⟨g, 0, none⟩), .int .i64 24] rfl ln_ ?_; (with_reducible refine (spec_l00Src_pick.calls g s0_0 t285 t286 24 t287 t288 t289 w0 _ (isS155_a HI0) (hz_ (IsS155.ge HI0.out)) A10.out).mono ?_); rintro e w28 ⟨rfl, hi, hb, hk⟩; refine ⟨_, rfl, ?_⟩; replace HO281 := ak_ (Kd.R_mono (Kd.R_keep (IsS155.apart (show IsS155 w0 _ g s0_0 t285 t286 from isS155_a HI0) (kr_ HO281) (by decide)) hk (fun _ h => h.2)) (fun _ h => h.1)); replace HK := ak_ (KeepBut.trans kb_ hk (.inl rfl)); replace HB := ak_ (hb); replace HI0 := ak_ (hi); skip; clear hb hk hi) | ((with_reducible refine gate_dst (N := 31) rfl ?_); refine Kd.R_lit (Kd.int .i64) _ 2 ?hg (N := 31) ?hd (xs := ([(-1), 0, 1, 100000, 100001, (-9223372036854775808)] : List Int)) (inner := [.int .i64 (-1), .int .i64 0, .int .i64 1, .int .i64 100000, .int .i64 100001, .int .i64 (-9223372036854775808)]) (ok := fun _ => True) (okp := fun _ => True) ?hr ?hp (fun _ hk => hk) trivial (Below.refl _ _) (Nat.le_refl _) (by simp) ?_; (case hd => rfl); (case hg => rfl); (case hr => first | (go_simp; done) | (go_simp; rfl)); (case hp => exact (Reps.one (show Kd.M (Kd.int .i64) _ _ _ (-1) [.int .i64 (-1)] from rfl) (Reps.one (show Kd.M (Kd.int .i64) _ _ _ 0 [.int .i64 0] from rfl) (Reps.one (show Kd.M (Kd.int .i64) _ _ _ 1 [.int .i64 1] from rfl) (Reps.one (show Kd.M (Kd.int .i64) _ _ _ 100000 [.int .i64 100000] from rfl) (Reps.one (show Kd.M (Kd.int .i64) _ _ _ 100001 [.int .i64 100001] from rfl) (Reps.one (show Kd.M (Kd.int .i64) _ _ _ (-9223372036854775808) [.int .i64 (-9223372036854775808)] from rfl) (Reps.none _ _)))))))); intro v298 w29 ho30 hb hg_ hnew_; clear hg_ hnew_; (first | rw [← Ny297.out] at ho30 | (simp only [Int.reduceToNat] at ho30; rw [← Ny297.out] at ho30)); have n0_ := ak_ (Kd.R_below (kr_ HO281) hb); have n1_ := ak_ (Kd.R_lower ho30 (keep_size (w := w) (g := g) (row := none) kb_)); have n2_ := ak_ (IsS155.below (isS155_a HI0) hb); have n3_ := ak_ (KeepBut.trans kb_ (KeepBut.of_below hb g none) (.inl rfl)); have n4_ := ak_ (below_step (hz_ (IsS155.ge HI0.out)) hb); clear HO281 HI0 HK HB; have HO281 := n0_; have HO299 := n1_; have HI0 := n2_; have HK := n3_; have HB := n4_; clear n0_ n1_ n2_ n3_ n4_; clear hb ho30; obtain ⟨Ao31, co31, eo31⟩ := Kd.R_slice HO299.out; subst eo31) | ((with_reducible refine gate_callee (f := 85) rfl ?_); refine goesL_ (some 32) rfl rfl Tryd.func85 (by kernel_rfl) rfl #[.pointer (some ⟨g, 0, none⟩), .slice Ao31 y297.length co31] rfl ln_ ?_; (with_reducible refine (spec_l00Src_among.calls g s0_0 t288 t289 _ _ y297 t300 t301 t302 w0 _ (isS155_a HI0) (hz_ (IsS155.ge HI0.out)) ?side3 ((Kd.R_reads' HO299.out).2.1) (far_slice (IsS155.own_ne HI0.out HO299.out (by decide))) A24.out).mono ?_); (case side3 => repeat (first | exact (Kd.R_reads' HO299.out).2.2 | (with_reducible refine Kd.C_alloc ?_ _) | (with_reducible refine Kd.C_drewN ?_ _) | (with_reducible refine Kd.C_drew ?_))); rintro e w32 ⟨rfl, hi, hb, hk⟩; refine ⟨_, rfl, ?_⟩; replace HO281 := ak_ (Kd.R_mono (Kd.R_keep (IsS155.apart (show IsS155 w0 _ g s0_0 t288 t289 from isS155_a HI0) (kr_ HO281) (by decide)) hk (fun _ h => h.2)) (fun _ h => h.1)); replace HO299 := ak_ (Kd.R_mono (Kd.R_keep (IsS155.apart (show IsS155 w0 _ g s0_0 t288 t289 from isS155_a HI0) (kr_ HO299) (by decide)) hk (fun _ h => h.2)) (fun _ h => h.1)); replace HK := ak_ (KeepBut.trans kb_ hk (.inl rfl)); replace HB := ak_ (hb); replace HI0 := ak_ (hi); skip; (try clear hb); (try clear hb2); (try clear hk); (try clear hi); have HX33 := ak_ (show Kd.R k23 23 w32 w.heap.size (fun _ => True) (.slice (some ⟨go9, 0, none⟩) t279.length co26) t279 from (kr_ HO281)); obtain ⟨ce33, hcl33, hM33, hcc33, hfr33⟩ := Kd.R_elem HX33.out z23 (t284 : Int) (od_) (by have h_ : (t284 : Int) < ((t279.length : Int) : Int) := od_; first | exact h_ | (have e_ := (Kd.R_reads' HO281.out).1; omega) | simpa using h_); obtain rfl := k23_openM hM33; have HP33 := Kd.R_seg HX33.out (t284 : Int) (od_) (by have h_ : (t284 : Int) < ((t279.length : Int) : Int) := od_; first | exact h_ | (have e_ := (Kd.R_reads' HO281.out).1; omega) | simpa using h_) (seg := [.int .i64 t300]) (j := 1) hcl33 hcc33 (show 2 ≤ 2 from by decide) (x' := (⟨(rd_T23 t279 t284).f0, t300⟩ : S23)) (k23_mkM _ _ _ (⟨(rd_T23 t279 t284).f0, t300⟩ : S23) ) (fun _ hk => hk); have hx33_1 := hcc33 1 _ rfl; (try simp only [show (k23).sz = 2 from rfl, Nat.mul_one, Nat.add_zero] at hx33_1); have hf33_1 := hfr33 1; (try simp only [show (k23).sz = 2 from rfl, Nat.mul_one, Nat.add_zero] at hf33_1); (try clear hcl33); (try clear hcc33); (try clear hfr33); (try clear hM33)) | ((with_reducible refine gate_store (t := 2) (p := 34) rfl ?_); refine store_event (t := 2) (p := 34) (v := ?vo_w34) (w1 := (w32.setCell ⟨go9, (t284 : Int).toNat * 2 + 1, none⟩ (.int .i64 t300))) ?hg ?ho ?hn ?hr ?_; (case ho => rfl); (case hg => rfl); (case hn => rfl); (case hr => first | (go_simp; done) | (go_simp; rfl)); intro w34 hw; have hg : w32.grownBy w34 (some go9) := (by rw [hw]; exact HP33.2); have hp_ : Kd.R k23 23 w34 w.heap.size (fun _ => True) (.slice (some ⟨go9, 0, none⟩) t279.length co26) y303 := (by rw [hw, Ny303.out]; exact HP33.1); clear HP33; replace HI0 := ak_ (IsS155.grown (isS155_a HI0) hg (IsS155.own_ne HI0.out HO281.out (by decide))); replace HO299 := ak_ (Kd.R_over' (v := (.slice (some ⟨go9, 0, none⟩) t279.length co26)) (kr_ HO299) (Kd.R_typed HO281.out) (by decide) hg); replace HB := ak_ ((by rw [hw]; exact below_set (HB.out) (Nat.le_trans HL.out GB9.out) : Below w0.heap.size w0 w34)); replace HK := ak_ (KeepBut.trans kb_ (KeepBut.of_grown hg g) (Kd.R_base2 HO281.out)); replace HO281 := ak_ (hp_); skip; clear hg hw hp_))
 go_ret
 exact ⟨_, ew_, by (with_reducible repeat (first | apply Kd.R_alloc | apply Kd.R_drewN | apply Kd.R_drew)); exact HO281.out, isS155_a HI0, hz_ (IsS155.ge HI0.out), kb_⟩
/-! ### spec_l23SpoilWant: function 128 -/
def spec_l23SpoilWant.f (s0_0 : List Int) (s0_1 : Int) (s0_2 : Int) : Option (ByteArray × Int × Int × Int) := (spec_l00Src_one.f s0_0 s0_1 s0_2 2).bind fun bt305 => (if bt305.1 = true then ((spec_l00Src_text.f s0_0 bt305.2.1 bt305.2.2 (([(⟨#[]⟩ : ByteArray), (⟨#[72, 101, 109, 112]⟩ : ByteArray)] : List ByteArray))).bind fun bt311 => (some (bt311.1, 5, bt311.2.1, bt311.2.2))) else ((spec_l00Src_among.f s0_0 bt305.2.1 bt305.2.2 (([(-1), 0, 1, 100000, 100001] : List Int))).bind fun bt317 => (some ((⟨#[104, 101, 109, 112]⟩ : ByteArray), bt317.1, bt317.2.1, bt317.2.2))))
set_option maxHeartbeats 8000000 in
set_option maxRecDepth 100000 in
theorem spec_l23SpoilWant.calls (g : Nat) (s0_0 : List Int) (s0_1 : Int) (s0_2 : Int) (r1 : ByteArray) (r2 : Int) (r3 : Int) (r4 : Int) (w0 w : World) (hI : IsS155 w0 w g s0_0 s0_1 s0_2) (hB : Below w0.heap.size w0 w) (h : spec_l23SpoilWant.f s0_0 s0_1 s0_2 = some (r1, r2, r3, r4)) :
  Calls Tryd.prog 128 #[.pointer (some ⟨g, 0, none⟩)] w fun e w' => e = .returned (.agg #[.string r1, .int .i64 r2]) ∧ IsS155 w0 w' g s0_0 r3 r4 ∧ Below w0.heap.size w0 w' ∧ KeepBut w w' g none := by
 have hu32 := Tryd.underlying32
 have HI0 := ak_ hI
 have HK := ak_ (KeepBut.refl w g none)
 have HL := ak_ hB.size
 clear hI
 have HW0 := ak_ hB.size
 have HB := ak_ hB
 clear hB
 have H : ((spec_l00Src_one.f s0_0 s0_1 s0_2 2).bind fun bt305 => (if bt305.1 = true then ((spec_l00Src_text.f s0_0 bt305.2.1 bt305.2.2 (([(⟨#[]⟩ : ByteArray), (⟨#[72, 101, 109, 112]⟩ : ByteArray)] : List ByteArray))).bind fun bt311 => (some (bt311.1, 5, bt311.2.1, bt311.2.2))) else ((spec_l00Src_among.f s0_0 bt305.2.1 bt305.2.2 (([(-1), 0, 1, 100000, 100001] : List Int))).bind fun bt317 => (some ((⟨#[104, 101, 109, 112]⟩ : ByteArray), bt317.1, bt317.2.1, bt317.2.2))))) = some (r1, r2, r3, r4) := h
 clear h
 replace H := ob_ H
 obtain ⟨⟨t305, t306, t307⟩, A20, H⟩ := H
 (try dsimp only at H)
 have A2 := ak_ A20
 clear A20
 by_cases c3 : t305 = true
 ·subst c3
  have H1 : ((spec_l00Src_text.f s0_0 t306 t307 (([(⟨#[]⟩ : ByteArray), (⟨#[72, 101, 109, 112]⟩ : ByteArray)] : List ByteArray))).bind fun bt311 => (some (bt311.1, 5, bt311.2.1, bt311.2.2))) = some (r1, r2, r3, r4) := by rw [if_pos rfl] at H; exact H
  clear H
  have H := H1
  clear H1
  obtain ⟨y308, hy308⟩ : ∃ y_ : List ByteArray, y_ = (([(⟨#[]⟩ : ByteArray), (⟨#[72, 101, 109, 112]⟩ : ByteArray)] : List ByteArray)) := ⟨_, rfl⟩
  replace H : ((spec_l00Src_text.f s0_0 t306 t307 y308).bind fun bt311 => (some (bt311.1, 5, bt311.2.1, bt311.2.2))) = some (r1, r2, r3, r4) := by first | (rw [hy308]; with_reducible exact H) | (have H2_ := (Option.bind_some _ _).symm.trans H; rw [hy308]; with_reducible exact H2_) | (have H2_ := (Option.bind_some _ _).symm.trans H; with_reducible exact H2_) | with_reducible exact H | (rw [hy308]; exact H) | exact H
  have Ny308 := ak_ hy308
  clear hy308
  replace H := ob_ H
  obtain ⟨⟨t311, t312, t313⟩, A40, H⟩ := H
  (try dsimp only at H)
  have A4 := ak_ A40
  clear A40
  simp only [Option.some.injEq, Prod.mk.injEq] at H
  obtain ⟨rfl, rfl, rfl, rfl⟩ := H
  go_enter Tryd.func128, Tryd.ntmps128
  go_wp2_with (first | ((with_reducible refine gate_dst (N := 2) rfl ?_); refine box_event ?hg (N := 2) ?hd (cs := #[.string (⟨#[]⟩ : ByteArray), .int .i64 0]) (t := 32) ?hr ?_; (case hd => rfl); (case hg => rfl); (case hr => first | (go_simp; done) | (go_simp; rfl)); intro gb304 hg w5 hbox hb; have n0_ := ak_ (IsS155.below (isS155_a HI0) hb); have n1_ := ak_ (KeepBut.trans kb_ (KeepBut.of_below hb g none) (.inl rfl)); have n2_ := ak_ (below_step (hz_ (IsS155.ge HI0.out)) hb); have n3_ := ak_ (hbox); have n4_ := ak_ ((by rw [hg]; exact (keep_size (w := w) (g := g) (row := none) kb_) : w.heap.size ≤ gb304)); have n5_ := ak_ ((Nat.le_trans HW0.out (by rw [hg]; exact (keep_size (w := w) (g := g) (row := none) kb_) : w.heap.size ≤ gb304) : w0.heap.size ≤ gb304)); have n6_ := ak_ ((by rw [hg]; exact Nat.ne_of_lt (IsS155.lt (show IsS155 w0 _ g s0_0 s0_1 s0_2 from isS155_a HI0)) : g ≠ gb304)); have n7_ := ak_ ((by rw [hg]; exact Nat.ne_of_gt (IsS155.lt (show IsS155 w0 _ g s0_0 s0_1 s0_2 from isS155_a HI0)) : gb304 ≠ g)); clear HI0 HK HB; have HI0 := n0_; have HK := n1_; have HB := n2_; have BK304 := n3_; have GW304 := n4_; have GE304 := n5_; have NB0_304 := n6_; have NB304_0 := n7_; clear n0_ n1_ n2_ n3_ n4_ n5_ n6_ n7_; clear hb hbox hg) | ((with_reducible refine gate_callee (f := 84) rfl ?_); refine goesL_ (some 4) rfl rfl Tryd.func84 (by kernel_rfl) rfl #[.pointer (some ⟨g, 0, none⟩), .int .i64 2] rfl ln_ ?_; (with_reducible refine (spec_l00Src_one.calls g s0_0 s0_1 s0_2 2 true t306 t307 w0 _ ?side1 ?side2 A2.out).mono ?_); (case side1 => repeat (first | (with_reducible first | exact HI0.out | apply IsS155.alloc | apply IsS155.drewN | apply IsS155.drew | apply IsS155.set_1 | apply IsS155.set_2 | refine IsS155.far ?_ NB0_304.out _) | exact HI0.out)); (case side2 => repeat (first | (with_reducible first | exact HB.out | apply below_alloc | apply pw_below_drewN | apply below_drew1 | refine below_set ?_ (IsS155.ge HI0.out) | refine below_set ?_ GE304.out) | exact HB.out)); rintro e w6 ⟨rfl, hi, hb, hk⟩; refine ⟨_, rfl, ?_⟩; replace BK304 := ak_ (KeepBut.blk hk (g' := gb304) (o := .cells #[.string (⟨#[]⟩ : ByteArray), .int .i64 0] 32 (0, 0)) (bk_ BK304) NB304_0.out (by simp)); replace HK := ak_ (KeepBut.trans (by repeat (first | (with_reducible first | exact HK.out | apply KeepBut.set_ | apply keep_drewN | apply keep_drew | apply keep_alloc | refine keep_far ?_ GW304.out _) | exact HK.out)) hk (.inl rfl)); replace HB := ak_ (hb); replace HI0 := ak_ (hi); skip; clear hb hk hi) | ((with_reducible refine gate_dst (N := 6) rfl ?_); refine Kd.R_lit Kd.string _ 9 ?hg (N := 6) ?hd (xs := ([(⟨#[]⟩ : ByteArray), (⟨#[72, 101, 109, 112]⟩ : ByteArray)] : List ByteArray)) (inner := [.string (⟨#[]⟩ : ByteArray), .string (⟨#[72, 101, 109, 112]⟩ : ByteArray)]) (ok := fun _ => True) (okp := fun _ => True) ?hr ?hp (fun _ hk => hk) trivial (Below.refl _ _) (Nat.le_refl _) (by simp) ?_; (case hd => rfl); (case hg => rfl); (case hr => first | (go_simp; done) | (go_simp; rfl)); (case hp => exact (Reps.one (show Kd.M Kd.string _ _ _ (⟨#[]⟩ : ByteArray) [.string (⟨#[]⟩ : ByteArray)] from rfl) (Reps.one (show Kd.M Kd.string _ _ _ (⟨#[72, 101, 109, 112]⟩ : ByteArray) [.string (⟨#[72, 101, 109, 112]⟩ : ByteArray)] from rfl) (Reps.none _ _)))); intro v309 w7 ho8 hb hg_ hnew_; clear hg_ hnew_; (first | rw [← Ny308.out] at ho8 | (simp only [Int.reduceToNat] at ho8; rw [← Ny308.out] at ho8)); have HO310 := ak_ (Kd.R_lower ho8 (keep_size (w := w) (g := g) (row := none) (by repeat (first | (with_reducible first | exact HK.out | apply KeepBut.set_ | apply keep_drewN | apply keep_drew | apply keep_alloc | refine keep_far ?_ GW304.out _) | exact HK.out)))); replace BK304 := ak_ (blk_below (g := gb304) (o := .cells #[.string (⟨#[]⟩ : ByteArray), .int .i64 0] 32 (0, 0)) (bk_ BK304) hb); replace HK := ak_ (KeepBut.trans (by repeat (first | (with_reducible first | exact HK.out | apply KeepBut.set_ | apply keep_drewN | apply keep_drew | apply keep_alloc | refine keep_far ?_ GW304.out _) | exact HK.out)) (KeepBut.of_below hb g none) (.inl rfl)); replace HB := ak_ (below_step (by repeat (first | (with_reducible first | exact HB.out | apply below_alloc | apply pw_below_drewN | apply below_drew1 | refine below_set ?_ (IsS155.ge HI0.out) | refine below_set ?_ GE304.out) | exact HB.out)) hb); replace HI0 := ak_ (IsS155.below (by repeat (first | (with_reducible first | exact HI0.out | apply IsS155.alloc | apply IsS155.drewN | apply IsS155.drew | apply IsS155.set_1 | apply IsS155.set_2 | refine IsS155.far ?_ NB0_304.out _) | exact HI0.out)) hb); skip; clear hb ho8; obtain ⟨Ao9, co9, eo9⟩ := Kd.R_slice HO310.out; subst eo9) | ((with_reducible refine gate_callee (f := 78) rfl ?_); refine goesL_ (some 7) rfl rfl Tryd.func78 (by kernel_rfl) rfl #[.pointer (some ⟨g, 0, none⟩), .slice Ao9 y308.length co9] rfl ln_ ?_; (with_reducible refine (spec_l00Src_text.calls g s0_0 t306 t307 _ _ y308 t311 t312 t313 w0 _ ?side1 ?side2 ?side3 ((Kd.R_reads' HO310.out).2.1) (far_slice (IsS155.own_ne HI0.out HO310.out (by decide))) A4.out).mono ?_); (case side1 => repeat (first | (with_reducible first | exact HI0.out | apply IsS155.alloc | apply IsS155.drewN | apply IsS155.drew | apply IsS155.set_1 | apply IsS155.set_2 | refine IsS155.far ?_ NB0_304.out _) | exact HI0.out)); (case side2 => repeat (first | (with_reducible first | exact HB.out | apply below_alloc | apply pw_below_drewN | apply below_drew1 | refine below_set ?_ (IsS155.ge HI0.out) | refine below_set ?_ GE304.out) | exact HB.out)); (case side3 => repeat (first | exact (Kd.R_reads' HO310.out).2.2 | (with_reducible refine Kd.C_alloc ?_ _) | (with_reducible refine Kd.C_drewN ?_ _) | (with_reducible refine Kd.C_drew ?_))); rintro e w10 ⟨rfl, hi, hb, hk⟩; refine ⟨_, rfl, ?_⟩; replace BK304 := ak_ (KeepBut.blk hk (g' := gb304) (o := .cells #[.string (⟨#[]⟩ : ByteArray), .int .i64 0] 32 (0, 0)) (bk_ BK304) NB304_0.out (by simp)); replace HO310 := ak_ (Kd.R_mono (Kd.R_keep (IsS155.apart (show IsS155 w0 _ g s0_0 t306 t307 from by repeat (first | (with_reducible first | exact HI0.out | apply IsS155.alloc | apply IsS155.drewN | apply IsS155.drew | apply IsS155.set_1 | apply IsS155.set_2 | refine IsS155.far ?_ NB0_304.out _) | exact HI0.out)) (kr_ HO310) (by decide)) hk (fun _ h => h.2)) (fun _ h => h.1)); replace HK := ak_ (KeepBut.trans (by repeat (first | (with_reducible first | exact HK.out | apply KeepBut.set_ | apply keep_drewN | apply keep_drew | apply keep_alloc | refine keep_far ?_ GW304.out _) | exact HK.out)) hk (.inl rfl)); replace HB := ak_ (hb); replace HI0 := ak_ (hi); skip; (try clear hb); (try clear hb2); (try clear hk); (try clear hi); have hnb11 := NB304_0.out; have hnc11 := NB0_304.out; have hcz12_0 : w10.cell? ⟨gb304, 0, none⟩ = some (.string (⟨#[]⟩ : ByteArray)) := (blk_cell BK304.out 0).trans rfl; have hcz12_1 : w10.cell? ⟨gb304, 1, none⟩ = some (.int .i64 0) := (blk_cell BK304.out 1).trans rfl; have hfz12_0 := blk_frozen BK304.out 0; have hfz12_1 := blk_frozen BK304.out 1))
  refine bodyPost_ret (results_cell_row rfl _ _ gb304 32 #[.string t311, .int .i64 5] (0, 0) _ rfl (by (with_reducible repeat (first | refine blk_drewN ?_ _ | refine blk_drew ?_ | refine blk_alloc ?_ _)); refine blk_put (cs := #[.string t311, .int .i64 0]) ?_ 1 _ rfl; (with_reducible repeat (first | refine blk_drewN ?_ _ | refine blk_drew ?_ | refine blk_alloc ?_ _)); refine blk_put (cs := #[.string (⟨#[]⟩ : ByteArray), .int .i64 0]) ?_ 0 _ rfl; (with_reducible repeat (first | refine blk_drewN ?_ _ | refine blk_drew ?_ | refine blk_alloc ?_ _)); exact BK304.out) Tryd.underlying32 rfl (by kernel_rfl)) rfl ?_
  exact ⟨ew_, by repeat (first | (with_reducible first | exact HI0.out | apply IsS155.alloc | apply IsS155.drewN | apply IsS155.drew | apply IsS155.set_1 | apply IsS155.set_2 | refine IsS155.far ?_ NB0_304.out _) | exact HI0.out), by repeat (first | (with_reducible first | exact HB.out | apply below_alloc | apply pw_below_drewN | apply below_drew1 | refine below_set ?_ (IsS155.ge HI0.out) | refine below_set ?_ GE304.out) | exact HB.out), by repeat (first | (with_reducible first | exact HK.out | apply KeepBut.set_ | apply keep_drewN | apply keep_drew | apply keep_alloc | refine keep_far ?_ GW304.out _) | exact HK.out)⟩
 replace c3 := Bool.eq_false_iff.mpr c3
 subst c3
 have H1 : ((spec_l00Src_among.f s0_0 t306 t307 (([(-1), 0, 1, 100000, 100001] : List Int))).bind fun bt317 => (some ((⟨#[104, 101, 109, 112]⟩ : ByteArray), bt317.1, bt317.2.1, bt317.2.2))) = some (r1, r2, r3, r4) := by rw [if_neg (show ¬ (false = true) by decide)] at H; exact H
 clear H
 have H := H1
 clear H1
 obtain ⟨y314, hy314⟩ : ∃ y_ : List Int, y_ = (([(-1), 0, 1, 100000, 100001] : List Int)) := ⟨_, rfl⟩
 replace H : ((spec_l00Src_among.f s0_0 t306 t307 y314).bind fun bt317 => (some ((⟨#[104, 101, 109, 112]⟩ : ByteArray), bt317.1, bt317.2.1, bt317.2.2))) = some (r1, r2, r3, r4) := by first | (rw [hy314]; with_reducible exact H) | (have H2_ := (Option.bind_some _ _).symm.trans H; rw [hy314]; with_reducible exact H2_) | (have H2_ := (Option.bind_some _ _).symm.trans H; with_reducible exact H2_) | with_reducible exact H | (rw [hy314]; exact H) | exact H
 have Ny314 := ak_ hy314
 clear hy314
 replace H := ob_ H
 obtain ⟨⟨t317, t318, t319⟩, A130, H⟩ := H
 (try dsimp only at H)
 have A13 := ak_ A130
 clear A130
 simp only [Option.some.injEq, Prod.mk.injEq] at H
 obtain ⟨rfl, rfl, rfl, rfl⟩ := H
 go_enter Tryd.func128, Tryd.ntmps128
 go_wp2_with (first | ((with_reducible refine gate_dst (N := 2) rfl ?_); refine box_event ?hg (N := 2) ?hd (cs := #[.string (⟨#[]⟩ : ByteArray), .int .i64 0]) (t := 32) ?hr ?_; (case hd => rfl); (case hg => rfl); (case hr => first | (go_simp; done) | (go_simp; rfl)); intro gb304 hg w14 hbox hb; have n0_ := ak_ (IsS155.below (isS155_a HI0) hb); have n1_ := ak_ (KeepBut.trans kb_ (KeepBut.of_below hb g none) (.inl rfl)); have n2_ := ak_ (below_step (hz_ (IsS155.ge HI0.out)) hb); have n3_ := ak_ (hbox); have n4_ := ak_ ((by rw [hg]; exact (keep_size (w := w) (g := g) (row := none) kb_) : w.heap.size ≤ gb304)); have n5_ := ak_ ((Nat.le_trans HW0.out (by rw [hg]; exact (keep_size (w := w) (g := g) (row := none) kb_) : w.heap.size ≤ gb304) : w0.heap.size ≤ gb304)); have n6_ := ak_ ((by rw [hg]; exact Nat.ne_of_lt (IsS155.lt (show IsS155 w0 _ g s0_0 s0_1 s0_2 from isS155_a HI0)) : g ≠ gb304)); have n7_ := ak_ ((by rw [hg]; exact Nat.ne_of_gt (IsS155.lt (show IsS155 w0 _ g s0_0 s0_1 s0_2 from isS155_a HI0)) : gb304 ≠ g)); clear HI0 HK HB; have HI0 := n0_; have HK := n1_; have HB := n2_; have BK304 := n3_; have GW304 := n4_; have GE304 := n5_; have NB0_304 := n6_; have NB304_0 := n7_; clear n0_ n1_ n2_ n3_ n4_ n5_ n6_ n7_; clear hb hbox hg) | ((with_reducible refine gate_callee (f := 84) rfl ?_); refine goesL_ (some 4) rfl rfl Tryd.func84 (by kernel_rfl) rfl #[.pointer (some ⟨g, 0, none⟩), .int .i64 2] rfl ln_ ?_; (with_reducible refine (spec_l00Src_one.calls g s0_0 s0_1 s0_2 2 false t306 t307 w0 _ ?side1 ?side2 A2.out).mono ?_); (case side1 => repeat (first | (with_reducible first | exact HI0.out | apply IsS155.alloc | apply IsS155.drewN | apply IsS155.drew | apply IsS155.set_1 | apply IsS155.set_2 | refine IsS155.far ?_ NB0_304.out _) | exact HI0.out)); (case side2 => repeat (first | (with_reducible first | exact HB.out | apply below_alloc | apply pw_below_drewN | apply below_drew1 | refine below_set ?_ (IsS155.ge HI0.out) | refine below_set ?_ GE304.out) | exact HB.out)); rintro e w15 ⟨rfl, hi, hb, hk⟩; refine ⟨_, rfl, ?_⟩; replace BK304 := ak_ (KeepBut.blk hk (g' := gb304) (o := .cells #[.string (⟨#[]⟩ : ByteArray), .int .i64 0] 32 (0, 0)) (bk_ BK304) NB304_0.out (by simp)); replace HK := ak_ (KeepBut.trans (by repeat (first | (with_reducible first | exact HK.out | apply KeepBut.set_ | apply keep_drewN | apply keep_drew | apply keep_alloc | refine keep_far ?_ GW304.out _) | exact HK.out)) hk (.inl rfl)); replace HB := ak_ (hb); replace HI0 := ak_ (hi); skip; clear hb hk hi) | ((with_reducible refine gate_dst (N := 10) rfl ?_); refine Kd.R_lit (Kd.int .i64) _ 2 ?hg (N := 10) ?hd (xs := ([(-1), 0, 1, 100000, 100001] : List Int)) (inner := [.int .i64 (-1), .int .i64 0, .int .i64 1, .int .i64 100000, .int .i64 100001]) (ok := fun _ => True) (okp := fun _ => True) ?hr ?hp (fun _ hk => hk) trivial (Below.refl _ _) (Nat.le_refl _) (by simp) ?_; (case hd => rfl); (case hg => rfl); (case hr => first | (go_simp; done) | (go_simp; rfl)); (case hp => exact (Reps.one (show Kd.M (Kd.int .i64) _ _ _ (-1) [.int .i64 (-1)] from rfl) (Reps.one (show Kd.M (Kd.int .i64) _ _ _ 0 [.int .i64 0] from rfl) (Reps.one (show Kd.M (Kd.int .i64) _ _ _ 1 [.int .i64 1] from rfl) (Reps.one (show Kd.M (Kd.int .i64) _ _ _ 100000 [.int .i64 100000] from rfl) (Reps.one (show Kd.M (Kd.int .i64) _ _ _ 100001 [.int .i64 100001] from rfl) (Reps.none _ _))))))); intro v315 w16 ho17 hb hg_ hnew_; clear hg_ hnew_; (first | rw [← Ny314.out] at ho17 | (simp only [Int.reduceToNat] at ho17; rw [← Ny314.out] at ho17)); have HO316 := ak_ (Kd.R_lower ho17 (keep_size (w := w) (g := g) (row := none) (by repeat (first | (with_reducible first | exact HK.out | apply KeepBut.set_ | apply keep_drewN | apply keep_drew | apply keep_alloc | refine keep_far ?_ GW304.out _) | exact HK.out)))); replace BK304 := ak_ (blk_below (g := gb304) (o := .cells #[.string (⟨#[]⟩ : ByteArray), .int .i64 0] 32 (0, 0)) (bk_ BK304) hb); replace HK := ak_ (KeepBut.trans (by repeat (first | (with_reducible first | exact HK.out | apply KeepBut.set_ | apply keep_drewN | apply keep_drew | apply keep_alloc | refine keep_far ?_ GW304.out _) | exact HK.out)) (KeepBut.of_below hb g none) (.inl rfl)); replace HB := ak_ (below_step (by repeat (first | (with_reducible first | exact HB.out | apply below_alloc | apply pw_below_drewN | apply below_drew1 | refine below_set ?_ (IsS155.ge HI0.out) | refine below_set ?_ GE304.out) | exact HB.out)) hb); replace HI0 := ak_ (IsS155.below (by repeat (first | (with_reducible first | exact HI0.out | apply IsS155.alloc | apply IsS155.drewN | apply IsS155.drew | apply IsS155.set_1 | apply IsS155.set_2 | refine IsS155.far ?_ NB0_304.out _) | exact HI0.out)) hb); skip; clear hb ho17; obtain ⟨Ao18, co18, eo18⟩ := Kd.R_slice HO316.out; subst eo18) | ((with_reducible refine gate_callee (f := 85) rfl ?_); refine goesL_ (some 11) rfl rfl Tryd.func85 (by kernel_rfl) rfl #[.pointer (some ⟨g, 0, none⟩), .slice Ao18 y314.length co18] rfl ln_ ?_; (with_reducible refine (spec_l00Src_among.calls g s0_0 t306 t307 _ _ y314 t317 t318 t319 w0 _ ?side1 ?side2 ?side3 ((Kd.R_reads' HO316.out).2.1) (far_slice (IsS155.own_ne HI0.out HO316.out (by decide))) A13.out).mono ?_); (case side1 => repeat (first | (with_reducible first | exact HI0.out | apply IsS155.alloc | apply IsS155.drewN | apply IsS155.drew | apply IsS155.set_1 | apply IsS155.set_2 | refine IsS155.far ?_ NB0_304.out _) | exact HI0.out)); (case side2 => repeat (first | (with_reducible first | exact HB.out | apply below_alloc | apply pw_below_drewN | apply below_drew1 | refine below_set ?_ (IsS155.ge HI0.out) | refine below_set ?_ GE304.out) | exact HB.out)); (case side3 => repeat (first | exact (Kd.R_reads' HO316.out).2.2 | (with_reducible refine Kd.C_alloc ?_ _) | (with_reducible refine Kd.C_drewN ?_ _) | (with_reducible refine Kd.C_drew ?_))); rintro e w19 ⟨rfl, hi, hb, hk⟩; refine ⟨_, rfl, ?_⟩; replace BK304 := ak_ (KeepBut.blk hk (g' := gb304) (o := .cells #[.string (⟨#[]⟩ : ByteArray), .int .i64 0] 32 (0, 0)) (bk_ BK304) NB304_0.out (by simp)); replace HO316 := ak_ (Kd.R_mono (Kd.R_keep (IsS155.apart (show IsS155 w0 _ g s0_0 t306 t307 from by repeat (first | (with_reducible first | exact HI0.out | apply IsS155.alloc | apply IsS155.drewN | apply IsS155.drew | apply IsS155.set_1 | apply IsS155.set_2 | refine IsS155.far ?_ NB0_304.out _) | exact HI0.out)) (kr_ HO316) (by decide)) hk (fun _ h => h.2)) (fun _ h => h.1)); replace HK := ak_ (KeepBut.trans (by repeat (first | (with_reducible first | exact HK.out | apply KeepBut.set_ | apply keep_drewN | apply keep_drew | apply keep_alloc | refine keep_far ?_ GW304.out _) | exact HK.out)) hk (.inl rfl)); replace HB := ak_ (hb); replace HI0 := ak_ (hi); skip; (try clear hb); (try clear hb2); (try clear hk); (try clear hi); have hnb20 := NB304_0.out; have hnc20 := NB0_304.out; have hcz21_0 : w19.cell? ⟨gb304, 0, none⟩ = some (.string (⟨#[]⟩ : ByteArray)) := (blk_cell BK304.out 0).trans rfl; have hcz21_1 : w19.cell? ⟨gb304, 1, none⟩ = some (.int .i64 0) := (blk_cell BK304.out 1).trans rfl; have hfz21_0 := blk_frozen BK304.out 0; have hfz21_1 := blk_frozen BK304.out 1))
 refine bodyPost_ret (results_cell_row rfl _ _ gb304 32 #[.string (⟨#[104, 101, 109, 112]⟩ : ByteArray), .int .i64 t317] (0, 0) _ rfl (by (with_reducible repeat (first | refine blk_drewN ?_ _ | refine blk_drew ?_ | refine blk_alloc ?_ _)); refine blk_put (cs := #[.string (⟨#[104, 101, 109, 112]⟩ : ByteArray), .int .i64 0]) ?_ 1 _ rfl; (with_reducible repeat (first | refine blk_drewN ?_ _ | refine blk_drew ?_ | refine blk_alloc ?_ _)); refine blk_put (cs := #[.string (⟨#[]⟩ : ByteArray), .int .i64 0]) ?_ 0 _ rfl; (with_reducible repeat (first | refine blk_drewN ?_ _ | refine blk_drew ?_ | refine blk_alloc ?_ _)); exact BK304.out) Tryd.underlying32 rfl (by kernel_rfl)) rfl ?_
 exact ⟨ew_, by repeat (first | (with_reducible first | exact HI0.out | apply IsS155.alloc | apply IsS155.drewN | apply IsS155.drew | apply IsS155.set_1 | apply IsS155.set_2 | refine IsS155.far ?_ NB0_304.out _) | exact HI0.out), by repeat (first | (with_reducible first | exact HB.out | apply below_alloc | apply pw_below_drewN | apply below_drew1 | refine below_set ?_ (IsS155.ge HI0.out) | refine below_set ?_ GE304.out) | exact HB.out), by repeat (first | (with_reducible first | exact HK.out | apply KeepBut.set_ | apply keep_drewN | apply keep_drew | apply keep_alloc | refine keep_far ?_ GW304.out _) | exact HK.out)⟩

/-! ### spec_l23DrawWant: function 129 -/
def spec_l23DrawWant.f (s0_0 : List Int) (s0_1 : Int) (s0_2 : Int) : Option (ByteArray × Int × Int × Int) := (spec_l23Kind.f s0_0 s0_1 s0_2).bind fun bt321 => ((spec_l00Src_pick.f s0_0 bt321.2.1 bt321.2.2 30).bind fun bt325 => (some (bt321.1, wrap64 (20 + (wrap64 (10 * bt325.1))), bt325.2.1, bt325.2.2)))
set_option maxHeartbeats 8000000 in
set_option maxRecDepth 100000 in
theorem spec_l23DrawWant.calls (g : Nat) (s0_0 : List Int) (s0_1 : Int) (s0_2 : Int) (r1 : ByteArray) (r2 : Int) (r3 : Int) (r4 : Int) (w0 w : World) (hI : IsS155 w0 w g s0_0 s0_1 s0_2) (hB : Below w0.heap.size w0 w) (h : spec_l23DrawWant.f s0_0 s0_1 s0_2 = some (r1, r2, r3, r4)) :
  Calls Tryd.prog 129 #[.pointer (some ⟨g, 0, none⟩)] w fun e w' => e = .returned (.agg #[.string r1, .int .i64 r2]) ∧ IsS155 w0 w' g s0_0 r3 r4 ∧ Below w0.heap.size w0 w' ∧ KeepBut w w' g none := by
 have hu32 := Tryd.underlying32
 have HI0 := ak_ hI
 have HK := ak_ (KeepBut.refl w g none)
 have HL := ak_ hB.size
 clear hI
 have HW0 := ak_ hB.size
 have HB := ak_ hB
 clear hB
 have H : ((spec_l23Kind.f s0_0 s0_1 s0_2).bind fun bt321 => ((spec_l00Src_pick.f s0_0 bt321.2.1 bt321.2.2 30).bind fun bt325 => (some (bt321.1, wrap64 (20 + (wrap64 (10 * bt325.1))), bt325.2.1, bt325.2.2)))) = some (r1, r2, r3, r4) := h
 clear h
 replace H := ob_ H
 obtain ⟨⟨t321, t322, t323⟩, A20, H⟩ := H
 (try dsimp only at H)
 have A2 := ak_ A20
 clear A20
 replace H := ob_ H
 obtain ⟨⟨t325, t326, t327⟩, A30, H⟩ := H
 (try dsimp only at H)
 have A3 := ak_ A30
 clear A30
 simp only [Option.some.injEq, Prod.mk.injEq] at H
 obtain ⟨rfl, rfl, rfl, rfl⟩ := H
 go_enter Tryd.func129, Tryd.ntmps129
 go_wp2_with (first | ((with_reducible refine gate_dst (N := 2) rfl ?_); refine box_event ?hg (N := 2) ?hd (cs := #[.string (⟨#[]⟩ : ByteArray), .int .i64 0]) (t := 32) ?hr ?_; (case hd => rfl); (case hg => rfl); (case hr => first | (go_simp; done) | (go_simp; rfl)); intro gb320 hg w4 hbox hb; have n0_ := ak_ (IsS155.below (isS155_a HI0) hb); have n1_ := ak_ (KeepBut.trans kb_ (KeepBut.of_below hb g none) (.inl rfl)); have n2_ := ak_ (below_step (hz_ (IsS155.ge HI0.out)) hb); have n3_ := ak_ (hbox); have n4_ := ak_ ((by rw [hg]; exact (keep_size (w := w) (g := g) (row := none) kb_) : w.heap.size ≤ gb320)); have n5_ := ak_ ((Nat.le_trans HW0.out (by rw [hg]; exact (keep_size (w := w) (g := g) (row := none) kb_) : w.heap.size ≤ gb320) : w0.heap.size ≤ gb320)); have n6_ := ak_ ((by rw [hg]; exact Nat.ne_of_lt (IsS155.lt (show IsS155 w0 _ g s0_0 s0_1 s0_2 from isS155_a HI0)) : g ≠ gb320)); have n7_ := ak_ ((by rw [hg]; exact Nat.ne_of_gt (IsS155.lt (show IsS155 w0 _ g s0_0 s0_1 s0_2 from isS155_a HI0)) : gb320 ≠ g)); clear HI0 HK HB; have HI0 := n0_; have HK := n1_; have HB := n2_; have BK320 := n3_; have GW320 := n4_; have GE320 := n5_; have NB0_320 := n6_; have NB320_0 := n7_; clear n0_ n1_ n2_ n3_ n4_ n5_ n6_ n7_; clear hb hbox hg) | ((with_reducible refine gate_callee (f := 133) rfl ?_); refine goesL_ (some 5) rfl rfl Tryd.func133 (by kernel_rfl) rfl #[.pointer (some ⟨g, 0, none⟩)] rfl ln_ ?_; (with_reducible refine (spec_l23Kind.calls g s0_0 s0_1 s0_2 t321 t322 t323 w0 _ ?side1 ?side2 A2.out).mono ?_); (case side1 => repeat (first | (with_reducible first | exact HI0.out | apply IsS155.alloc | apply IsS155.drewN | apply IsS155.drew | apply IsS155.set_1 | apply IsS155.set_2 | refine IsS155.far ?_ NB0_320.out _) | exact HI0.out)); (case side2 => repeat (first | (with_reducible first | exact HB.out | apply below_alloc | apply pw_below_drewN | apply below_drew1 | refine below_set ?_ (IsS155.ge HI0.out) | refine below_set ?_ GE320.out) | exact HB.out)); rintro e w5 ⟨rfl, hi, hb, hk⟩; refine ⟨_, rfl, ?_⟩; replace BK320 := ak_ (KeepBut.blk hk (g' := gb320) (o := .cells #[.string (⟨#[]⟩ : ByteArray), .int .i64 0] 32 (0, 0)) (bk_ BK320) NB320_0.out (by simp)); replace HK := ak_ (KeepBut.trans (by repeat (first | (with_reducible first | exact HK.out | apply KeepBut.set_ | apply keep_drewN | apply keep_drew | apply keep_alloc | refine keep_far ?_ GW320.out _) | exact HK.out)) hk (.inl rfl)); replace HB := ak_ (hb); replace HI0 := ak_ (hi); skip; clear hb hk hi) | ((with_reducible refine gate_dst (N := 3) rfl ?_); refine box_event ?hg (N := 3) ?hd (cs := #[.string (⟨#[]⟩ : ByteArray), .int .i64 0]) (t := 32) ?hr ?_; (case hd => rfl); (case hg => rfl); (case hr => first | (go_simp; done) | (go_simp; rfl)); intro gb324 hg w6 hbox hb; replace HB := ak_ (below_step (by repeat (first | (with_reducible first | exact HB.out | apply below_alloc | apply pw_below_drewN | apply below_drew1 | refine below_set ?_ (IsS155.ge HI0.out) | refine below_set ?_ GE320.out) | exact HB.out)) hb); have BK324 := ak_ (hbox); have GW324 := ak_ ((by rw [hg]; exact (keep_size (w := w) (g := g) (row := none) (by repeat (first | (with_reducible first | exact HK.out | apply KeepBut.set_ | apply keep_drewN | apply keep_drew | apply keep_alloc | refine keep_far ?_ GW320.out _) | exact HK.out))) : w.heap.size ≤ gb324)); have GE324 := ak_ ((Nat.le_trans HW0.out (by rw [hg]; exact (keep_size (w := w) (g := g) (row := none) (by repeat (first | (with_reducible first | exact HK.out | apply KeepBut.set_ | apply keep_drewN | apply keep_drew | apply keep_alloc | refine keep_far ?_ GW320.out _) | exact HK.out))) : w.heap.size ≤ gb324) : w0.heap.size ≤ gb324)); replace HK := ak_ (KeepBut.trans (by repeat (first | (with_reducible first | exact HK.out | apply KeepBut.set_ | apply keep_drewN | apply keep_drew | apply keep_alloc | refine keep_far ?_ GW320.out _) | exact HK.out)) (KeepBut.of_below hb g none) (.inl rfl)); have NB320_324 := ak_ ((by rw [hg]; exact Nat.ne_of_lt (blk_lt (g := gb320) (o := .cells #[.string (⟨#[]⟩ : ByteArray), .int .i64 0] 32 (0, 0)) (bk_ BK320)) : gb320 ≠ gb324)); have NB324_320 := ak_ ((by rw [hg]; exact Nat.ne_of_gt (blk_lt (g := gb320) (o := .cells #[.string (⟨#[]⟩ : ByteArray), .int .i64 0] 32 (0, 0)) (bk_ BK320)) : gb324 ≠ gb320)); replace BK320 := ak_ (blk_below (g := gb320) (o := .cells #[.string (⟨#[]⟩ : ByteArray), .int .i64 0] 32 (0, 0)) (bk_ BK320) hb); have NB0_324 := ak_ ((by rw [hg]; exact Nat.ne_of_lt (IsS155.lt (show IsS155 w0 _ g s0_0 t322 t323 from by repeat (first | (with_reducible first | exact HI0.out | apply IsS155.alloc | apply IsS155.drewN | apply IsS155.drew | apply IsS155.set_1 | apply IsS155.set_2 | refine IsS155.far ?_ NB0_320.out _) | exact HI0.out))) : g ≠ gb324)); have NB324_0 := ak_ ((by rw [hg]; exact Nat.ne_of_gt (IsS155.lt (show IsS155 w0 _ g s0_0 t322 t323 from by repeat (first | (with_reducible first | exact HI0.out | apply IsS155.alloc | apply IsS155.drewN | apply IsS155.drew | apply IsS155.set_1 | apply IsS155.set_2 | refine IsS155.far ?_ NB0_320.out _) | exact HI0.out))) : gb324 ≠ g)); replace HI0 := ak_ (IsS155.below (by repeat (first | (with_reducible first | exact HI0.out | apply IsS155.alloc | apply IsS155.drewN | apply IsS155.drew | apply IsS155.set_1 | apply IsS155.set_2 | refine IsS155.far ?_ NB0_320.out _) | exact HI0.out)) hb); skip; clear hb hbox hg; have hnb7 := NB324_320.out; have hnc7 := NB320_324.out; have hnb8 := NB324_0.out; have hnc8 := NB0_324.out; have hcz9_0 : w6.cell? ⟨gb324, 0, none⟩ = some (.string (⟨#[]⟩ : ByteArray)) := (blk_cell BK324.out 0).trans rfl; have hcz9_1 : w6.cell? ⟨gb324, 1, none⟩ = some (.int .i64 0) := (blk_cell BK324.out 1).trans rfl; have hfz9_0 := blk_frozen BK324.out 0; have hfz9_1 := blk_frozen BK324.out 1) | ((with_reducible refine gate_callee (f := 86) rfl ?_); refine goesL_ (some 8) rfl rfl Tryd.func86 (by kernel_rfl) rfl #[.pointer (some ⟨g, 0, none⟩), .int .i64 30] rfl ln_ ?_; (with_reducible refine (spec_l00Src_pick.calls g s0_0 t322 t323 30 t325 t326 t327 w0 _ ?side1 ?side2 A3.out).mono ?_); (case side1 => repeat (first | (with_reducible first | exact HI0.out | apply IsS155.alloc | apply IsS155.drewN | apply IsS155.drew | apply IsS155.set_1 | apply IsS155.set_2 | refine IsS155.far ?_ NB0_320.out _ | refine IsS155.far ?_ NB0_324.out _) | exact HI0.out)); (case side2 => repeat (first | (with_reducible first | exact HB.out | apply below_alloc | apply pw_below_drewN | apply below_drew1 | refine below_set ?_ (IsS155.ge HI0.out) | refine below_set ?_ GE320.out | refine below_set ?_ GE324.out) | exact HB.out)); rintro e w10 ⟨rfl, hi, hb, hk⟩; refine ⟨_, rfl, ?_⟩; replace BK320 := ak_ (KeepBut.blk hk (g' := gb320) (o := .cells #[.string (⟨#[]⟩ : ByteArray), .int .i64 0] 32 (0, 0)) (by (with_reducible repeat (first | refine blk_drewN ?_ _ | refine blk_drew ?_ | refine blk_alloc ?_ _)); refine blk_far ?_ NB320_324.out _; (with_reducible repeat (first | refine blk_drewN ?_ _ | refine blk_drew ?_ | refine blk_alloc ?_ _)); refine blk_far ?_ NB320_324.out _; (with_reducible repeat (first | refine blk_drewN ?_ _ | refine blk_drew ?_ | refine blk_alloc ?_ _)); exact BK320.out) NB320_0.out (by simp)); replace BK324 := ak_ (KeepBut.blk hk (g' := gb324) (o := .cells #[.string t321, .int .i64 0] 32 (0, 0)) (by (with_reducible repeat (first | refine blk_drewN ?_ _ | refine blk_drew ?_ | refine blk_alloc ?_ _)); refine blk_put (cs := #[.string t321, .int .i64 0]) ?_ 1 _ rfl; (with_reducible repeat (first | refine blk_drewN ?_ _ | refine blk_drew ?_ | refine blk_alloc ?_ _)); refine blk_put (cs := #[.string (⟨#[]⟩ : ByteArray), .int .i64 0]) ?_ 0 _ rfl; (with_reducible repeat (first | refine blk_drewN ?_ _ | refine blk_drew ?_ | refine blk_alloc ?_ _)); exact BK324.out) NB324_0.out (by simp)); replace HK := ak_ (KeepBut.trans (by repeat (first | (with_reducible first | exact HK.out | apply KeepBut.set_ | apply keep_drewN | apply keep_drew | apply keep_alloc | refine keep_far ?_ GW320.out _ | refine keep_far ?_ GW324.out _) | exact HK.out)) hk (.inl rfl)); replace HB := ak_ (hb); replace HI0 := ak_ (hi); skip; (try clear hb); (try clear hb2); (try clear hk); (try clear hi); have hcz11_0 : w10.cell? ⟨gb324, 0, none⟩ = some (.string t321) := (blk_cell BK324.out 0).trans rfl; have hcz11_1 : w10.cell? ⟨gb324, 1, none⟩ = some (.int .i64 0) := (blk_cell BK324.out 1).trans rfl; have hfz11_0 := blk_frozen BK324.out 0; have hfz11_1 := blk_frozen BK324.out 1; have hnb12 := NB320_0.out; have hnc12 := NB0_320.out; have hcz13_0 : w10.cell? ⟨gb320, 0, none⟩ = some (.string (⟨#[]⟩ : ByteArray)) := (blk_cell BK320.out 0).trans rfl; have hcz13_1 : w10.cell? ⟨gb320, 1, none⟩ = some (.int .i64 0) := (blk_cell BK320.out 1).trans rfl; have hfz13_0 := blk_frozen BK320.out 0; have hfz13_1 := blk_frozen BK320.out 1))
 refine bodyPost_ret (results_cell_row rfl _ _ gb320 32 #[.string t321, .int .i64 (wrap64 (20 + (wrap64 (10 * t325))))] (0, 0) _ rfl (by (with_reducible repeat (first | refine blk_drewN ?_ _ | refine blk_drew ?_ | refine blk_alloc ?_ _)); refine blk_put (cs := #[.string t321, .int .i64 0]) ?_ 1 _ rfl; (with_reducible repeat (first | refine blk_drewN ?_ _ | refine blk_drew ?_ | refine blk_alloc ?_ _)); refine blk_put (cs := #[.string (⟨#[]⟩ : ByteArray), .int .i64 0]) ?_ 0 _ rfl; (with_reducible repeat (first | refine blk_drewN ?_ _ | refine blk_drew ?_ | refine blk_alloc ?_ _)); refine blk_far ?_ NB320_324.out _; (with_reducible repeat (first | refine blk_drewN ?_ _ | refine blk_drew ?_ | refine blk_alloc ?_ _)); exact BK320.out) Tryd.underlying32 rfl (by kernel_rfl)) rfl ?_
 exact ⟨ew_, by repeat (first | (with_reducible first | exact HI0.out | apply IsS155.alloc | apply IsS155.drewN | apply IsS155.drew | apply IsS155.set_1 | apply IsS155.set_2 | refine IsS155.far ?_ NB0_320.out _ | refine IsS155.far ?_ NB0_324.out _) | exact HI0.out), by repeat (first | (with_reducible first | exact HB.out | apply below_alloc | apply pw_below_drewN | apply below_drew1 | refine below_set ?_ (IsS155.ge HI0.out) | refine below_set ?_ GE320.out | refine below_set ?_ GE324.out) | exact HB.out), by repeat (first | (with_reducible first | exact HK.out | apply KeepBut.set_ | apply keep_drewN | apply keep_drew | apply keep_alloc | refine keep_far ?_ GW320.out _ | refine keep_far ?_ GW324.out _) | exact HK.out)⟩

/-! ### spec_l23Ask: function 70 -/
def spec_l23Ask.f (k : Nat) (l0 : List Int) : Option ((List (S23)) × ByteArray × Int) := (spec_l00From.f l0).bind fun bt329 => ((spec_l23Bent.f k bt329.1 bt329.2.1 bt329.2.2).bind fun bt333 => ((spec_l00Src_one.f bt329.1 bt333.2.1 bt333.2.2 10).bind fun bt338 => (if bt338.1 = true then ((spec_l23SpoilWant.f bt329.1 bt338.2.1 bt338.2.2).bind fun bt341 => (some (bt333.1, bt341.1, bt341.2.1))) else ((spec_l23DrawWant.f bt329.1 bt338.2.1 bt338.2.2).bind fun bt345 => (some (bt333.1, bt345.1, bt345.2.1))))))
set_option maxHeartbeats 8000000 in
set_option maxRecDepth 100000 in
theorem spec_l23Ask.calls (k : Nat) (A0 : Option Addr) (c0 : Nat) (l0 : List Int) (r1 : List (S23)) (r2 : ByteArray) (r3 : Int) (w : World) (hr0 : Kd.C (Kd.int .u8) w A0 l0.length l0) (hc0 : l0.length ≤ c0) (h : spec_l23Ask.f k l0 = some (r1, r2, r3)) :
  Calls Tryd.prog 70 #[.slice A0 l0.length c0] w fun e w' => ∃ v0_ : Value, e = .returned (.tuple #[v0_, .agg #[.string r2, .int .i64 r3]]) ∧ Kd.R k23 23 w' w.heap.size (fun _ => True) v0_ r1 ∧ Below w.heap.size w w' := by
 have hu32 := Tryd.underlying32
 have HR0 := ak_ hr0
 have HC0 := ak_ hc0
 clear hr0 hc0
 have HB := ak_ (Below.refl w.heap.size w)
 have H : ((spec_l00From.f l0).bind fun bt329 => ((spec_l23Bent.f k bt329.1 bt329.2.1 bt329.2.2).bind fun bt333 => ((spec_l00Src_one.f bt329.1 bt333.2.1 bt333.2.2 10).bind fun bt338 => (if bt338.1 = true then ((spec_l23SpoilWant.f bt329.1 bt338.2.1 bt338.2.2).bind fun bt341 => (some (bt333.1, bt341.1, bt341.2.1))) else ((spec_l23DrawWant.f bt329.1 bt338.2.1 bt338.2.2).bind fun bt345 => (some (bt333.1, bt345.1, bt345.2.1))))))) = some (r1, r2, r3) := h
 clear h
 replace H := ob_ H
 obtain ⟨⟨t329, t330, t331⟩, A20, H⟩ := H
 (try dsimp only at H)
 have A2 := ak_ A20
 clear A20
 replace H := ob_ H
 obtain ⟨⟨t333, t336, t337⟩, A30, H⟩ := H
 (try dsimp only at H)
 have A3 := ak_ A30
 clear A30
 replace H := ob_ H
 obtain ⟨⟨t338, t339, t340⟩, A40, H⟩ := H
 (try dsimp only at H)
 have A4 := ak_ A40
 clear A40
 by_cases c5 : t338 = true
 ·subst c5
  have H1 : ((spec_l23SpoilWant.f t329 t339 t340).bind fun bt341 => (some (t333, bt341.1, bt341.2.1))) = some (r1, r2, r3) := by rw [if_pos rfl] at H; exact H
  clear H
  have H := H1
  clear H1
  replace H := ob_ H
  obtain ⟨⟨t341, t342, t343, t344⟩, A60, H⟩ := H
  (try dsimp only at H)
  have A6 := ak_ A60
  clear A60
  simp only [Option.some.injEq, Prod.mk.injEq] at H
  obtain ⟨rfl, rfl, rfl⟩ := H
  go_enter Tryd.func70, Tryd.ntmps70
  go_wp2_with (first | ((with_reducible refine gate_dst (N := 3) rfl ?_); refine box_event ?hg (N := 3) ?hd (cs := #[.string (⟨#[]⟩ : ByteArray), .int .i64 0]) (t := 32) ?hr ?_; (case hd => rfl); (case hg => rfl); (case hr => first | (go_simp; done) | (go_simp; rfl)); intro gb328 hg w7 hbox hb; have BK328 := ak_ (hbox); have GW328 := ak_ ((by rw [hg]; exact (below_size hb_) : w.heap.size ≤ gb328)); have GE328 := ak_ ((by rw [hg]; exact (below_size hb_) : w.heap.size ≤ gb328)); replace HB := ak_ (below_step hb_ hb); skip; clear hb hbox hg) | ((with_reducible refine gate_callee (f := 76) rfl ?_); refine goesL_ (some 7) rfl rfl Tryd.func76 (by kernel_rfl) rfl #[.slice A0 l0.length c0] rfl ln_ ?_; (with_reducible refine (spec_l00From.calls _ _ l0 t329 t330 t331 w _ ?side1 HR0.out HC0.out A2.out).mono ?_); (case side1 => repeat (first | (with_reducible first | exact HB.out | apply below_alloc | apply pw_below_drewN | apply below_drew1 | refine below_set ?_ GE328.out) | exact HB.out)); rintro e w8 ⟨g332, rfl, hi, hb, hb2⟩; refine ⟨_, rfl, ?_⟩; replace HB := ak_ (hb); have HI332 := ak_ (hi); have NB332_328 := ak_ (IsS155.ne_blk hi (blk_below (g := gb328) (o := .cells #[.string (⟨#[]⟩ : ByteArray), .int .i64 0] 32 (0, 0)) (bk_ BK328) hb2) (by decide)); have NB328_332 := ak_ (Ne.symm (IsS155.ne_blk hi (blk_below (g := gb328) (o := .cells #[.string (⟨#[]⟩ : ByteArray), .int .i64 0] 32 (0, 0)) (bk_ BK328) hb2) (by decide))); replace BK328 := ak_ (blk_below (g := gb328) (o := .cells #[.string (⟨#[]⟩ : ByteArray), .int .i64 0] 32 (0, 0)) (bk_ BK328) hb2); skip; clear hb hb2 hi) | ((with_reducible refine gate_callee (f := 77) rfl ?_); refine goesL_ (some 9) rfl rfl Tryd.func77 (by kernel_rfl) rfl #[.pointer (some ⟨g332, 0, none⟩)] rfl ln_ ?_; (with_reducible refine (spec_l23Bent.calls k g332 t329 t330 t331 t333 t336 t337 w _ ?side1 ?side2 A3.out).mono ?_); (case side1 => repeat (first | (with_reducible first | exact HI332.out | apply IsS155.alloc | apply IsS155.drewN | apply IsS155.drew | apply IsS155.set_1 | apply IsS155.set_2 | refine IsS155.far ?_ NB332_328.out _) | exact HI332.out)); (case side2 => repeat (first | (with_reducible first | exact HB.out | apply below_alloc | apply pw_below_drewN | apply below_drew1 | refine below_set ?_ (IsS155.ge HI332.out) | refine below_set ?_ GE328.out) | exact HB.out)); rintro e w9 ⟨v334, rfl, ho0, hi, hb, hk⟩; refine ⟨_, rfl, ?_⟩; replace BK328 := ak_ (KeepBut.blk hk (g' := gb328) (o := .cells #[.string (⟨#[]⟩ : ByteArray), .int .i64 0] 32 (0, 0)) (bk_ BK328) NB328_332.out (by simp)); have HO335 := ak_ (Kd.R_lower ho0 (below_size (by repeat (first | (with_reducible first | exact HB.out | apply below_alloc | apply pw_below_drewN | apply below_drew1 | refine below_set ?_ (IsS155.ge HI332.out) | refine below_set ?_ GE328.out) | exact HB.out)))); replace HB := ak_ (hb); replace HI332 := ak_ (hi); skip; clear hb hk hi ho0) | ((with_reducible refine gate_callee (f := 84) rfl ?_); refine goesL_ (some 11) rfl rfl Tryd.func84 (by kernel_rfl) rfl #[.pointer (some ⟨g332, 0, none⟩), .int .i64 10] rfl ln_ ?_; (with_reducible refine (spec_l00Src_one.calls g332 t329 t336 t337 10 true t339 t340 w _ ?side1 ?side2 A4.out).mono ?_); (case side1 => repeat (first | (with_reducible first | exact HI332.out | apply IsS155.alloc | apply IsS155.drewN | apply IsS155.drew | apply IsS155.set_1 | apply IsS155.set_2 | refine IsS155.far ?_ NB332_328.out _) | exact HI332.out)); (case side2 => repeat (first | (with_reducible first | exact HB.out | apply below_alloc | apply pw_below_drewN | apply below_drew1 | refine below_set ?_ (IsS155.ge HI332.out) | refine below_set ?_ GE328.out) | exact HB.out)); rintro e w10 ⟨rfl, hi, hb, hk⟩; refine ⟨_, rfl, ?_⟩; replace BK328 := ak_ (KeepBut.blk hk (g' := gb328) (o := .cells #[.string (⟨#[]⟩ : ByteArray), .int .i64 0] 32 (0, 0)) (bk_ BK328) NB328_332.out (by simp)); replace HO335 := ak_ (Kd.R_mono (Kd.R_keep (IsS155.apart (show IsS155 w _ g332 t329 t336 t337 from by repeat (first | (with_reducible first | exact HI332.out | apply IsS155.alloc | apply IsS155.drewN | apply IsS155.drew | apply IsS155.set_1 | apply IsS155.set_2 | refine IsS155.far ?_ NB332_328.out _) | exact HI332.out)) (kr_ HO335) (by decide)) hk (fun _ h => h.2)) (fun _ h => h.1)); replace HB := ak_ (hb); replace HI332 := ak_ (hi); skip; clear hb hk hi) | ((with_reducible refine gate_callee (f := 128) rfl ?_); refine goesL_ (some 14) rfl rfl Tryd.func128 (by kernel_rfl) rfl #[.pointer (some ⟨g332, 0, none⟩)] rfl ln_ ?_; (with_reducible refine (spec_l23SpoilWant.calls g332 t329 t339 t340 t341 t342 t343 t344 w _ ?side1 ?side2 A6.out).mono ?_); (case side1 => repeat (first | (with_reducible first | exact HI332.out | apply IsS155.alloc | apply IsS155.drewN | apply IsS155.drew | apply IsS155.set_1 | apply IsS155.set_2 | refine IsS155.far ?_ NB332_328.out _) | exact HI332.out)); (case side2 => repeat (first | (with_reducible first | exact HB.out | apply below_alloc | apply pw_below_drewN | apply below_drew1 | refine below_set ?_ (IsS155.ge HI332.out) | refine below_set ?_ GE328.out) | exact HB.out)); rintro e w11 ⟨rfl, hi, hb, hk⟩; refine ⟨_, rfl, ?_⟩; replace BK328 := ak_ (KeepBut.blk hk (g' := gb328) (o := .cells #[.string (⟨#[]⟩ : ByteArray), .int .i64 0] 32 (0, 0)) (bk_ BK328) NB328_332.out (by simp)); replace HO335 := ak_ (Kd.R_mono (Kd.R_keep (IsS155.apart (show IsS155 w _ g332 t329 t339 t340 from by repeat (first | (with_reducible first | exact HI332.out | apply IsS155.alloc | apply IsS155.drewN | apply IsS155.drew | apply IsS155.set_1 | apply IsS155.set_2 | refine IsS155.far ?_ NB332_328.out _) | exact HI332.out)) (kr_ HO335) (by decide)) hk (fun _ h => h.2)) (fun _ h => h.1)); replace HB := ak_ (hb); replace HI332 := ak_ (hi); skip; (try clear hb); (try clear hb2); (try clear hk); (try clear hi); have hnb12 := NB328_332.out; have hnc12 := NB332_328.out; have hcz13_0 : w11.cell? ⟨gb328, 0, none⟩ = some (.string (⟨#[]⟩ : ByteArray)) := (blk_cell BK328.out 0).trans rfl; have hcz13_1 : w11.cell? ⟨gb328, 1, none⟩ = some (.int .i64 0) := (blk_cell BK328.out 1).trans rfl; have hfz13_0 := blk_frozen BK328.out 0; have hfz13_1 := blk_frozen BK328.out 1))
  refine bodyPost_ret (results_tc rfl _ _ gb328 32 #[.string t341, .int .i64 t342] (0, 0) _ rfl (by (with_reducible repeat (first | refine blk_drewN ?_ _ | refine blk_drew ?_ | refine blk_alloc ?_ _)); refine blk_put (cs := #[.string t341, .int .i64 0]) ?_ 1 _ rfl; (with_reducible repeat (first | refine blk_drewN ?_ _ | refine blk_drew ?_ | refine blk_alloc ?_ _)); refine blk_put (cs := #[.string (⟨#[]⟩ : ByteArray), .int .i64 0]) ?_ 0 _ rfl; (with_reducible repeat (first | refine blk_drewN ?_ _ | refine blk_drew ?_ | refine blk_alloc ?_ _)); exact BK328.out) Tryd.underlying32 rfl (by kernel_rfl)) rfl ?_
  exact ⟨_, ew_, by (with_reducible repeat (first | apply Kd.R_alloc | apply Kd.R_drewN | apply Kd.R_drew)); exact Kd.R_mono (Kd.R_far (p := ⟨gb328, 1, none⟩) (Kd.R_far (p := ⟨gb328, 0, none⟩) (Kd.R_types HO335.out BK328.out (by decide)) (fun _ hk => hk.2) (.string t341)) (fun _ hk => hk.2) (.int .i64 t342)) (fun _ hk => trivial), by repeat (first | (with_reducible first | exact HB.out | apply below_alloc | apply pw_below_drewN | apply below_drew1 | refine below_set ?_ (IsS155.ge HI332.out) | refine below_set ?_ GE328.out) | exact HB.out)⟩
 replace c5 := Bool.eq_false_iff.mpr c5
 subst c5
 have H1 : ((spec_l23DrawWant.f t329 t339 t340).bind fun bt345 => (some (t333, bt345.1, bt345.2.1))) = some (r1, r2, r3) := by rw [if_neg (show ¬ (false = true) by decide)] at H; exact H
 clear H
 have H := H1
 clear H1
 replace H := ob_ H
 obtain ⟨⟨t345, t346, t347, t348⟩, A140, H⟩ := H
 (try dsimp only at H)
 have A14 := ak_ A140
 clear A140
 simp only [Option.some.injEq, Prod.mk.injEq] at H
 obtain ⟨rfl, rfl, rfl⟩ := H
 go_enter Tryd.func70, Tryd.ntmps70
 go_wp2_with (first | ((with_reducible refine gate_dst (N := 3) rfl ?_); refine box_event ?hg (N := 3) ?hd (cs := #[.string (⟨#[]⟩ : ByteArray), .int .i64 0]) (t := 32) ?hr ?_; (case hd => rfl); (case hg => rfl); (case hr => first | (go_simp; done) | (go_simp; rfl)); intro gb328 hg w15 hbox hb; have BK328 := ak_ (hbox); have GW328 := ak_ ((by rw [hg]; exact (below_size hb_) : w.heap.size ≤ gb328)); have GE328 := ak_ ((by rw [hg]; exact (below_size hb_) : w.heap.size ≤ gb328)); replace HB := ak_ (below_step hb_ hb); skip; clear hb hbox hg) | ((with_reducible refine gate_callee (f := 76) rfl ?_); refine goesL_ (some 7) rfl rfl Tryd.func76 (by kernel_rfl) rfl #[.slice A0 l0.length c0] rfl ln_ ?_; (with_reducible refine (spec_l00From.calls _ _ l0 t329 t330 t331 w _ ?side1 HR0.out HC0.out A2.out).mono ?_); (case side1 => repeat (first | (with_reducible first | exact HB.out | apply below_alloc | apply pw_below_drewN | apply below_drew1 | refine below_set ?_ GE328.out) | exact HB.out)); rintro e w16 ⟨g332, rfl, hi, hb, hb2⟩; refine ⟨_, rfl, ?_⟩; replace HB := ak_ (hb); have HI332 := ak_ (hi); have NB332_328 := ak_ (IsS155.ne_blk hi (blk_below (g := gb328) (o := .cells #[.string (⟨#[]⟩ : ByteArray), .int .i64 0] 32 (0, 0)) (bk_ BK328) hb2) (by decide)); have NB328_332 := ak_ (Ne.symm (IsS155.ne_blk hi (blk_below (g := gb328) (o := .cells #[.string (⟨#[]⟩ : ByteArray), .int .i64 0] 32 (0, 0)) (bk_ BK328) hb2) (by decide))); replace BK328 := ak_ (blk_below (g := gb328) (o := .cells #[.string (⟨#[]⟩ : ByteArray), .int .i64 0] 32 (0, 0)) (bk_ BK328) hb2); skip; clear hb hb2 hi) | ((with_reducible refine gate_callee (f := 77) rfl ?_); refine goesL_ (some 9) rfl rfl Tryd.func77 (by kernel_rfl) rfl #[.pointer (some ⟨g332, 0, none⟩)] rfl ln_ ?_; (with_reducible refine (spec_l23Bent.calls k g332 t329 t330 t331 t333 t336 t337 w _ ?side1 ?side2 A3.out).mono ?_); (case side1 => repeat (first | (with_reducible first | exact HI332.out | apply IsS155.alloc | apply IsS155.drewN | apply IsS155.drew | apply IsS155.set_1 | apply IsS155.set_2 | refine IsS155.far ?_ NB332_328.out _) | exact HI332.out)); (case side2 => repeat (first | (with_reducible first | exact HB.out | apply below_alloc | apply pw_below_drewN | apply below_drew1 | refine below_set ?_ (IsS155.ge HI332.out) | refine below_set ?_ GE328.out) | exact HB.out)); rintro e w17 ⟨v334, rfl, ho0, hi, hb, hk⟩; refine ⟨_, rfl, ?_⟩; replace BK328 := ak_ (KeepBut.blk hk (g' := gb328) (o := .cells #[.string (⟨#[]⟩ : ByteArray), .int .i64 0] 32 (0, 0)) (bk_ BK328) NB328_332.out (by simp)); have HO335 := ak_ (Kd.R_lower ho0 (below_size (by repeat (first | (with_reducible first | exact HB.out | apply below_alloc | apply pw_below_drewN | apply below_drew1 | refine below_set ?_ (IsS155.ge HI332.out) | refine below_set ?_ GE328.out) | exact HB.out)))); replace HB := ak_ (hb); replace HI332 := ak_ (hi); skip; clear hb hk hi ho0) | ((with_reducible refine gate_callee (f := 84) rfl ?_); refine goesL_ (some 11) rfl rfl Tryd.func84 (by kernel_rfl) rfl #[.pointer (some ⟨g332, 0, none⟩), .int .i64 10] rfl ln_ ?_; (with_reducible refine (spec_l00Src_one.calls g332 t329 t336 t337 10 false t339 t340 w _ ?side1 ?side2 A4.out).mono ?_); (case side1 => repeat (first | (with_reducible first | exact HI332.out | apply IsS155.alloc | apply IsS155.drewN | apply IsS155.drew | apply IsS155.set_1 | apply IsS155.set_2 | refine IsS155.far ?_ NB332_328.out _) | exact HI332.out)); (case side2 => repeat (first | (with_reducible first | exact HB.out | apply below_alloc | apply pw_below_drewN | apply below_drew1 | refine below_set ?_ (IsS155.ge HI332.out) | refine below_set ?_ GE328.out) | exact HB.out)); rintro e w18 ⟨rfl, hi, hb, hk⟩; refine ⟨_, rfl, ?_⟩; replace BK328 := ak_ (KeepBut.blk hk (g' := gb328) (o := .cells #[.string (⟨#[]⟩ : ByteArray), .int .i64 0] 32 (0, 0)) (bk_ BK328) NB328_332.out (by simp)); replace HO335 := ak_ (Kd.R_mono (Kd.R_keep (IsS155.apart (show IsS155 w _ g332 t329 t336 t337 from by repeat (first | (with_reducible first | exact HI332.out | apply IsS155.alloc | apply IsS155.drewN | apply IsS155.drew | apply IsS155.set_1 | apply IsS155.set_2 | refine IsS155.far ?_ NB332_328.out _) | exact HI332.out)) (kr_ HO335) (by decide)) hk (fun _ h => h.2)) (fun _ h => h.1)); replace HB := ak_ (hb); replace HI332 := ak_ (hi); skip; clear hb hk hi) | ((with_reducible refine gate_callee (f := 129) rfl ?_); refine goesL_ (some 17) rfl rfl Tryd.func129 (by kernel_rfl) rfl #[.pointer (some ⟨g332, 0, none⟩)] rfl ln_ ?_; (with_reducible refine (spec_l23DrawWant.calls g332 t329 t339 t340 t345 t346 t347 t348 w _ ?side1 ?side2 A14.out).mono ?_); (case side1 => repeat (first | (with_reducible first | exact HI332.out | apply IsS155.alloc | apply IsS155.drewN | apply IsS155.drew | apply IsS155.set_1 | apply IsS155.set_2 | refine IsS155.far ?_ NB332_328.out _) | exact HI332.out)); (case side2 => repeat (first | (with_reducible first | exact HB.out | apply below_alloc | apply pw_below_drewN | apply below_drew1 | refine below_set ?_ (IsS155.ge HI332.out) | refine below_set ?_ GE328.out) | exact HB.out)); rintro e w19 ⟨rfl, hi, hb, hk⟩; refine ⟨_, rfl, ?_⟩; replace BK328 := ak_ (KeepBut.blk hk (g' := gb328) (o := .cells #[.string (⟨#[]⟩ : ByteArray), .int .i64 0] 32 (0, 0)) (bk_ BK328) NB328_332.out (by simp)); replace HO335 := ak_ (Kd.R_mono (Kd.R_keep (IsS155.apart (show IsS155 w _ g332 t329 t339 t340 from by repeat (first | (with_reducible first | exact HI332.out | apply IsS155.alloc | apply IsS155.drewN | apply IsS155.drew | apply IsS155.set_1 | apply IsS155.set_2 | refine IsS155.far ?_ NB332_328.out _) | exact HI332.out)) (kr_ HO335) (by decide)) hk (fun _ h => h.2)) (fun _ h => h.1)); replace HB := ak_ (hb); replace HI332 := ak_ (hi); skip; (try clear hb); (try clear hb2); (try clear hk); (try clear hi); have hnb20 := NB328_332.out; have hnc20 := NB332_328.out; have hcz21_0 : w19.cell? ⟨gb328, 0, none⟩ = some (.string (⟨#[]⟩ : ByteArray)) := (blk_cell BK328.out 0).trans rfl; have hcz21_1 : w19.cell? ⟨gb328, 1, none⟩ = some (.int .i64 0) := (blk_cell BK328.out 1).trans rfl; have hfz21_0 := blk_frozen BK328.out 0; have hfz21_1 := blk_frozen BK328.out 1))
 refine bodyPost_ret (results_tc rfl _ _ gb328 32 #[.string t345, .int .i64 t346] (0, 0) _ rfl (by (with_reducible repeat (first | refine blk_drewN ?_ _ | refine blk_drew ?_ | refine blk_alloc ?_ _)); refine blk_put (cs := #[.string t345, .int .i64 0]) ?_ 1 _ rfl; (with_reducible repeat (first | refine blk_drewN ?_ _ | refine blk_drew ?_ | refine blk_alloc ?_ _)); refine blk_put (cs := #[.string (⟨#[]⟩ : ByteArray), .int .i64 0]) ?_ 0 _ rfl; (with_reducible repeat (first | refine blk_drewN ?_ _ | refine blk_drew ?_ | refine blk_alloc ?_ _)); exact BK328.out) Tryd.underlying32 rfl (by kernel_rfl)) rfl ?_
 exact ⟨_, ew_, by (with_reducible repeat (first | apply Kd.R_alloc | apply Kd.R_drewN | apply Kd.R_drew)); exact Kd.R_mono (Kd.R_far (p := ⟨gb328, 1, none⟩) (Kd.R_far (p := ⟨gb328, 0, none⟩) (Kd.R_types HO335.out BK328.out (by decide)) (fun _ hk => hk.2) (.string t345)) (fun _ hk => hk.2) (.int .i64 t346)) (fun _ hk => trivial), by repeat (first | (with_reducible first | exact HB.out | apply below_alloc | apply pw_below_drewN | apply below_drew1 | refine below_set ?_ (IsS155.ge HI332.out) | refine below_set ?_ GE328.out) | exact HB.out)⟩

/-! ### spec_DrawCutPiece: function 12 -/
def spec_DrawCutPiece.f (k : Nat) (l0 : List Int) : Option ((List (S23)) × ByteArray × Int) := (spec_l23Ask.f k l0).bind fun bt350 => (some (bt350.1, bt350.2.1, bt350.2.2))
set_option maxHeartbeats 8000000 in
set_option maxRecDepth 100000 in
theorem spec_DrawCutPiece.calls (k : Nat) (A0 : Option Addr) (c0 : Nat) (l0 : List Int) (r1 : List (S23)) (r2 : ByteArray) (r3 : Int) (w : World) (hr0 : Kd.C (Kd.int .u8) w A0 l0.length l0) (hc0 : l0.length ≤ c0) (h : spec_DrawCutPiece.f k l0 = some (r1, r2, r3)) :
  Calls Tryd.prog 12 #[.slice A0 l0.length c0] w fun e w' => ∃ v0_ : Value, e = .returned (.tuple #[v0_, .agg #[.string r2, .int .i64 r3]]) ∧ Kd.R k23 23 w' w.heap.size (fun _ => True) v0_ r1 ∧ Below w.heap.size w w' := by
 have hu32 := Tryd.underlying32
 have HR0 := ak_ hr0
 have HC0 := ak_ hc0
 clear hr0 hc0
 have HB := ak_ (Below.refl w.heap.size w)
 have H : ((spec_l23Ask.f k l0).bind fun bt350 => (some (bt350.1, bt350.2.1, bt350.2.2))) = some (r1, r2, r3) := h
 clear h
 replace H := ob_ H
 obtain ⟨⟨t350, t353, t354⟩, A20, H⟩ := H
 (try dsimp only at H)
 have A2 := ak_ A20
 clear A20
 simp only [Option.some.injEq, Prod.mk.injEq] at H
 obtain ⟨rfl, rfl, rfl⟩ := H
 go_enter Tryd.func12, Tryd.ntmps12
 go_wp2_with (first | ((with_reducible refine gate_dst (N := 3) rfl ?_); refine box_event ?hg (N := 3) ?hd (cs := #[.string (⟨#[]⟩ : ByteArray), .int .i64 0]) (t := 32) ?hr ?_; (case hd => rfl); (case hg => rfl); (case hr => first | (go_simp; done) | (go_simp; rfl)); intro gb349 hg w3 hbox hb; have BK349 := ak_ (hbox); have GW349 := ak_ ((by rw [hg]; exact (below_size hb_) : w.heap.size ≤ gb349)); have GE349 := ak_ ((by rw [hg]; exact (below_size hb_) : w.heap.size ≤ gb349)); replace HB := ak_ (below_step hb_ hb); skip; clear hb hbox hg) | ((with_reducible refine gate_callee (f := 70) rfl ?_); refine goesL_ (some 5) rfl rfl Tryd.func70 (by kernel_rfl) rfl #[.slice A0 l0.length c0] rfl ln_ ?_; (with_reducible refine (spec_l23Ask.calls k _ _ l0 t350 t353 t354 _ (kc_ (Kd.C_below HR0.out HB.out)) HC0.out A2.out).mono ?_); rintro e w4 ⟨v351, rfl, ho0, hb⟩; refine ⟨_, rfl, ?_⟩; have HO352 := ak_ (Kd.R_lower ho0 (below_size (hg_ GE349))); replace BK349 := ak_ (blk_below (g := gb349) (o := .cells #[.string (⟨#[]⟩ : ByteArray), .int .i64 0] 32 (0, 0)) (bk_ BK349) hb); replace HB := ak_ (below_step (hg_ GE349) hb); skip; (try clear hb); (try clear hb2); (try clear hk); (try clear hi); (try clear ho0); have hcz5_0 : w4.cell? ⟨gb349, 0, none⟩ = some (.string (⟨#[]⟩ : ByteArray)) := (blk_cell BK349.out 0).trans rfl; have hcz5_1 : w4.cell? ⟨gb349, 1, none⟩ = some (.int .i64 0) := (blk_cell BK349.out 1).trans rfl; have hfz5_0 := blk_frozen BK349.out 0; have hfz5_1 := blk_frozen BK349.out 1))
 refine bodyPost_ret (results_tc rfl _ _ gb349 32 #[.string t353, .int .i64 t354] (0, 0) _ rfl (by (with_reducible repeat (first | refine blk_drewN ?_ _ | refine blk_drew ?_ | refine blk_alloc ?_ _)); refine blk_put (cs := #[.string t353, .int .i64 0]) ?_ 1 _ rfl; (with_reducible repeat (first | refine blk_drewN ?_ _ | refine blk_drew ?_ | refine blk_alloc ?_ _)); refine blk_put (cs := #[.string (⟨#[]⟩ : ByteArray), .int .i64 0]) ?_ 0 _ rfl; (with_reducible repeat (first | refine blk_drewN ?_ _ | refine blk_drew ?_ | refine blk_alloc ?_ _)); exact BK349.out) Tryd.underlying32 rfl (by kernel_rfl)) rfl ?_
 exact ⟨_, ew_, by (with_reducible repeat (first | apply Kd.R_alloc | apply Kd.R_drewN | apply Kd.R_drew)); exact Kd.R_mono (Kd.R_far (p := ⟨gb349, 1, none⟩) (Kd.R_far (p := ⟨gb349, 0, none⟩) (Kd.R_types HO352.out BK349.out (by decide)) (fun _ hk => hk.2) (.string t353)) (fun _ hk => hk.2) (.int .i64 t354)) (fun _ hk => trivial), (hg_ GE349)⟩

/-! ### impl_ValidStockCoils: function 33 -/
def impl_ValidStockCoils.l0 : Nat → List (S23) → Int → Int → Option (Bool)
 | 0, _, _, _ => none
 | k + 1, x8, x9, x10 => if x10 < x9 then (if 0 ≤ x10 then (if x10 < (x8.length : Int) then ((impl_validCoil.f k ((rd_T23 x8 x10).f0) ((rd_T23 x8 x10).f1)).bind fun t357 => (if t357 = true then (impl_ValidStockCoils.l0 k x8 x9 (wrap64 (x10 + 1))) else (some false))) else (none)) else (none)) else (some true)
def impl_ValidStockCoils.f (k : Nat) (l0 : List (S23)) : Option (Bool) := if (l0.length : Int) > 40 then (some false) else (impl_ValidStockCoils.l0 k l0 (l0.length : Int) 0)
set_option maxHeartbeats 8000000 in
set_option maxRecDepth 100000 in
theorem impl_ValidStockCoils.calls (k : Nat) (A0 : Option Addr) (c0 : Nat) (l0 : List (S23)) (r : Bool) (w : World) (hr0 : Kd.C k23 w A0 l0.length l0) (hc0 : l0.length ≤ c0) (h : impl_ValidStockCoils.f k l0 = some r) :
  Calls Tryd.prog 33 #[.slice A0 l0.length c0] w fun e w' => e = .returned (.bool r) ∧ Below w.heap.size w w' := by
 have hu23 := Tryd.underlying23
 have HR0 := ak_ hr0
 have HC0 := ak_ hc0
 clear hr0 hc0
 have HB := ak_ (Below.refl w.heap.size w)
 have H : (if (l0.length : Int) > 40 then (some false) else (impl_ValidStockCoils.l0 k l0 (l0.length : Int) 0)) = some r := h
 clear h
 by_cases c2 : (l0.length : Int) > 40
 ·rw [if_pos c2] at H
  have c2b0 : decide (40 < (l0.length : Int)) = true := dt_ c2
  have c2b1 : decide (40 < l0.length) = true := dt_ (by omega)
  clear c2
  obtain rfl := Option.some.inj H
  go_enter Tryd.func33, Tryd.ntmps33
  go_wp2
  go_ret
  exact ⟨ew_, hb_⟩
 rw [if_neg c2] at H
 have c2b0 : decide (40 < (l0.length : Int)) = false := decide_eq_false c2
 have c2b1 : decide (40 < l0.length) = false := decide_eq_false (by omega)
 clear c2
 have H' := ak_ H
 clear H
 go_enter Tryd.func33, Tryd.ntmps33
 go_wp2
 go_loopg [10] k (fun kq v10 w' => ∃ (x10_1 : Int), v10 = .int .i64 x10_1 ∧ Aside0 (impl_ValidStockCoils.l0 kq l0 (l0.length : Int) x10_1 = some r) ∧ Aside0 (kq ≤ k) ∧ Aside0 (Below w.heap.size w w'))
 case atStart => exact ⟨(0), fr_, H', ⟨Nat.le_refl _⟩, ⟨hb_⟩⟩
 case round =>
  clear H'
  try clear c2
  try clear c2b0
  try clear c2b1
  try clear p2
  obtain ⟨x10_1, rfl, HA, HK1, HB⟩ := hrel
  cases gk with
  | zero => exact absurd HA.out (by simp [impl_ValidStockCoils.l0])
  | succ k1 =>
   have H := HA.out
   clear HA
   simp only [impl_ValidStockCoils.l0] at H
   by_cases c3 : x10_1 < (l0.length : Int)
   rotate_left
   ·rw [if_neg c3] at H
    have c3b0 : decide (x10_1 < (l0.length : Int)) = false := decide_eq_false c3
    clear c3
    obtain rfl := Option.some.inj H
    go_wp2
    go_ret
    exact ⟨ew_, hb_⟩

   rw [if_pos c3] at H
   have c3b0 : decide (x10_1 < (l0.length : Int)) = true := dt_ c3
   clear c3
   by_cases c4 : 0 ≤ x10_1
   rotate_left
   ·rw [if_neg c4] at H
    exact absurd H (by simp)
   rw [if_pos c4] at H
   have c4b0 : decide (0 ≤ x10_1) = true := dt_ c4
   clear c4
   by_cases c5 : x10_1 < (l0.length : Int)
   rotate_left
   ·rw [if_neg c5] at H
    exact absurd H (by simp)
   rw [if_pos c5] at H
   have c5b0 : decide (x10_1 < (l0.length : Int)) = true := dt_ c5
   clear c5
   replace H := ob_ H
   obtain ⟨t357, A60, H⟩ := H
   (try dsimp only at H)
   have A6 := ak_ A60
   clear A60
   by_cases c7 : t357 = true
   rotate_left
   ·replace c7 := Bool.eq_false_iff.mpr c7
    subst c7
    have H1 : (some false) = some r := by rw [if_neg (show ¬ (false = true) by decide)] at H; exact H
    clear H
    have H := H1
    clear H1
    obtain rfl := Option.some.inj H
    have p355 : 0 ≤ (x10_1 : Int) := od_
    have q355 : x10_1 < (l0.length : Int) := od_
    obtain ⟨ad355, e355, hx355_0, hx355_1⟩ := at_T23 HR0.out x10_1 p355 q355
    cases e355
    replace hx355_0 := cq_ HB hx355_0
    replace hx355_1 := cq_ HB hx355_1
    replace p355 := eq_true p355
    replace q355 := eq_true q355
    go_wp2_with (first | ((with_reducible refine gate_dst (N := 4) rfl ?_); refine box_event ?hg (N := 4) ?hd (cs := #[.string (⟨#[]⟩ : ByteArray), .int .i64 0]) (t := 23) ?hr ?_; (case hd => rfl); (case hg => rfl); (case hr => first | (go_simp; done) | (go_simp; rfl)); intro gb356 hg w11 hbox hb; have BK356 := ak_ (hbox); have GW356 := ak_ ((by rw [hg]; exact (below_size hb_) : w.heap.size ≤ gb356)); have GE356 := ak_ ((by rw [hg]; exact (below_size hb_) : w.heap.size ≤ gb356)); replace HB := ak_ (below_step hb_ hb); skip; clear hb hbox hg; have hcz12_0 : w11.cell? ⟨gb356, 0, none⟩ = some (.string (⟨#[]⟩ : ByteArray)) := (blk_cell BK356.out 0).trans rfl; have hcz12_1 : w11.cell? ⟨gb356, 1, none⟩ = some (.int .i64 0) := (blk_cell BK356.out 1).trans rfl; have hfz12_0 := blk_frozen BK356.out 0; have hfz12_1 := blk_frozen BK356.out 1) | ((with_reducible refine gate_callee (f := 69) rfl ?_); refine goesL_ (some 15) rfl rfl Tryd.func69 (by kernel_rfl) rfl #[.agg #[.string ((rd_T23 l0 x10_1).f0), .int .i64 ((rd_T23 l0 x10_1).f1)]] rfl ln_ ?_; (with_reducible refine (impl_validCoil.calls k1 ((rd_T23 l0 x10_1).f0) ((rd_T23 l0 x10_1).f1) false _ A6.out).mono ?_); rintro e w13 ⟨rfl, hb⟩; refine ⟨_, rfl, ?_⟩; replace BK356 := ak_ (blk_below (g := gb356) (o := .cells #[.string ((rd_T23 l0 x10_1).f0), .int .i64 ((rd_T23 l0 x10_1).f1)] 23 (0, 0)) (by (with_reducible repeat (first | refine blk_drewN ?_ _ | refine blk_drew ?_ | refine blk_alloc ?_ _)); refine blk_put (cs := #[.string ((rd_T23 l0 x10_1).f0), .int .i64 0]) ?_ 1 _ rfl; (with_reducible repeat (first | refine blk_drewN ?_ _ | refine blk_drew ?_ | refine blk_alloc ?_ _)); refine blk_put (cs := #[.string (⟨#[]⟩ : ByteArray), .int .i64 0]) ?_ 0 _ rfl; (with_reducible repeat (first | refine blk_drewN ?_ _ | refine blk_drew ?_ | refine blk_alloc ?_ _)); exact BK356.out) hb); replace HB := ak_ (below_step (hg_ GE356) hb); skip; clear hb))
    go_ret
    exact ⟨ew_, (hg_ GE356)⟩
   subst c7
   have H1 : (impl_ValidStockCoils.l0 k1 l0 (l0.length : Int) (wrap64 (x10_1 + 1))) = some r := by rw [if_pos rfl] at H; exact H
   clear H
   have H := H1
   clear H1
   have H' := ak_ H
   clear H
   have p355 : 0 ≤ (x10_1 : Int) := od_
   have q355 : x10_1 < (l0.length : Int) := od_
   obtain ⟨ad355, e355, hx355_0, hx355_1⟩ := at_T23 HR0.out x10_1 p355 q355
   cases e355
   replace hx355_0 := cq_ HB hx355_0
   replace hx355_1 := cq_ HB hx355_1
   replace p355 := eq_true p355
   replace q355 := eq_true q355
   go_wp2_with (first | ((with_reducible refine gate_dst (N := 4) rfl ?_); refine box_event ?hg (N := 4) ?hd (cs := #[.string (⟨#[]⟩ : ByteArray), .int .i64 0]) (t := 23) ?hr ?_; (case hd => rfl); (case hg => rfl); (case hr => first | (go_simp; done) | (go_simp; rfl)); intro gb356 hg w8 hbox hb; have BK356 := ak_ (hbox); have GW356 := ak_ ((by rw [hg]; exact (below_size hb_) : w.heap.size ≤ gb356)); have GE356 := ak_ ((by rw [hg]; exact (below_size hb_) : w.heap.size ≤ gb356)); replace HB := ak_ (below_step hb_ hb); skip; clear hb hbox hg; have hcz9_0 : w8.cell? ⟨gb356, 0, none⟩ = some (.string (⟨#[]⟩ : ByteArray)) := (blk_cell BK356.out 0).trans rfl; have hcz9_1 : w8.cell? ⟨gb356, 1, none⟩ = some (.int .i64 0) := (blk_cell BK356.out 1).trans rfl; have hfz9_0 := blk_frozen BK356.out 0; have hfz9_1 := blk_frozen BK356.out 1) | ((with_reducible refine gate_callee (f := 69) rfl ?_); refine goesL_ (some 15) rfl rfl Tryd.func69 (by kernel_rfl) rfl #[.agg #[.string ((rd_T23 l0 x10_1).f0), .int .i64 ((rd_T23 l0 x10_1).f1)]] rfl ln_ ?_; (with_reducible refine (impl_validCoil.calls k1 ((rd_T23 l0 x10_1).f0) ((rd_T23 l0 x10_1).f1) true _ A6.out).mono ?_); rintro e w10 ⟨rfl, hb⟩; refine ⟨_, rfl, ?_⟩; replace BK356 := ak_ (blk_below (g := gb356) (o := .cells #[.string ((rd_T23 l0 x10_1).f0), .int .i64 ((rd_T23 l0 x10_1).f1)] 23 (0, 0)) (by (with_reducible repeat (first | refine blk_drewN ?_ _ | refine blk_drew ?_ | refine blk_alloc ?_ _)); refine blk_put (cs := #[.string ((rd_T23 l0 x10_1).f0), .int .i64 0]) ?_ 1 _ rfl; (with_reducible repeat (first | refine blk_drewN ?_ _ | refine blk_drew ?_ | refine blk_alloc ?_ _)); refine blk_put (cs := #[.string (⟨#[]⟩ : ByteArray), .int .i64 0]) ?_ 0 _ rfl; (with_reducible repeat (first | refine blk_drewN ?_ _ | refine blk_drew ?_ | refine blk_alloc ?_ _)); exact BK356.out) hb); replace HB := ak_ (below_step (hg_ GE356) hb); skip; clear hb))
   go_roundg k1
   case measure => have := HK1.out; omega
   case rel => exact ⟨(wrap64 (x10_1 + 1)), fr_, H', ⟨by have := HK1.out; omega⟩, ⟨(hg_ GE356)⟩⟩
/-! ### impl_validWant: function 74 -/
def impl_validWant.f (k : Nat) (a0_0 : ByteArray) (a0_1 : Int) : Option (Bool) := (impl_IsName.f k a0_0).bind fun t359 => (if t359 = true then ((impl_within.f a0_1 1 100000).bind fun t360 => (some t360)) else (some false))
set_option maxHeartbeats 8000000 in
set_option maxRecDepth 100000 in
theorem impl_validWant.calls (k : Nat) (a0_0 : ByteArray) (a0_1 : Int) (r : Bool) (w : World) (h : impl_validWant.f k a0_0 a0_1 = some r) :
  Calls Tryd.prog 74 #[.agg #[.string a0_0, .int .i64 a0_1]] w fun e w' => e = .returned (.bool r) ∧ Below w.heap.size w w' := by
 have hu32 := Tryd.underlying32
 have HB := ak_ (Below.refl w.heap.size w)
 have H : ((impl_IsName.f k a0_0).bind fun t359 => (if t359 = true then ((impl_within.f a0_1 1 100000).bind fun t360 => (some t360)) else (some false))) = some r := h
 clear h
 replace H := ob_ H
 obtain ⟨t359, A20, H⟩ := H
 (try dsimp only at H)
 have A2 := ak_ A20
 clear A20
 by_cases c3 : t359 = true
 rotate_left
 ·replace c3 := Bool.eq_false_iff.mpr c3
  subst c3
  have H1 : (some false) = some r := by rw [if_neg (show ¬ (false = true) by decide)] at H; exact H
  clear H
  have H := H1
  clear H1
  obtain rfl := Option.some.inj H
  go_enter Tryd.func74, Tryd.ntmps74
  go_wp2_with (first | ((with_reducible refine gate_dst (N := 1) rfl ?_); refine box_event ?hg (N := 1) ?hd (cs := #[.string a0_0, .int .i64 a0_1]) (t := 32) ?hr ?_; (case hd => rfl); (case hg => rfl); (case hr => first | (go_simp; done) | (go_simp; rfl)); intro gb358 hg w7 hbox hb; have BK358 := ak_ (hbox); have GW358 := ak_ ((by rw [hg]; exact (below_size hb_) : w.heap.size ≤ gb358)); have GE358 := ak_ ((by rw [hg]; exact (below_size hb_) : w.heap.size ≤ gb358)); replace HB := ak_ (below_step hb_ hb); skip; clear hb hbox hg; have hcz8_0 : w7.cell? ⟨gb358, 0, none⟩ = some (.string a0_0) := (blk_cell BK358.out 0).trans rfl; have hcz8_1 : w7.cell? ⟨gb358, 1, none⟩ = some (.int .i64 a0_1) := (blk_cell BK358.out 1).trans rfl; have hfz8_0 := blk_frozen BK358.out 0; have hfz8_1 := blk_frozen BK358.out 1) | ((with_reducible refine gate_callee (f := 79) rfl ?_); refine goesL_ (some 5) rfl rfl Tryd.func79 (by kernel_rfl) rfl #[.string a0_0] rfl ln_ ?_; (with_reducible refine (impl_IsName.calls k a0_0 false _ A2.out).mono ?_); rintro e w' ⟨rfl, ⟨nd, rfl⟩⟩; refine ⟨_, rfl, ?_⟩))
  go_ret
  exact ⟨ew_, (hg_ GE358)⟩

 subst c3
 have H1 : ((impl_within.f a0_1 1 100000).bind fun t360 => (some t360)) = some r := by rw [if_pos rfl] at H; exact H
 clear H
 have H := H1
 clear H1
 replace H := ob_ H
 obtain ⟨t360, A40, H⟩ := H
 (try dsimp only at H)
 have A4 := ak_ A40
 clear A40
 obtain rfl := Option.some.inj H
 go_enter Tryd.func74, Tryd.ntmps74
 go_wp2_with (first | ((with_reducible refine gate_dst (N := 1) rfl ?_); refine box_event ?hg (N := 1) ?hd (cs := #[.string a0_0, .int .i64 a0_1]) (t := 32) ?hr ?_; (case hd => rfl); (case hg => rfl); (case hr => first | (go_simp; done) | (go_simp; rfl)); intro gb358 hg w5 hbox hb; have BK358 := ak_ (hbox); have GW358 := ak_ ((by rw [hg]; exact (below_size hb_) : w.heap.size ≤ gb358)); have GE358 := ak_ ((by rw [hg]; exact (below_size hb_) : w.heap.size ≤ gb358)); replace HB := ak_ (below_step hb_ hb); skip; clear hb hbox hg; have hcz6_0 : w5.cell? ⟨gb358, 0, none⟩ = some (.string a0_0) := (blk_cell BK358.out 0).trans rfl; have hcz6_1 : w5.cell? ⟨gb358, 1, none⟩ = some (.int .i64 a0_1) := (blk_cell BK358.out 1).trans rfl; have hfz6_0 := blk_frozen BK358.out 0; have hfz6_1 := blk_frozen BK358.out 1) | ((with_reducible refine gate_callee (f := 79) rfl ?_); refine goesL_ (some 5) rfl rfl Tryd.func79 (by kernel_rfl) rfl #[.string a0_0] rfl ln_ ?_; (with_reducible refine (impl_IsName.calls k a0_0 true _ A2.out).mono ?_); rintro e w' ⟨rfl, ⟨nd, rfl⟩⟩; refine ⟨_, rfl, ?_⟩) | (go_at_call 87; (with_reducible refine (impl_within.calls a0_1 1 100000 t360 _ A4.out).mono ?_); rintro e w' ⟨rfl, ⟨nd, rfl⟩⟩))
 go_ret
 exact ⟨ew_, (hg_ GE358)⟩
/-! ### impl_bestCoil: function 75 -/
def impl_bestCoil.l0 : Nat → List (S23) → Int → List (S23) → Int → Int → ByteArray → Int → Option (Int)
 | 0, _, _, _, _, _, _, _ => none
 | k + 1, x0, x5, x8, x9, x10, x362000, x362001 => if x10 < x9 then (if 0 ≤ x10 then (if x10 < (x8.length : Int) then (if ((rd_T23 x8 x10).f0).toList = x362000.toList then (if ((rd_T23 x8 x10).f1) ≥ x362001 then (if x5 < 0 then (impl_bestCoil.l0 k x0 x10 x8 x9 (wrap64 (x10 + 1)) x362000 x362001) else (if 0 ≤ x5 then (if x5 < (x0.length : Int) then (if ((rd_T23 x8 x10).f1) < ((rd_T23 x0 x5).f1) then (impl_bestCoil.l0 k x0 x10 x8 x9 (wrap64 (x10 + 1)) x362000 x362001) else (impl_bestCoil.l0 k x0 x5 x8 x9 (wrap64 (x10 + 1)) x362000 x362001)) else (none)) else (none))) else (impl_bestCoil.l0 k x0 x5 x8 x9 (wrap64 (x10 + 1)) x362000 x362001)) else (impl_bestCoil.l0 k x0 x5 x8 x9 (wrap64 (x10 + 1)) x362000 x362001)) else (none)) else (none)) else (some x5)
def impl_bestCoil.f (k : Nat) (l0 : List (S23)) (a1_0 : ByteArray) (a1_1 : Int) : Option (Int) := impl_bestCoil.l0 k l0 (-1) l0 (l0.length : Int) 0 a1_0 a1_1
set_option maxHeartbeats 8000000 in
set_option maxRecDepth 100000 in
theorem impl_bestCoil.calls (k : Nat) (A0 : Option Addr) (c0 : Nat) (l0 : List (S23)) (a1_0 : ByteArray) (a1_1 : Int) (r : Int) (w : World) (hr0 : Kd.C k23 w A0 l0.length l0) (hc0 : l0.length ≤ c0) (h : impl_bestCoil.f k l0 a1_0 a1_1 = some r) :
  Calls Tryd.prog 75 #[.slice A0 l0.length c0, .agg #[.string a1_0, .int .i64 a1_1]] w fun e w' => e = .returned (.int .i64 r) ∧ Below w.heap.size w w' := by
 have hu32 := Tryd.underlying32
 have hu23 := Tryd.underlying23
 have HR0 := ak_ hr0
 have HC0 := ak_ hc0
 clear hr0 hc0
 have HB := ak_ (Below.refl w.heap.size w)
 have H : (impl_bestCoil.l0 k l0 (-1) l0 (l0.length : Int) 0 a1_0 a1_1) = some r := h
 clear h
 have H' := ak_ H
 clear H
 go_enter Tryd.func75, Tryd.ntmps75
 go_wp2_with (first | ((with_reducible refine gate_dst (N := 3) rfl ?_); refine box_event ?hg (N := 3) ?hd (cs := #[.string a1_0, .int .i64 a1_1]) (t := 32) ?hr ?_; (case hd => rfl); (case hg => rfl); (case hr => first | (go_simp; done) | (go_simp; rfl)); intro gb361 hg w3 hbox hb; have BK361 := ak_ (hbox); have GW361 := ak_ ((by rw [hg]; exact (below_size hb_) : w.heap.size ≤ gb361)); have GE361 := ak_ ((by rw [hg]; exact (below_size hb_) : w.heap.size ≤ gb361)); replace HB := ak_ (below_step hb_ hb); skip; clear hb hbox hg))
 repeat (go_quiet (first | ((with_reducible refine gate_dst (N := 3) rfl ?_); refine box_event ?hg (N := 3) ?hd (cs := #[.string a1_0, .int .i64 a1_1]) (t := 32) ?hr ?_; (case hd => rfl); (case hg => rfl); (case hr => first | (go_simp; done) | (go_simp; rfl)); intro gb361 hg w3 hbox hb; have BK361 := ak_ (hbox); have GW361 := ak_ ((by rw [hg]; exact (below_size hb_) : w.heap.size ≤ gb361)); have GE361 := ak_ ((by rw [hg]; exact (below_size hb_) : w.heap.size ≤ gb361)); replace HB := ak_ (below_step hb_ hb); skip; clear hb hbox hg)); try go_wp2_with (first | ((with_reducible refine gate_dst (N := 3) rfl ?_); refine box_event ?hg (N := 3) ?hd (cs := #[.string a1_0, .int .i64 a1_1]) (t := 32) ?hr ?_; (case hd => rfl); (case hg => rfl); (case hr => first | (go_simp; done) | (go_simp; rfl)); intro gb361 hg w3 hbox hb; have BK361 := ak_ (hbox); have GW361 := ak_ ((by rw [hg]; exact (below_size hb_) : w.heap.size ≤ gb361)); have GE361 := ak_ ((by rw [hg]; exact (below_size hb_) : w.heap.size ≤ gb361)); replace HB := ak_ (below_step hb_ hb); skip; clear hb hbox hg)))
 go_loopg [5, 10] k (fun kq v5 v10 w' => ∃ (x5_1 : Int) (x10_1 : Int), v5 = .int .i64 x5_1 ∧ v10 = .int .i64 x10_1 ∧ Aside0 (impl_bestCoil.l0 kq l0 x5_1 l0 (l0.length : Int) x10_1 a1_0 a1_1 = some r) ∧ Aside0 (kq ≤ k) ∧ Aside0 (w'.heap[gb361]? = some (.cells #[.string a1_0, .int .i64 a1_1] 32 (0, 0))) ∧ Aside0 (Below w.heap.size w w'))
 case atStart => exact ⟨((-1)), (0), fr_, fr_, H', ⟨Nat.le_refl _⟩, ⟨by (with_reducible repeat (first | refine blk_drewN ?_ _ | refine blk_drew ?_ | refine blk_alloc ?_ _)); exact BK361.out⟩, ⟨(hg_ GE361)⟩⟩
 case round =>
  clear H'
  try clear p2
  obtain ⟨x5_1, x10_1, rfl, rfl, HA, HK1, BK361, HB⟩ := hrel
  cases gk with
  | zero => exact absurd HA.out (by simp [impl_bestCoil.l0])
  | succ k1 =>
   have H := HA.out
   clear HA
   simp only [impl_bestCoil.l0] at H
   by_cases c4 : x10_1 < (l0.length : Int)
   rotate_left
   ·rw [if_neg c4] at H
    have c4b0 : decide (x10_1 < (l0.length : Int)) = false := decide_eq_false c4
    clear c4
    obtain rfl := Option.some.inj H
    go_wp2
    repeat (go_quiet (fail); try go_wp2)
    go_ret
    exact ⟨ew_, (hg_ GE361)⟩

   rw [if_pos c4] at H
   have c4b0 : decide (x10_1 < (l0.length : Int)) = true := dt_ c4
   clear c4
   by_cases c5 : 0 ≤ x10_1
   rotate_left
   ·rw [if_neg c5] at H
    exact absurd H (by simp)
   rw [if_pos c5] at H
   have c5b0 : decide (0 ≤ x10_1) = true := dt_ c5
   clear c5
   by_cases c6 : x10_1 < (l0.length : Int)
   rotate_left
   ·rw [if_neg c6] at H
    exact absurd H (by simp)
   rw [if_pos c6] at H
   have c6b0 : decide (x10_1 < (l0.length : Int)) = true := dt_ c6
   clear c6
   by_cases c7 : ((rd_T23 l0 x10_1).f0).toList = a1_0.toList
   rotate_left
   ·rw [if_neg c7] at H
    have c7b0 : (((rd_T23 l0 x10_1).f0).toList == a1_0.toList) = false := beq_eq_false_iff_ne.mpr c7
    have c7b1 : (((rd_T23 l0 x10_1).f0).toList != a1_0.toList) = true := bne_iff_ne.mpr c7
    have H' := ak_ H
    clear H
    have p362 : 0 ≤ (x10_1 : Int) := od_
    have q362 : x10_1 < (l0.length : Int) := od_
    obtain ⟨ad362, e362, hx362_0, hx362_1⟩ := at_T23 HR0.out x10_1 p362 q362
    cases e362
    replace hx362_0 := cq_ HB hx362_0
    replace hx362_1 := cq_ HB hx362_1
    replace p362 := eq_true p362
    replace q362 := eq_true q362
    go_wp2_with (first | ((with_reducible refine gate_dst (N := 7) rfl ?_); refine box_event ?hg (N := 7) ?hd (cs := #[.string (⟨#[]⟩ : ByteArray), .int .i64 0]) (t := 23) ?hr ?_; (case hd => rfl); (case hg => rfl); (case hr => first | (go_simp; done) | (go_simp; rfl)); intro gb363 hg w29 hbox hb; have BK363 := ak_ (hbox); have GW363 := ak_ ((by rw [hg]; exact (below_size (hg_ GE361)) : w.heap.size ≤ gb363)); have GE363 := ak_ ((by rw [hg]; exact (below_size (hg_ GE361)) : w.heap.size ≤ gb363)); replace HB := ak_ (below_step (hg_ GE361) hb); have NB361_363 := ak_ ((by rw [hg]; exact Nat.ne_of_lt (blk_lt (g := gb361) (o := .cells #[.string a1_0, .int .i64 a1_1] 32 (0, 0)) (bk_ BK361)) : gb361 ≠ gb363)); have NB363_361 := ak_ ((by rw [hg]; exact Nat.ne_of_gt (blk_lt (g := gb361) (o := .cells #[.string a1_0, .int .i64 a1_1] 32 (0, 0)) (bk_ BK361)) : gb363 ≠ gb361)); replace BK361 := ak_ (blk_below (g := gb361) (o := .cells #[.string a1_0, .int .i64 a1_1] 32 (0, 0)) (bk_ BK361) hb); skip; clear hb hbox hg; have hnb30 := NB363_361.out; have hnc30 := NB361_363.out; have hcz31_0 : w29.cell? ⟨gb363, 0, none⟩ = some (.string (⟨#[]⟩ : ByteArray)) := (blk_cell BK363.out 0).trans rfl; have hcz31_1 : w29.cell? ⟨gb363, 1, none⟩ = some (.int .i64 0) := (blk_cell BK363.out 1).trans rfl; have hfz31_0 := blk_frozen BK363.out 0; have hfz31_1 := blk_frozen BK363.out 1; have hcz32_0 : w29.cell? ⟨gb361, 0, none⟩ = some (.string a1_0) := (blk_cell BK361.out 0).trans rfl; have hcz32_1 : w29.cell? ⟨gb361, 1, none⟩ = some (.int .i64 a1_1) := (blk_cell BK361.out 1).trans rfl; have hfz32_0 := blk_frozen BK361.out 0; have hfz32_1 := blk_frozen BK361.out 1))
    repeat (go_quiet (first | ((with_reducible refine gate_dst (N := 7) rfl ?_); refine box_event ?hg (N := 7) ?hd (cs := #[.string (⟨#[]⟩ : ByteArray), .int .i64 0]) (t := 23) ?hr ?_; (case hd => rfl); (case hg => rfl); (case hr => first | (go_simp; done) | (go_simp; rfl)); intro gb363 hg w29 hbox hb; have BK363 := ak_ (hbox); have GW363 := ak_ ((by rw [hg]; exact (below_size (hg_ GE361)) : w.heap.size ≤ gb363)); have GE363 := ak_ ((by rw [hg]; exact (below_size (hg_ GE361)) : w.heap.size ≤ gb363)); replace HB := ak_ (below_step (hg_ GE361) hb); have NB361_363 := ak_ ((by rw [hg]; exact Nat.ne_of_lt (blk_lt (g := gb361) (o := .cells #[.string a1_0, .int .i64 a1_1] 32 (0, 0)) (bk_ BK361)) : gb361 ≠ gb363)); have NB363_361 := ak_ ((by rw [hg]; exact Nat.ne_of_gt (blk_lt (g := gb361) (o := .cells #[.string a1_0, .int .i64 a1_1] 32 (0, 0)) (bk_ BK361)) : gb363 ≠ gb361)); replace BK361 := ak_ (blk_below (g := gb361) (o := .cells #[.string a1_0, .int .i64 a1_1] 32 (0, 0)) (bk_ BK361) hb); skip; clear hb hbox hg; have hnb30 := NB363_361.out; have hnc30 := NB361_363.out; have hcz31_0 : w29.cell? ⟨gb363, 0, none⟩ = some (.string (⟨#[]⟩ : ByteArray)) := (blk_cell BK363.out 0).trans rfl; have hcz31_1 : w29.cell? ⟨gb363, 1, none⟩ = some (.int .i64 0) := (blk_cell BK363.out 1).trans rfl; have hfz31_0 := blk_frozen BK363.out 0; have hfz31_1 := blk_frozen BK363.out 1; have hcz32_0 : w29.cell? ⟨gb361, 0, none⟩ = some (.string a1_0) := (blk_cell BK361.out 0).trans rfl; have hcz32_1 : w29.cell? ⟨gb361, 1, none⟩ = some (.int .i64 a1_1) := (blk_cell BK361.out 1).trans rfl; have hfz32_0 := blk_frozen BK361.out 0; have hfz32_1 := blk_frozen BK361.out 1)); try go_wp2_with (first | ((with_reducible refine gate_dst (N := 7) rfl ?_); refine box_event ?hg (N := 7) ?hd (cs := #[.string (⟨#[]⟩ : ByteArray), .int .i64 0]) (t := 23) ?hr ?_; (case hd => rfl); (case hg => rfl); (case hr => first | (go_simp; done) | (go_simp; rfl)); intro gb363 hg w29 hbox hb; have BK363 := ak_ (hbox); have GW363 := ak_ ((by rw [hg]; exact (below_size (hg_ GE361)) : w.heap.size ≤ gb363)); have GE363 := ak_ ((by rw [hg]; exact (below_size (hg_ GE361)) : w.heap.size ≤ gb363)); replace HB := ak_ (below_step (hg_ GE361) hb); have NB361_363 := ak_ ((by rw [hg]; exact Nat.ne_of_lt (blk_lt (g := gb361) (o := .cells #[.string a1_0, .int .i64 a1_1] 32 (0, 0)) (bk_ BK361)) : gb361 ≠ gb363)); have NB363_361 := ak_ ((by rw [hg]; exact Nat.ne_of_gt (blk_lt (g := gb361) (o := .cells #[.string a1_0, .int .i64 a1_1] 32 (0, 0)) (bk_ BK361)) : gb363 ≠ gb361)); replace BK361 := ak_ (blk_below (g := gb361) (o := .cells #[.string a1_0, .int .i64 a1_1] 32 (0, 0)) (bk_ BK361) hb); skip; clear hb hbox hg; have hnb30 := NB363_361.out; have hnc30 := NB361_363.out; have hcz31_0 : w29.cell? ⟨gb363, 0, none⟩ = some (.string (⟨#[]⟩ : ByteArray)) := (blk_cell BK363.out 0).trans rfl; have hcz31_1 : w29.cell? ⟨gb363, 1, none⟩ = some (.int .i64 0) := (blk_cell BK363.out 1).trans rfl; have hfz31_0 := blk_frozen BK363.out 0; have hfz31_1 := blk_frozen BK363.out 1; have hcz32_0 : w29.cell? ⟨gb361, 0, none⟩ = some (.string a1_0) := (blk_cell BK361.out 0).trans rfl; have hcz32_1 : w29.cell? ⟨gb361, 1, none⟩ = some (.int .i64 a1_1) := (blk_cell BK361.out 1).trans rfl; have hfz32_0 := blk_frozen BK361.out 0; have hfz32_1 := blk_frozen BK361.out 1)))
    go_roundg k1
    case measure => have := HK1.out; omega
    case rel => exact ⟨(x5_1), (wrap64 (x10_1 + 1)), fr_, fr_, H', ⟨by have := HK1.out; omega⟩, ⟨by (with_reducible repeat (first | refine blk_drewN ?_ _ | refine blk_drew ?_ | refine blk_alloc ?_ _)); refine blk_far ?_ NB361_363.out _; (with_reducible repeat (first | refine blk_drewN ?_ _ | refine blk_drew ?_ | refine blk_alloc ?_ _)); refine blk_far ?_ NB361_363.out _; (with_reducible repeat (first | refine blk_drewN ?_ _ | refine blk_drew ?_ | refine blk_alloc ?_ _)); exact BK361.out⟩, ⟨(hg2_ GE361 GE363)⟩⟩
   rw [if_pos c7] at H
   have c7b0 : (((rd_T23 l0 x10_1).f0).toList == a1_0.toList) = true := beq_iff_eq.mpr c7
   have c7b1 : (((rd_T23 l0 x10_1).f0).toList != a1_0.toList) = false := bne_eq_false_iff_eq.mpr c7
   clear c7
   by_cases c8 : ((rd_T23 l0 x10_1).f1) ≥ a1_1
   rotate_left
   ·rw [if_neg c8] at H
    have c8b0 : decide (a1_1 ≤ ((rd_T23 l0 x10_1).f1)) = false := decide_eq_false c8
    clear c8
    have H' := ak_ H
    clear H
    have p362 : 0 ≤ (x10_1 : Int) := od_
    have q362 : x10_1 < (l0.length : Int) := od_
    obtain ⟨ad362, e362, hx362_0, hx362_1⟩ := at_T23 HR0.out x10_1 p362 q362
    cases e362
    replace hx362_0 := cq_ HB hx362_0
    replace hx362_1 := cq_ HB hx362_1
    replace p362 := eq_true p362
    replace q362 := eq_true q362
    go_wp2_with (first | ((with_reducible refine gate_dst (N := 7) rfl ?_); refine box_event ?hg (N := 7) ?hd (cs := #[.string (⟨#[]⟩ : ByteArray), .int .i64 0]) (t := 23) ?hr ?_; (case hd => rfl); (case hg => rfl); (case hr => first | (go_simp; done) | (go_simp; rfl)); intro gb363 hg w25 hbox hb; have BK363 := ak_ (hbox); have GW363 := ak_ ((by rw [hg]; exact (below_size (hg_ GE361)) : w.heap.size ≤ gb363)); have GE363 := ak_ ((by rw [hg]; exact (below_size (hg_ GE361)) : w.heap.size ≤ gb363)); replace HB := ak_ (below_step (hg_ GE361) hb); have NB361_363 := ak_ ((by rw [hg]; exact Nat.ne_of_lt (blk_lt (g := gb361) (o := .cells #[.string a1_0, .int .i64 a1_1] 32 (0, 0)) (bk_ BK361)) : gb361 ≠ gb363)); have NB363_361 := ak_ ((by rw [hg]; exact Nat.ne_of_gt (blk_lt (g := gb361) (o := .cells #[.string a1_0, .int .i64 a1_1] 32 (0, 0)) (bk_ BK361)) : gb363 ≠ gb361)); replace BK361 := ak_ (blk_below (g := gb361) (o := .cells #[.string a1_0, .int .i64 a1_1] 32 (0, 0)) (bk_ BK361) hb); skip; clear hb hbox hg; have hnb26 := NB363_361.out; have hnc26 := NB361_363.out; have hcz27_0 : w25.cell? ⟨gb363, 0, none⟩ = some (.string (⟨#[]⟩ : ByteArray)) := (blk_cell BK363.out 0).trans rfl; have hcz27_1 : w25.cell? ⟨gb363, 1, none⟩ = some (.int .i64 0) := (blk_cell BK363.out 1).trans rfl; have hfz27_0 := blk_frozen BK363.out 0; have hfz27_1 := blk_frozen BK363.out 1; have hcz28_0 : w25.cell? ⟨gb361, 0, none⟩ = some (.string a1_0) := (blk_cell BK361.out 0).trans rfl; have hcz28_1 : w25.cell? ⟨gb361, 1, none⟩ = some (.int .i64 a1_1) := (blk_cell BK361.out 1).trans rfl; have hfz28_0 := blk_frozen BK361.out 0; have hfz28_1 := blk_frozen BK361.out 1))
    repeat (go_quiet (first | ((with_reducible refine gate_dst (N := 7) rfl ?_); refine box_event ?hg (N := 7) ?hd (cs := #[.string (⟨#[]⟩ : ByteArray), .int .i64 0]) (t := 23) ?hr ?_; (case hd => rfl); (case hg => rfl); (case hr => first | (go_simp; done) | (go_simp; rfl)); intro gb363 hg w25 hbox hb; have BK363 := ak_ (hbox); have GW363 := ak_ ((by rw [hg]; exact (below_size (hg_ GE361)) : w.heap.size ≤ gb363)); have GE363 := ak_ ((by rw [hg]; exact (below_size (hg_ GE361)) : w.heap.size ≤ gb363)); replace HB := ak_ (below_step (hg_ GE361) hb); have NB361_363 := ak_ ((by rw [hg]; exact Nat.ne_of_lt (blk_lt (g := gb361) (o := .cells #[.string a1_0, .int .i64 a1_1] 32 (0, 0)) (bk_ BK361)) : gb361 ≠ gb363)); have NB363_361 := ak_ ((by rw [hg]; exact Nat.ne_of_gt (blk_lt (g := gb361) (o := .cells #[.string a1_0, .int .i64 a1_1] 32 (0, 0)) (bk_ BK361)) : gb363 ≠ gb361)); replace BK361 := ak_ (blk_below (g := gb361) (o := .cells #[.string a1_0, .int .i64 a1_1] 32 (0, 0)) (bk_ BK361) hb); skip; clear hb hbox hg; have hnb26 := NB363_361.out; have hnc26 := NB361_363.out; have hcz27_0 : w25.cell? ⟨gb363, 0, none⟩ = some (.string (⟨#[]⟩ : ByteArray)) := (blk_cell BK363.out 0).trans rfl; have hcz27_1 : w25.cell? ⟨gb363, 1, none⟩ = some (.int .i64 0) := (blk_cell BK363.out 1).trans rfl; have hfz27_0 := blk_frozen BK363.out 0; have hfz27_1 := blk_frozen BK363.out 1; have hcz28_0 : w25.cell? ⟨gb361, 0, none⟩ = some (.string a1_0) := (blk_cell BK361.out 0).trans rfl; have hcz28_1 : w25.cell? ⟨gb361, 1, none⟩ = some (.int .i64 a1_1) := (blk_cell BK361.out 1).trans rfl; have hfz28_0 := blk_frozen BK361.out 0; have hfz28_1 := blk_frozen BK361.out 1)); try go_wp2_with (first | ((with_reducible refine gate_dst (N := 7) rfl ?_); refine box_event ?hg (N := 7) ?hd (cs := #[.string (⟨#[]⟩ : ByteArray), .int .i64 0]) (t := 23) ?hr ?_; (case hd => rfl); (case hg => rfl); (case hr => first | (go_simp; done) | (go_simp; rfl)); intro gb363 hg w25 hbox hb; have BK363 := ak_ (hbox); have GW363 := ak_ ((by rw [hg]; exact (below_size (hg_ GE361)) : w.heap.size ≤ gb363)); have GE363 := ak_ ((by rw [hg]; exact (below_size (hg_ GE361)) : w.heap.size ≤ gb363)); replace HB := ak_ (below_step (hg_ GE361) hb); have NB361_363 := ak_ ((by rw [hg]; exact Nat.ne_of_lt (blk_lt (g := gb361) (o := .cells #[.string a1_0, .int .i64 a1_1] 32 (0, 0)) (bk_ BK361)) : gb361 ≠ gb363)); have NB363_361 := ak_ ((by rw [hg]; exact Nat.ne_of_gt (blk_lt (g := gb361) (o := .cells #[.string a1_0, .int .i64 a1_1] 32 (0, 0)) (bk_ BK361)) : gb363 ≠ gb361)); replace BK361 := ak_ (blk_below (g := gb361) (o := .cells #[.string a1_0, .int .i64 a1_1] 32 (0, 0)) (bk_ BK361) hb); skip; clear hb hbox hg; have hnb26 := NB363_361.out; have hnc26 := NB361_363.out; have hcz27_0 : w25.cell? ⟨gb363, 0, none⟩ = some (.string (⟨#[]⟩ : ByteArray)) := (blk_cell BK363.out 0).trans rfl; have hcz27_1 : w25.cell? ⟨gb363, 1, none⟩ = some (.int .i64 0) := (blk_cell BK363.out 1).trans rfl; have hfz27_0 := blk_frozen BK363.out 0; have hfz27_1 := blk_frozen BK363.out 1; have hcz28_0 : w25.cell? ⟨gb361, 0, none⟩ = some (.string a1_0) := (blk_cell BK361.out 0).trans rfl; have hcz28_1 : w25.cell? ⟨gb361, 1, none⟩ = some (.int .i64 a1_1) := (blk_cell BK361.out 1).trans rfl; have hfz28_0 := blk_frozen BK361.out 0; have hfz28_1 := blk_frozen BK361.out 1)))
    go_roundg k1
    case measure => have := HK1.out; omega
    case rel => exact ⟨(x5_1), (wrap64 (x10_1 + 1)), fr_, fr_, H', ⟨by have := HK1.out; omega⟩, ⟨by (with_reducible repeat (first | refine blk_drewN ?_ _ | refine blk_drew ?_ | refine blk_alloc ?_ _)); refine blk_far ?_ NB361_363.out _; (with_reducible repeat (first | refine blk_drewN ?_ _ | refine blk_drew ?_ | refine blk_alloc ?_ _)); refine blk_far ?_ NB361_363.out _; (with_reducible repeat (first | refine blk_drewN ?_ _ | refine blk_drew ?_ | refine blk_alloc ?_ _)); exact BK361.out⟩, ⟨(hg2_ GE361 GE363)⟩⟩
   rw [if_pos c8] at H
   have c8b0 : decide (a1_1 ≤ ((rd_T23 l0 x10_1).f1)) = true := dt_ c8
   clear c8
   by_cases c9 : x5_1 < 0
   ·rw [if_pos c9] at H
    have c9b0 : decide (x5_1 < 0) = true := dt_ c9
    clear c9
    have H' := ak_ H
    clear H
    have p362 : 0 ≤ (x10_1 : Int) := od_
    have q362 : x10_1 < (l0.length : Int) := od_
    obtain ⟨ad362, e362, hx362_0, hx362_1⟩ := at_T23 HR0.out x10_1 p362 q362
    cases e362
    replace hx362_0 := cq_ HB hx362_0
    replace hx362_1 := cq_ HB hx362_1
    replace p362 := eq_true p362
    replace q362 := eq_true q362
    go_wp2_with (first | ((with_reducible refine gate_dst (N := 7) rfl ?_); refine box_event ?hg (N := 7) ?hd (cs := #[.string (⟨#[]⟩ : ByteArray), .int .i64 0]) (t := 23) ?hr ?_; (case hd => rfl); (case hg => rfl); (case hr => first | (go_simp; done) | (go_simp; rfl)); intro gb363 hg w10 hbox hb; have BK363 := ak_ (hbox); have GW363 := ak_ ((by rw [hg]; exact (below_size (hg_ GE361)) : w.heap.size ≤ gb363)); have GE363 := ak_ ((by rw [hg]; exact (below_size (hg_ GE361)) : w.heap.size ≤ gb363)); replace HB := ak_ (below_step (hg_ GE361) hb); have NB361_363 := ak_ ((by rw [hg]; exact Nat.ne_of_lt (blk_lt (g := gb361) (o := .cells #[.string a1_0, .int .i64 a1_1] 32 (0, 0)) (bk_ BK361)) : gb361 ≠ gb363)); have NB363_361 := ak_ ((by rw [hg]; exact Nat.ne_of_gt (blk_lt (g := gb361) (o := .cells #[.string a1_0, .int .i64 a1_1] 32 (0, 0)) (bk_ BK361)) : gb363 ≠ gb361)); replace BK361 := ak_ (blk_below (g := gb361) (o := .cells #[.string a1_0, .int .i64 a1_1] 32 (0, 0)) (bk_ BK361) hb); skip; clear hb hbox hg; have hnb11 := NB363_361.out; have hnc11 := NB361_363.out; have hcz12_0 : w10.cell? ⟨gb363, 0, none⟩ = some (.string (⟨#[]⟩ : ByteArray)) := (blk_cell BK363.out 0).trans rfl; have hcz12_1 : w10.cell? ⟨gb363, 1, none⟩ = some (.int .i64 0) := (blk_cell BK363.out 1).trans rfl; have hfz12_0 := blk_frozen BK363.out 0; have hfz12_1 := blk_frozen BK363.out 1; have hcz13_0 : w10.cell? ⟨gb361, 0, none⟩ = some (.string a1_0) := (blk_cell BK361.out 0).trans rfl; have hcz13_1 : w10.cell? ⟨gb361, 1, none⟩ = some (.int .i64 a1_1) := (blk_cell BK361.out 1).trans rfl; have hfz13_0 := blk_frozen BK361.out 0; have hfz13_1 := blk_frozen BK361.out 1))
    repeat (go_quiet (first | ((with_reducible refine gate_dst (N := 7) rfl ?_); refine box_event ?hg (N := 7) ?hd (cs := #[.string (⟨#[]⟩ : ByteArray), .int .i64 0]) (t := 23) ?hr ?_; (case hd => rfl); (case hg => rfl); (case hr => first | (go_simp; done) | (go_simp; rfl)); intro gb363 hg w10 hbox hb; have BK363 := ak_ (hbox); have GW363 := ak_ ((by rw [hg]; exact (below_size (hg_ GE361)) : w.heap.size ≤ gb363)); have GE363 := ak_ ((by rw [hg]; exact (below_size (hg_ GE361)) : w.heap.size ≤ gb363)); replace HB := ak_ (below_step (hg_ GE361) hb); have NB361_363 := ak_ ((by rw [hg]; exact Nat.ne_of_lt (blk_lt (g := gb361) (o := .cells #[.string a1_0, .int .i64 a1_1] 32 (0, 0)) (bk_ BK361)) : gb361 ≠ gb363)); have NB363_361 := ak_ ((by rw [hg]; exact Nat.ne_of_gt (blk_lt (g := gb361) (o := .cells #[.string a1_0, .int .i64 a1_1] 32 (0, 0)) (bk_ BK361)) : gb363 ≠ gb361)); replace BK361 := ak_ (blk_below (g := gb361) (o := .cells #[.string a1_0, .int .i64 a1_1] 32 (0, 0)) (bk_ BK361) hb); skip; clear hb hbox hg; have hnb11 := NB363_361.out; have hnc11 := NB361_363.out; have hcz12_0 : w10.cell? ⟨gb363, 0, none⟩ = some (.string (⟨#[]⟩ : ByteArray)) := (blk_cell BK363.out 0).trans rfl; have hcz12_1 : w10.cell? ⟨gb363, 1, none⟩ = some (.int .i64 0) := (blk_cell BK363.out 1).trans rfl; have hfz12_0 := blk_frozen BK363.out 0; have hfz12_1 := blk_frozen BK363.out 1; have hcz13_0 : w10.cell? ⟨gb361, 0, none⟩ = some (.string a1_0) := (blk_cell BK361.out 0).trans rfl; have hcz13_1 : w10.cell? ⟨gb361, 1, none⟩ = some (.int .i64 a1_1) := (blk_cell BK361.out 1).trans rfl; have hfz13_0 := blk_frozen BK361.out 0; have hfz13_1 := blk_frozen BK361.out 1)); try go_wp2_with (first | ((with_reducible refine gate_dst (N := 7) rfl ?_); refine box_event ?hg (N := 7) ?hd (cs := #[.string (⟨#[]⟩ : ByteArray), .int .i64 0]) (t := 23) ?hr ?_; (case hd => rfl); (case hg => rfl); (case hr => first | (go_simp; done) | (go_simp; rfl)); intro gb363 hg w10 hbox hb; have BK363 := ak_ (hbox); have GW363 := ak_ ((by rw [hg]; exact (below_size (hg_ GE361)) : w.heap.size ≤ gb363)); have GE363 := ak_ ((by rw [hg]; exact (below_size (hg_ GE361)) : w.heap.size ≤ gb363)); replace HB := ak_ (below_step (hg_ GE361) hb); have NB361_363 := ak_ ((by rw [hg]; exact Nat.ne_of_lt (blk_lt (g := gb361) (o := .cells #[.string a1_0, .int .i64 a1_1] 32 (0, 0)) (bk_ BK361)) : gb361 ≠ gb363)); have NB363_361 := ak_ ((by rw [hg]; exact Nat.ne_of_gt (blk_lt (g := gb361) (o := .cells #[.string a1_0, .int .i64 a1_1] 32 (0, 0)) (bk_ BK361)) : gb363 ≠ gb361)); replace BK361 := ak_ (blk_below (g := gb361) (o := .cells #[.string a1_0, .int .i64 a1_1] 32 (0, 0)) (bk_ BK361) hb); skip; clear hb hbox hg; have hnb11 := NB363_361.out; have hnc11 := NB361_363.out; have hcz12_0 : w10.cell? ⟨gb363, 0, none⟩ = some (.string (⟨#[]⟩ : ByteArray)) := (blk_cell BK363.out 0).trans rfl; have hcz12_1 : w10.cell? ⟨gb363, 1, none⟩ = some (.int .i64 0) := (blk_cell BK363.out 1).trans rfl; have hfz12_0 := blk_frozen BK363.out 0; have hfz12_1 := blk_frozen BK363.out 1; have hcz13_0 : w10.cell? ⟨gb361, 0, none⟩ = some (.string a1_0) := (blk_cell BK361.out 0).trans rfl; have hcz13_1 : w10.cell? ⟨gb361, 1, none⟩ = some (.int .i64 a1_1) := (blk_cell BK361.out 1).trans rfl; have hfz13_0 := blk_frozen BK361.out 0; have hfz13_1 := blk_frozen BK361.out 1)))
    go_roundg k1
    case measure => have := HK1.out; omega
    case rel => exact ⟨(x10_1), (wrap64 (x10_1 + 1)), fr_, fr_, H', ⟨by have := HK1.out; omega⟩, ⟨by (with_reducible repeat (first | refine blk_drewN ?_ _ | refine blk_drew ?_ | refine blk_alloc ?_ _)); refine blk_far ?_ NB361_363.out _; (with_reducible repeat (first | refine blk_drewN ?_ _ | refine blk_drew ?_ | refine blk_alloc ?_ _)); refine blk_far ?_ NB361_363.out _; (with_reducible repeat (first | refine blk_drewN ?_ _ | refine blk_drew ?_ | refine blk_alloc ?_ _)); exact BK361.out⟩, ⟨(hg2_ GE361 GE363)⟩⟩
   rw [if_neg c9] at H
   have c9b0 : decide (x5_1 < 0) = false := decide_eq_false c9
   clear c9
   by_cases c14 : 0 ≤ x5_1
   rotate_left
   ·rw [if_neg c14] at H
    exact absurd H (by simp)
   rw [if_pos c14] at H
   have c14b0 : decide (0 ≤ x5_1) = true := dt_ c14
   clear c14
   by_cases c15 : x5_1 < (l0.length : Int)
   rotate_left
   ·rw [if_neg c15] at H
    exact absurd H (by simp)
   rw [if_pos c15] at H
   have c15b0 : decide (x5_1 < (l0.length : Int)) = true := dt_ c15
   clear c15
   by_cases c16 : ((rd_T23 l0 x10_1).f1) < ((rd_T23 l0 x5_1).f1)
   ·rw [if_pos c16] at H
    have c16b0 : decide (((rd_T23 l0 x10_1).f1) < ((rd_T23 l0 x5_1).f1)) = true := dt_ c16
    clear c16
    have H' := ak_ H
    clear H
    have p362 : 0 ≤ (x10_1 : Int) := od_
    have q362 : x10_1 < (l0.length : Int) := od_
    obtain ⟨ad362, e362, hx362_0, hx362_1⟩ := at_T23 HR0.out x10_1 p362 q362
    cases e362
    replace hx362_0 := cq_ HB hx362_0
    replace hx362_1 := cq_ HB hx362_1
    replace p362 := eq_true p362
    replace q362 := eq_true q362
    go_wp2_with (first | ((with_reducible refine gate_dst (N := 7) rfl ?_); refine box_event ?hg (N := 7) ?hd (cs := #[.string (⟨#[]⟩ : ByteArray), .int .i64 0]) (t := 23) ?hr ?_; (case hd => rfl); (case hg => rfl); (case hr => first | (go_simp; done) | (go_simp; rfl)); intro gb363 hg w17 hbox hb; have BK363 := ak_ (hbox); have GW363 := ak_ ((by rw [hg]; exact (below_size (hg_ GE361)) : w.heap.size ≤ gb363)); have GE363 := ak_ ((by rw [hg]; exact (below_size (hg_ GE361)) : w.heap.size ≤ gb363)); replace HB := ak_ (below_step (hg_ GE361) hb); have NB361_363 := ak_ ((by rw [hg]; exact Nat.ne_of_lt (blk_lt (g := gb361) (o := .cells #[.string a1_0, .int .i64 a1_1] 32 (0, 0)) (bk_ BK361)) : gb361 ≠ gb363)); have NB363_361 := ak_ ((by rw [hg]; exact Nat.ne_of_gt (blk_lt (g := gb361) (o := .cells #[.string a1_0, .int .i64 a1_1] 32 (0, 0)) (bk_ BK361)) : gb363 ≠ gb361)); replace BK361 := ak_ (blk_below (g := gb361) (o := .cells #[.string a1_0, .int .i64 a1_1] 32 (0, 0)) (bk_ BK361) hb); skip; clear hb hbox hg; have hnb18 := NB363_361.out; have hnc18 := NB361_363.out; have hcz19_0 : w17.cell? ⟨gb363, 0, none⟩ = some (.string (⟨#[]⟩ : ByteArray)) := (blk_cell BK363.out 0).trans rfl; have hcz19_1 : w17.cell? ⟨gb363, 1, none⟩ = some (.int .i64 0) := (blk_cell BK363.out 1).trans rfl; have hfz19_0 := blk_frozen BK363.out 0; have hfz19_1 := blk_frozen BK363.out 1; have hcz20_0 : w17.cell? ⟨gb361, 0, none⟩ = some (.string a1_0) := (blk_cell BK361.out 0).trans rfl; have hcz20_1 : w17.cell? ⟨gb361, 1, none⟩ = some (.int .i64 a1_1) := (blk_cell BK361.out 1).trans rfl; have hfz20_0 := blk_frozen BK361.out 0; have hfz20_1 := blk_frozen BK361.out 1; have p364 : 0 ≤ (x5_1 : Int) := od_; have q364 : x5_1 < (l0.length : Int) := od_; obtain ⟨ad364, e364, hx364_0, hx364_1⟩ := at_T23 HR0.out x5_1 p364 q364; obtain rfl : ad362 = ad364 := (by injection e364); have hn364_0 : ad362.block ≠ gb363 := Nat.ne_of_lt (Nat.lt_of_lt_of_le (by have := lt_ _ _ hx364_0; first | rwa [add_block] at this | exact this) GW363.out); have hn364_1 : ad362.block ≠ gb363 := Nat.ne_of_lt (Nat.lt_of_lt_of_le (by have := lt_ _ _ hx364_0; first | rwa [add_block] at this | exact this) GW363.out); replace hx364_0 := cq_ HB hx364_0; replace hx364_1 := cq_ HB hx364_1; replace hx364_0 := (cell_far (p := ⟨gb363, 0, none⟩) (by first | (rw [add_block]; exact hn364_0) | (show (Addr.add _ _).block ≠ _; rw [add_block]; exact hn364_0) | exact hn364_0) (.string ((rd_T23 l0 x10_1).f0))).trans hx364_0; replace hx364_1 := (cell_far (p := ⟨gb363, 0, none⟩) (by first | (rw [add_block]; exact hn364_0) | (show (Addr.add _ _).block ≠ _; rw [add_block]; exact hn364_0) | exact hn364_0) (.string ((rd_T23 l0 x10_1).f0))).trans hx364_1; replace hx364_0 := (cell_far (p := ⟨gb363, 1, none⟩) (by first | (rw [add_block]; exact hn364_1) | (show (Addr.add _ _).block ≠ _; rw [add_block]; exact hn364_1) | exact hn364_1) (.int .i64 ((rd_T23 l0 x10_1).f1))).trans hx364_0; replace hx364_1 := (cell_far (p := ⟨gb363, 1, none⟩) (by first | (rw [add_block]; exact hn364_1) | (show (Addr.add _ _).block ≠ _; rw [add_block]; exact hn364_1) | exact hn364_1) (.int .i64 ((rd_T23 l0 x10_1).f1))).trans hx364_1; (try have hy364_0 := fun (n_ : Nat) => (show ((((w17.drewN n_).setCell ⟨gb363, 0, none⟩ (.string ((rd_T23 l0 x10_1).f0))).setCell ⟨gb363, 1, none⟩ (.int .i64 ((rd_T23 l0 x10_1).f1)))).cell? _ = some _ from hx364_0)); (try have hy364_1 := fun (n_ : Nat) => (show ((((w17.drewN n_).setCell ⟨gb363, 0, none⟩ (.string ((rd_T23 l0 x10_1).f0))).setCell ⟨gb363, 1, none⟩ (.int .i64 ((rd_T23 l0 x10_1).f1)))).cell? _ = some _ from hx364_1)); clear hn364_0 hn364_1; replace p364 := eq_true p364; replace q364 := eq_true q364))
    repeat (go_quiet (first | ((with_reducible refine gate_dst (N := 7) rfl ?_); refine box_event ?hg (N := 7) ?hd (cs := #[.string (⟨#[]⟩ : ByteArray), .int .i64 0]) (t := 23) ?hr ?_; (case hd => rfl); (case hg => rfl); (case hr => first | (go_simp; done) | (go_simp; rfl)); intro gb363 hg w17 hbox hb; have BK363 := ak_ (hbox); have GW363 := ak_ ((by rw [hg]; exact (below_size (hg_ GE361)) : w.heap.size ≤ gb363)); have GE363 := ak_ ((by rw [hg]; exact (below_size (hg_ GE361)) : w.heap.size ≤ gb363)); replace HB := ak_ (below_step (hg_ GE361) hb); have NB361_363 := ak_ ((by rw [hg]; exact Nat.ne_of_lt (blk_lt (g := gb361) (o := .cells #[.string a1_0, .int .i64 a1_1] 32 (0, 0)) (bk_ BK361)) : gb361 ≠ gb363)); have NB363_361 := ak_ ((by rw [hg]; exact Nat.ne_of_gt (blk_lt (g := gb361) (o := .cells #[.string a1_0, .int .i64 a1_1] 32 (0, 0)) (bk_ BK361)) : gb363 ≠ gb361)); replace BK361 := ak_ (blk_below (g := gb361) (o := .cells #[.string a1_0, .int .i64 a1_1] 32 (0, 0)) (bk_ BK361) hb); skip; clear hb hbox hg; have hnb18 := NB363_361.out; have hnc18 := NB361_363.out; have hcz19_0 : w17.cell? ⟨gb363, 0, none⟩ = some (.string (⟨#[]⟩ : ByteArray)) := (blk_cell BK363.out 0).trans rfl; have hcz19_1 : w17.cell? ⟨gb363, 1, none⟩ = some (.int .i64 0) := (blk_cell BK363.out 1).trans rfl; have hfz19_0 := blk_frozen BK363.out 0; have hfz19_1 := blk_frozen BK363.out 1; have hcz20_0 : w17.cell? ⟨gb361, 0, none⟩ = some (.string a1_0) := (blk_cell BK361.out 0).trans rfl; have hcz20_1 : w17.cell? ⟨gb361, 1, none⟩ = some (.int .i64 a1_1) := (blk_cell BK361.out 1).trans rfl; have hfz20_0 := blk_frozen BK361.out 0; have hfz20_1 := blk_frozen BK361.out 1; have p364 : 0 ≤ (x5_1 : Int) := od_; have q364 : x5_1 < (l0.length : Int) := od_; obtain ⟨ad364, e364, hx364_0, hx364_1⟩ := at_T23 HR0.out x5_1 p364 q364; obtain rfl : ad362 = ad364 := (by injection e364); have hn364_0 : ad362.block ≠ gb363 := Nat.ne_of_lt (Nat.lt_of_lt_of_le (by have := lt_ _ _ hx364_0; first | rwa [add_block] at this | exact this) GW363.out); have hn364_1 : ad362.block ≠ gb363 := Nat.ne_of_lt (Nat.lt_of_lt_of_le (by have := lt_ _ _ hx364_0; first | rwa [add_block] at this | exact this) GW363.out); replace hx364_0 := cq_ HB hx364_0; replace hx364_1 := cq_ HB hx364_1; replace hx364_0 := (cell_far (p := ⟨gb363, 0, none⟩) (by first | (rw [add_block]; exact hn364_0) | (show (Addr.add _ _).block ≠ _; rw [add_block]; exact hn364_0) | exact hn364_0) (.string ((rd_T23 l0 x10_1).f0))).trans hx364_0; replace hx364_1 := (cell_far (p := ⟨gb363, 0, none⟩) (by first | (rw [add_block]; exact hn364_0) | (show (Addr.add _ _).block ≠ _; rw [add_block]; exact hn364_0) | exact hn364_0) (.string ((rd_T23 l0 x10_1).f0))).trans hx364_1; replace hx364_0 := (cell_far (p := ⟨gb363, 1, none⟩) (by first | (rw [add_block]; exact hn364_1) | (show (Addr.add _ _).block ≠ _; rw [add_block]; exact hn364_1) | exact hn364_1) (.int .i64 ((rd_T23 l0 x10_1).f1))).trans hx364_0; replace hx364_1 := (cell_far (p := ⟨gb363, 1, none⟩) (by first | (rw [add_block]; exact hn364_1) | (show (Addr.add _ _).block ≠ _; rw [add_block]; exact hn364_1) | exact hn364_1) (.int .i64 ((rd_T23 l0 x10_1).f1))).trans hx364_1; (try have hy364_0 := fun (n_ : Nat) => (show ((((w17.drewN n_).setCell ⟨gb363, 0, none⟩ (.string ((rd_T23 l0 x10_1).f0))).setCell ⟨gb363, 1, none⟩ (.int .i64 ((rd_T23 l0 x10_1).f1)))).cell? _ = some _ from hx364_0)); (try have hy364_1 := fun (n_ : Nat) => (show ((((w17.drewN n_).setCell ⟨gb363, 0, none⟩ (.string ((rd_T23 l0 x10_1).f0))).setCell ⟨gb363, 1, none⟩ (.int .i64 ((rd_T23 l0 x10_1).f1)))).cell? _ = some _ from hx364_1)); clear hn364_0 hn364_1; replace p364 := eq_true p364; replace q364 := eq_true q364)); try go_wp2_with (first | ((with_reducible refine gate_dst (N := 7) rfl ?_); refine box_event ?hg (N := 7) ?hd (cs := #[.string (⟨#[]⟩ : ByteArray), .int .i64 0]) (t := 23) ?hr ?_; (case hd => rfl); (case hg => rfl); (case hr => first | (go_simp; done) | (go_simp; rfl)); intro gb363 hg w17 hbox hb; have BK363 := ak_ (hbox); have GW363 := ak_ ((by rw [hg]; exact (below_size (hg_ GE361)) : w.heap.size ≤ gb363)); have GE363 := ak_ ((by rw [hg]; exact (below_size (hg_ GE361)) : w.heap.size ≤ gb363)); replace HB := ak_ (below_step (hg_ GE361) hb); have NB361_363 := ak_ ((by rw [hg]; exact Nat.ne_of_lt (blk_lt (g := gb361) (o := .cells #[.string a1_0, .int .i64 a1_1] 32 (0, 0)) (bk_ BK361)) : gb361 ≠ gb363)); have NB363_361 := ak_ ((by rw [hg]; exact Nat.ne_of_gt (blk_lt (g := gb361) (o := .cells #[.string a1_0, .int .i64 a1_1] 32 (0, 0)) (bk_ BK361)) : gb363 ≠ gb361)); replace BK361 := ak_ (blk_below (g := gb361) (o := .cells #[.string a1_0, .int .i64 a1_1] 32 (0, 0)) (bk_ BK361) hb); skip; clear hb hbox hg; have hnb18 := NB363_361.out; have hnc18 := NB361_363.out; have hcz19_0 : w17.cell? ⟨gb363, 0, none⟩ = some (.string (⟨#[]⟩ : ByteArray)) := (blk_cell BK363.out 0).trans rfl; have hcz19_1 : w17.cell? ⟨gb363, 1, none⟩ = some (.int .i64 0) := (blk_cell BK363.out 1).trans rfl; have hfz19_0 := blk_frozen BK363.out 0; have hfz19_1 := blk_frozen BK363.out 1; have hcz20_0 : w17.cell? ⟨gb361, 0, none⟩ = some (.string a1_0) := (blk_cell BK361.out 0).trans rfl; have hcz20_1 : w17.cell? ⟨gb361, 1, none⟩ = some (.int .i64 a1_1) := (blk_cell BK361.out 1).trans rfl; have hfz20_0 := blk_frozen BK361.out 0; have hfz20_1 := blk_frozen BK361.out 1; have p364 : 0 ≤ (x5_1 : Int) := od_; have q364 : x5_1 < (l0.length : Int) := od_; obtain ⟨ad364, e364, hx364_0, hx364_1⟩ := at_T23 HR0.out x5_1 p364 q364; obtain rfl : ad362 = ad364 := (by injection e364); have hn364_0 : ad362.block ≠ gb363 := Nat.ne_of_lt (Nat.lt_of_lt_of_le (by have := lt_ _ _ hx364_0; first | rwa [add_block] at this | exact this) GW363.out); have hn364_1 : ad362.block ≠ gb363 := Nat.ne_of_lt (Nat.lt_of_lt_of_le (by have := lt_ _ _ hx364_0; first | rwa [add_block] at this | exact this) GW363.out); replace hx364_0 := cq_ HB hx364_0; replace hx364_1 := cq_ HB hx364_1; replace hx364_0 := (cell_far (p := ⟨gb363, 0, none⟩) (by first | (rw [add_block]; exact hn364_0) | (show (Addr.add _ _).block ≠ _; rw [add_block]; exact hn364_0) | exact hn364_0) (.string ((rd_T23 l0 x10_1).f0))).trans hx364_0; replace hx364_1 := (cell_far (p := ⟨gb363, 0, none⟩) (by first | (rw [add_block]; exact hn364_0) | (show (Addr.add _ _).block ≠ _; rw [add_block]; exact hn364_0) | exact hn364_0) (.string ((rd_T23 l0 x10_1).f0))).trans hx364_1; replace hx364_0 := (cell_far (p := ⟨gb363, 1, none⟩) (by first | (rw [add_block]; exact hn364_1) | (show (Addr.add _ _).block ≠ _; rw [add_block]; exact hn364_1) | exact hn364_1) (.int .i64 ((rd_T23 l0 x10_1).f1))).trans hx364_0; replace hx364_1 := (cell_far (p := ⟨gb363, 1, none⟩) (by first | (rw [add_block]; exact hn364_1) | (show (Addr.add _ _).block ≠ _; rw [add_block]; exact hn364_1) | exact hn364_1) (.int .i64 ((rd_T23 l0 x10_1).f1))).trans hx364_1; (try have hy364_0 := fun (n_ : Nat) => (show ((((w17.drewN n_).setCell ⟨gb363, 0, none⟩ (.string ((rd_T23 l0 x10_1).f0))).setCell ⟨gb363, 1, none⟩ (.int .i64 ((rd_T23 l0 x10_1).f1)))).cell? _ = some _ from hx364_0)); (try have hy364_1 := fun (n_ : Nat) => (show ((((w17.drewN n_).setCell ⟨gb363, 0, none⟩ (.string ((rd_T23 l0 x10_1).f0))).setCell ⟨gb363, 1, none⟩ (.int .i64 ((rd_T23 l0 x10_1).f1)))).cell? _ = some _ from hx364_1)); clear hn364_0 hn364_1; replace p364 := eq_true p364; replace q364 := eq_true q364)))
    go_roundg k1
    case measure => have := HK1.out; omega
    case rel => exact ⟨(x10_1), (wrap64 (x10_1 + 1)), fr_, fr_, H', ⟨by have := HK1.out; omega⟩, ⟨by (with_reducible repeat (first | refine blk_drewN ?_ _ | refine blk_drew ?_ | refine blk_alloc ?_ _)); refine blk_far ?_ NB361_363.out _; (with_reducible repeat (first | refine blk_drewN ?_ _ | refine blk_drew ?_ | refine blk_alloc ?_ _)); refine blk_far ?_ NB361_363.out _; (with_reducible repeat (first | refine blk_drewN ?_ _ | refine blk_drew ?_ | refine blk_alloc ?_ _)); exact BK361.out⟩, ⟨(hg2_ GE361 GE363)⟩⟩
   rw [if_neg c16] at H
   have c16b0 : decide (((rd_T23 l0 x10_1).f1) < ((rd_T23 l0 x5_1).f1)) = false := decide_eq_false c16
   clear c16
   have H' := ak_ H
   clear H
   have p362 : 0 ≤ (x10_1 : Int) := od_
   have q362 : x10_1 < (l0.length : Int) := od_
   obtain ⟨ad362, e362, hx362_0, hx362_1⟩ := at_T23 HR0.out x10_1 p362 q362
   cases e362
   replace hx362_0 := cq_ HB hx362_0
   replace hx362_1 := cq_ HB hx362_1
   replace p362 := eq_true p362
   replace q362 := eq_true q362
   go_wp2_with (first | ((with_reducible refine gate_dst (N := 7) rfl ?_); refine box_event ?hg (N := 7) ?hd (cs := #[.string (⟨#[]⟩ : ByteArray), .int .i64 0]) (t := 23) ?hr ?_; (case hd => rfl); (case hg => rfl); (case hr => first | (go_simp; done) | (go_simp; rfl)); intro gb363 hg w21 hbox hb; have BK363 := ak_ (hbox); have GW363 := ak_ ((by rw [hg]; exact (below_size (hg_ GE361)) : w.heap.size ≤ gb363)); have GE363 := ak_ ((by rw [hg]; exact (below_size (hg_ GE361)) : w.heap.size ≤ gb363)); replace HB := ak_ (below_step (hg_ GE361) hb); have NB361_363 := ak_ ((by rw [hg]; exact Nat.ne_of_lt (blk_lt (g := gb361) (o := .cells #[.string a1_0, .int .i64 a1_1] 32 (0, 0)) (bk_ BK361)) : gb361 ≠ gb363)); have NB363_361 := ak_ ((by rw [hg]; exact Nat.ne_of_gt (blk_lt (g := gb361) (o := .cells #[.string a1_0, .int .i64 a1_1] 32 (0, 0)) (bk_ BK361)) : gb363 ≠ gb361)); replace BK361 := ak_ (blk_below (g := gb361) (o := .cells #[.string a1_0, .int .i64 a1_1] 32 (0, 0)) (bk_ BK361) hb); skip; clear hb hbox hg; have hnb22 := NB363_361.out; have hnc22 := NB361_363.out; have hcz23_0 : w21.cell? ⟨gb363, 0, none⟩ = some (.string (⟨#[]⟩ : ByteArray)) := (blk_cell BK363.out 0).trans rfl; have hcz23_1 : w21.cell? ⟨gb363, 1, none⟩ = some (.int .i64 0) := (blk_cell BK363.out 1).trans rfl; have hfz23_0 := blk_frozen BK363.out 0; have hfz23_1 := blk_frozen BK363.out 1; have hcz24_0 : w21.cell? ⟨gb361, 0, none⟩ = some (.string a1_0) := (blk_cell BK361.out 0).trans rfl; have hcz24_1 : w21.cell? ⟨gb361, 1, none⟩ = some (.int .i64 a1_1) := (blk_cell BK361.out 1).trans rfl; have hfz24_0 := blk_frozen BK361.out 0; have hfz24_1 := blk_frozen BK361.out 1; have p364 : 0 ≤ (x5_1 : Int) := od_; have q364 : x5_1 < (l0.length : Int) := od_; obtain ⟨ad364, e364, hx364_0, hx364_1⟩ := at_T23 HR0.out x5_1 p364 q364; obtain rfl : ad362 = ad364 := (by injection e364); have hn364_0 : ad362.block ≠ gb363 := Nat.ne_of_lt (Nat.lt_of_lt_of_le (by have := lt_ _ _ hx364_0; first | rwa [add_block] at this | exact this) GW363.out); have hn364_1 : ad362.block ≠ gb363 := Nat.ne_of_lt (Nat.lt_of_lt_of_le (by have := lt_ _ _ hx364_0; first | rwa [add_block] at this | exact this) GW363.out); replace hx364_0 := cq_ HB hx364_0; replace hx364_1 := cq_ HB hx364_1; replace hx364_0 := (cell_far (p := ⟨gb363, 0, none⟩) (by first | (rw [add_block]; exact hn364_0) | (show (Addr.add _ _).block ≠ _; rw [add_block]; exact hn364_0) | exact hn364_0) (.string ((rd_T23 l0 x10_1).f0))).trans hx364_0; replace hx364_1 := (cell_far (p := ⟨gb363, 0, none⟩) (by first | (rw [add_block]; exact hn364_0) | (show (Addr.add _ _).block ≠ _; rw [add_block]; exact hn364_0) | exact hn364_0) (.string ((rd_T23 l0 x10_1).f0))).trans hx364_1; replace hx364_0 := (cell_far (p := ⟨gb363, 1, none⟩) (by first | (rw [add_block]; exact hn364_1) | (show (Addr.add _ _).block ≠ _; rw [add_block]; exact hn364_1) | exact hn364_1) (.int .i64 ((rd_T23 l0 x10_1).f1))).trans hx364_0; replace hx364_1 := (cell_far (p := ⟨gb363, 1, none⟩) (by first | (rw [add_block]; exact hn364_1) | (show (Addr.add _ _).block ≠ _; rw [add_block]; exact hn364_1) | exact hn364_1) (.int .i64 ((rd_T23 l0 x10_1).f1))).trans hx364_1; (try have hy364_0 := fun (n_ : Nat) => (show ((((w21.drewN n_).setCell ⟨gb363, 0, none⟩ (.string ((rd_T23 l0 x10_1).f0))).setCell ⟨gb363, 1, none⟩ (.int .i64 ((rd_T23 l0 x10_1).f1)))).cell? _ = some _ from hx364_0)); (try have hy364_1 := fun (n_ : Nat) => (show ((((w21.drewN n_).setCell ⟨gb363, 0, none⟩ (.string ((rd_T23 l0 x10_1).f0))).setCell ⟨gb363, 1, none⟩ (.int .i64 ((rd_T23 l0 x10_1).f1)))).cell? _ = some _ from hx364_1)); clear hn364_0 hn364_1; replace p364 := eq_true p364; replace q364 := eq_true q364))
   repeat (go_quiet (first | ((with_reducible refine gate_dst (N := 7) rfl ?_); refine box_event ?hg (N := 7) ?hd (cs := #[.string (⟨#[]⟩ : ByteArray), .int .i64 0]) (t := 23) ?hr ?_; (case hd => rfl); (case hg => rfl); (case hr => first | (go_simp; done) | (go_simp; rfl)); intro gb363 hg w21 hbox hb; have BK363 := ak_ (hbox); have GW363 := ak_ ((by rw [hg]; exact (below_size (hg_ GE361)) : w.heap.size ≤ gb363)); have GE363 := ak_ ((by rw [hg]; exact (below_size (hg_ GE361)) : w.heap.size ≤ gb363)); replace HB := ak_ (below_step (hg_ GE361) hb); have NB361_363 := ak_ ((by rw [hg]; exact Nat.ne_of_lt (blk_lt (g := gb361) (o := .cells #[.string a1_0, .int .i64 a1_1] 32 (0, 0)) (bk_ BK361)) : gb361 ≠ gb363)); have NB363_361 := ak_ ((by rw [hg]; exact Nat.ne_of_gt (blk_lt (g := gb361) (o := .cells #[.string a1_0, .int .i64 a1_1] 32 (0, 0)) (bk_ BK361)) : gb363 ≠ gb361)); replace BK361 := ak_ (blk_below (g := gb361) (o := .cells #[.string a1_0, .int .i64 a1_1] 32 (0, 0)) (bk_ BK361) hb); skip; clear hb hbox hg; have hnb22 := NB363_361.out; have hnc22 := NB361_363.out; have hcz23_0 : w21.cell? ⟨gb363, 0, none⟩ = some (.string (⟨#[]⟩ : ByteArray)) := (blk_cell BK363.out 0).trans rfl; have hcz23_1 : w21.cell? ⟨gb363, 1, none⟩ = some (.int .i64 0) := (blk_cell BK363.out 1).trans rfl; have hfz23_0 := blk_frozen BK363.out 0; have hfz23_1 := blk_frozen BK363.out 1; have hcz24_0 : w21.cell? ⟨gb361, 0, none⟩ = some (.string a1_0) := (blk_cell BK361.out 0).trans rfl; have hcz24_1 : w21.cell? ⟨gb361, 1, none⟩ = some (.int .i64 a1_1) := (blk_cell BK361.out 1).trans rfl; have hfz24_0 := blk_frozen BK361.out 0; have hfz24_1 := blk_frozen BK361.out 1; have p364 : 0 ≤ (x5_1 : Int) := od_; have q364 : x5_1 < (l0.length : Int) := od_; obtain ⟨ad364, e364, hx364_0, hx364_1⟩ := at_T23 HR0.out x5_1 p364 q364; obtain rfl : ad362 = ad364 := (by injection e364); have hn364_0 : ad362.block ≠ gb363 := Nat.ne_of_lt (Nat.lt_of_lt_of_le (by have := lt_ _ _ hx364_0; first | rwa [add_block] at this | exact this) GW363.out); have hn364_1 : ad362.block ≠ gb363 := Nat.ne_of_lt (Nat.lt_of_lt_of_le (by have := lt_ _ _ hx364_0; first | rwa [add_block] at this | exact this) GW363.out); replace hx364_0 := cq_ HB hx364_0; replace hx364_1 := cq_ HB hx364_1; replace hx364_0 := (cell_far (p := ⟨gb363, 0, none⟩) (by first | (rw [add_block]; exact hn364_0) | (show (Addr.add _ _).block ≠ _; rw [add_block]; exact hn364_0) | exact hn364_0) (.string ((rd_T23 l0 x10_1).f0))).trans hx364_0; replace hx364_1 := (cell_far (p := ⟨gb363, 0, none⟩) (by first | (rw [add_block]; exact hn364_0) | (show (Addr.add _ _).block ≠ _; rw [add_block]; exact hn364_0) | exact hn364_0) (.string ((rd_T23 l0 x10_1).f0))).trans hx364_1; replace hx364_0 := (cell_far (p := ⟨gb363, 1, none⟩) (by first | (rw [add_block]; exact hn364_1) | (show (Addr.add _ _).block ≠ _; rw [add_block]; exact hn364_1) | exact hn364_1) (.int .i64 ((rd_T23 l0 x10_1).f1))).trans hx364_0; replace hx364_1 := (cell_far (p := ⟨gb363, 1, none⟩) (by first | (rw [add_block]; exact hn364_1) | (show (Addr.add _ _).block ≠ _; rw [add_block]; exact hn364_1) | exact hn364_1) (.int .i64 ((rd_T23 l0 x10_1).f1))).trans hx364_1; (try have hy364_0 := fun (n_ : Nat) => (show ((((w21.drewN n_).setCell ⟨gb363, 0, none⟩ (.string ((rd_T23 l0 x10_1).f0))).setCell ⟨gb363, 1, none⟩ (.int .i64 ((rd_T23 l0 x10_1).f1)))).cell? _ = some _ from hx364_0)); (try have hy364_1 := fun (n_ : Nat) => (show ((((w21.drewN n_).setCell ⟨gb363, 0, none⟩ (.string ((rd_T23 l0 x10_1).f0))).setCell ⟨gb363, 1, none⟩ (.int .i64 ((rd_T23 l0 x10_1).f1)))).cell? _ = some _ from hx364_1)); clear hn364_0 hn364_1; replace p364 := eq_true p364; replace q364 := eq_true q364)); try go_wp2_with (first | ((with_reducible refine gate_dst (N := 7) rfl ?_); refine box_event ?hg (N := 7) ?hd (cs := #[.string (⟨#[]⟩ : ByteArray), .int .i64 0]) (t := 23) ?hr ?_; (case hd => rfl); (case hg => rfl); (case hr => first | (go_simp; done) | (go_simp; rfl)); intro gb363 hg w21 hbox hb; have BK363 := ak_ (hbox); have GW363 := ak_ ((by rw [hg]; exact (below_size (hg_ GE361)) : w.heap.size ≤ gb363)); have GE363 := ak_ ((by rw [hg]; exact (below_size (hg_ GE361)) : w.heap.size ≤ gb363)); replace HB := ak_ (below_step (hg_ GE361) hb); have NB361_363 := ak_ ((by rw [hg]; exact Nat.ne_of_lt (blk_lt (g := gb361) (o := .cells #[.string a1_0, .int .i64 a1_1] 32 (0, 0)) (bk_ BK361)) : gb361 ≠ gb363)); have NB363_361 := ak_ ((by rw [hg]; exact Nat.ne_of_gt (blk_lt (g := gb361) (o := .cells #[.string a1_0, .int .i64 a1_1] 32 (0, 0)) (bk_ BK361)) : gb363 ≠ gb361)); replace BK361 := ak_ (blk_below (g := gb361) (o := .cells #[.string a1_0, .int .i64 a1_1] 32 (0, 0)) (bk_ BK361) hb); skip; clear hb hbox hg; have hnb22 := NB363_361.out; have hnc22 := NB361_363.out; have hcz23_0 : w21.cell? ⟨gb363, 0, none⟩ = some (.string (⟨#[]⟩ : ByteArray)) := (blk_cell BK363.out 0).trans rfl; have hcz23_1 : w21.cell? ⟨gb363, 1, none⟩ = some (.int .i64 0) := (blk_cell BK363.out 1).trans rfl; have hfz23_0 := blk_frozen BK363.out 0; have hfz23_1 := blk_frozen BK363.out 1; have hcz24_0 : w21.cell? ⟨gb361, 0, none⟩ = some (.string a1_0) := (blk_cell BK361.out 0).trans rfl; have hcz24_1 : w21.cell? ⟨gb361, 1, none⟩ = some (.int .i64 a1_1) := (blk_cell BK361.out 1).trans rfl; have hfz24_0 := blk_frozen BK361.out 0; have hfz24_1 := blk_frozen BK361.out 1; have p364 : 0 ≤ (x5_1 : Int) := od_; have q364 : x5_1 < (l0.length : Int) := od_; obtain ⟨ad364, e364, hx364_0, hx364_1⟩ := at_T23 HR0.out x5_1 p364 q364; obtain rfl : ad362 = ad364 := (by injection e364); have hn364_0 : ad362.block ≠ gb363 := Nat.ne_of_lt (Nat.lt_of_lt_of_le (by have := lt_ _ _ hx364_0; first | rwa [add_block] at this | exact this) GW363.out); have hn364_1 : ad362.block ≠ gb363 := Nat.ne_of_lt (Nat.lt_of_lt_of_le (by have := lt_ _ _ hx364_0; first | rwa [add_block] at this | exact this) GW363.out); replace hx364_0 := cq_ HB hx364_0; replace hx364_1 := cq_ HB hx364_1; replace hx364_0 := (cell_far (p := ⟨gb363, 0, none⟩) (by first | (rw [add_block]; exact hn364_0) | (show (Addr.add _ _).block ≠ _; rw [add_block]; exact hn364_0) | exact hn364_0) (.string ((rd_T23 l0 x10_1).f0))).trans hx364_0; replace hx364_1 := (cell_far (p := ⟨gb363, 0, none⟩) (by first | (rw [add_block]; exact hn364_0) | (show (Addr.add _ _).block ≠ _; rw [add_block]; exact hn364_0) | exact hn364_0) (.string ((rd_T23 l0 x10_1).f0))).trans hx364_1; replace hx364_0 := (cell_far (p := ⟨gb363, 1, none⟩) (by first | (rw [add_block]; exact hn364_1) | (show (Addr.add _ _).block ≠ _; rw [add_block]; exact hn364_1) | exact hn364_1) (.int .i64 ((rd_T23 l0 x10_1).f1))).trans hx364_0; replace hx364_1 := (cell_far (p := ⟨gb363, 1, none⟩) (by first | (rw [add_block]; exact hn364_1) | (show (Addr.add _ _).block ≠ _; rw [add_block]; exact hn364_1) | exact hn364_1) (.int .i64 ((rd_T23 l0 x10_1).f1))).trans hx364_1; (try have hy364_0 := fun (n_ : Nat) => (show ((((w21.drewN n_).setCell ⟨gb363, 0, none⟩ (.string ((rd_T23 l0 x10_1).f0))).setCell ⟨gb363, 1, none⟩ (.int .i64 ((rd_T23 l0 x10_1).f1)))).cell? _ = some _ from hx364_0)); (try have hy364_1 := fun (n_ : Nat) => (show ((((w21.drewN n_).setCell ⟨gb363, 0, none⟩ (.string ((rd_T23 l0 x10_1).f0))).setCell ⟨gb363, 1, none⟩ (.int .i64 ((rd_T23 l0 x10_1).f1)))).cell? _ = some _ from hx364_1)); clear hn364_0 hn364_1; replace p364 := eq_true p364; replace q364 := eq_true q364)))
   go_roundg k1
   case measure => have := HK1.out; omega
   case rel => exact ⟨(x5_1), (wrap64 (x10_1 + 1)), fr_, fr_, H', ⟨by have := HK1.out; omega⟩, ⟨by (with_reducible repeat (first | refine blk_drewN ?_ _ | refine blk_drew ?_ | refine blk_alloc ?_ _)); refine blk_far ?_ NB361_363.out _; (with_reducible repeat (first | refine blk_drewN ?_ _ | refine blk_drew ?_ | refine blk_alloc ?_ _)); refine blk_far ?_ NB361_363.out _; (with_reducible repeat (first | refine blk_drewN ?_ _ | refine blk_drew ?_ | refine blk_alloc ?_ _)); exact BK361.out⟩, ⟨(hg2_ GE361 GE363)⟩⟩
/-! ### impl_BestCoil: function 15 -/
def impl_BestCoil.f (k : Nat) (l0 : List (S23)) (a1_0 : ByteArray) (a1_1 : Int) : Option (Int × Int) := (impl_ValidStockCoils.f k l0).bind fun t366 => (if t366 = true then ((impl_validWant.f k a1_0 a1_1).bind fun t367 => (if t367 = true then ((impl_bestCoil.f k l0 a1_0 a1_1).bind fun t368 => (if t368 < 0 then (some (0, 3)) else (some (t368, 0)))) else (some (0, 2)))) else (some (0, 1)))
set_option maxHeartbeats 8000000 in
set_option maxRecDepth 100000 in
theorem impl_BestCoil.calls (k : Nat) (A0 : Option Addr) (c0 : Nat) (l0 : List (S23)) (a1_0 : ByteArray) (a1_1 : Int) (r1 : Int) (r2 : Int) (w : World) (hr0 : Kd.C k23 w A0 l0.length l0) (hc0 : l0.length ≤ c0) (h : impl_BestCoil.f k l0 a1_0 a1_1 = some (r1, r2)) :
  Calls Tryd.prog 15 #[.slice A0 l0.length c0, .agg #[.string a1_0, .int .i64 a1_1]] w fun e w' => e = .returned (.tuple #[.int .i64 r1, .int .i64 r2]) ∧ Below w.heap.size w w' := by
 have hu32 := Tryd.underlying32
 have HR0 := ak_ hr0
 have HC0 := ak_ hc0
 clear hr0 hc0
 have HB := ak_ (Below.refl w.heap.size w)
 have H : ((impl_ValidStockCoils.f k l0).bind fun t366 => (if t366 = true then ((impl_validWant.f k a1_0 a1_1).bind fun t367 => (if t367 = true then ((impl_bestCoil.f k l0 a1_0 a1_1).bind fun t368 => (if t368 < 0 then (some (0, 3)) else (some (t368, 0)))) else (some (0, 2)))) else (some (0, 1)))) = some (r1, r2) := h
 clear h
 replace H := ob_ H
 obtain ⟨t366, A30, H⟩ := H
 (try dsimp only at H)
 have A3 := ak_ A30
 clear A30
 by_cases c4 : t366 = true
 rotate_left
 ·replace c4 := Bool.eq_false_iff.mpr c4
  subst c4
  have H1 : (some (0, 1)) = some (r1, r2) := by rw [if_neg (show ¬ (false = true) by decide)] at H; exact H
  clear H
  have H := H1
  clear H1
  simp only [Option.some.injEq, Prod.mk.injEq] at H
  obtain ⟨rfl, rfl⟩ := H
  go_enter Tryd.func15, Tryd.ntmps15
  go_wp2_with (first | ((with_reducible refine gate_dst (N := 3) rfl ?_); refine box_event ?hg (N := 3) ?hd (cs := #[.string a1_0, .int .i64 a1_1]) (t := 32) ?hr ?_; (case hd => rfl); (case hg => rfl); (case hr => first | (go_simp; done) | (go_simp; rfl)); intro gb365 hg w25 hbox hb; have BK365 := ak_ (hbox); have GW365 := ak_ ((by rw [hg]; exact (below_size hb_) : w.heap.size ≤ gb365)); have GE365 := ak_ ((by rw [hg]; exact (below_size hb_) : w.heap.size ≤ gb365)); replace HB := ak_ (below_step hb_ hb); skip; clear hb hbox hg) | ((with_reducible refine gate_callee (f := 33) rfl ?_); refine goesL_ (some 8) rfl rfl Tryd.func33 (by kernel_rfl) rfl #[.slice A0 l0.length c0] rfl ln_ ?_; (with_reducible refine (impl_ValidStockCoils.calls k _ _ l0 false _ (kc_ (Kd.C_below HR0.out HB.out)) HC0.out A3.out).mono ?_); rintro e w26 ⟨rfl, hb⟩; refine ⟨_, rfl, ?_⟩; replace BK365 := ak_ (blk_below (g := gb365) (o := .cells #[.string a1_0, .int .i64 a1_1] 32 (0, 0)) (bk_ BK365) hb); replace HB := ak_ (below_step (hg_ GE365) hb); skip; clear hb))
  go_ret2
  exact ⟨ew_, (hg_ GE365)⟩

 subst c4
 have H1 : ((impl_validWant.f k a1_0 a1_1).bind fun t367 => (if t367 = true then ((impl_bestCoil.f k l0 a1_0 a1_1).bind fun t368 => (if t368 < 0 then (some (0, 3)) else (some (t368, 0)))) else (some (0, 2)))) = some (r1, r2) := by rw [if_pos rfl] at H; exact H
 clear H
 have H := H1
 clear H1
 replace H := ob_ H
 obtain ⟨t367, A50, H⟩ := H
 (try dsimp only at H)
 have A5 := ak_ A50
 clear A50
 by_cases c6 : t367 = true
 rotate_left
 ·replace c6 := Bool.eq_false_iff.mpr c6
  subst c6
  have H1 : (some (0, 2)) = some (r1, r2) := by rw [if_neg (show ¬ (false = true) by decide)] at H; exact H
  clear H
  have H := H1
  clear H1
  simp only [Option.some.injEq, Prod.mk.injEq] at H
  obtain ⟨rfl, rfl⟩ := H
  go_enter Tryd.func15, Tryd.ntmps15
  go_wp2_with (first | ((with_reducible refine gate_dst (N := 3) rfl ?_); refine box_event ?hg (N := 3) ?hd (cs := #[.string a1_0, .int .i64 a1_1]) (t := 32) ?hr ?_; (case hd => rfl); (case hg => rfl); (case hr => first | (go_simp; done) | (go_simp; rfl)); intro gb365 hg w21 hbox hb; have BK365 := ak_ (hbox); have GW365 := ak_ ((by rw [hg]; exact (below_size hb_) : w.heap.size ≤ gb365)); have GE365 := ak_ ((by rw [hg]; exact (below_size hb_) : w.heap.size ≤ gb365)); replace HB := ak_ (below_step hb_ hb); skip; clear hb hbox hg) | ((with_reducible refine gate_callee (f := 33) rfl ?_); refine goesL_ (some 8) rfl rfl Tryd.func33 (by kernel_rfl) rfl #[.slice A0 l0.length c0] rfl ln_ ?_; (with_reducible refine (impl_ValidStockCoils.calls k _ _ l0 true _ (kc_ (Kd.C_below HR0.out HB.out)) HC0.out A3.out).mono ?_); rintro e w22 ⟨rfl, hb⟩; refine ⟨_, rfl, ?_⟩; replace BK365 := ak_ (blk_below (g := gb365) (o := .cells #[.string a1_0, .int .i64 a1_1] 32 (0, 0)) (bk_ BK365) hb); replace HB := ak_ (below_step (hg_ GE365) hb); skip; (try clear hb); (try clear hb2); (try clear hk); (try clear hi); have hcz23_0 : w22.cell? ⟨gb365, 0, none⟩ = some (.string a1_0) := (blk_cell BK365.out 0).trans rfl; have hcz23_1 : w22.cell? ⟨gb365, 1, none⟩ = some (.int .i64 a1_1) := (blk_cell BK365.out 1).trans rfl; have hfz23_0 := blk_frozen BK365.out 0; have hfz23_1 := blk_frozen BK365.out 1) | ((with_reducible refine gate_callee (f := 74) rfl ?_); refine goesL_ (some 11) rfl rfl Tryd.func74 (by kernel_rfl) rfl #[.agg #[.string a1_0, .int .i64 a1_1]] rfl ln_ ?_; (with_reducible refine (impl_validWant.calls k a1_0 a1_1 false _ A5.out).mono ?_); rintro e w24 ⟨rfl, hb⟩; refine ⟨_, rfl, ?_⟩; replace BK365 := ak_ (blk_below (g := gb365) (o := .cells #[.string a1_0, .int .i64 a1_1] 32 (0, 0)) (bk_ BK365) hb); replace HB := ak_ (below_step (hg_ GE365) hb); skip; clear hb))
  go_ret2
  exact ⟨ew_, (hg_ GE365)⟩
 subst c6
 have H1 : ((impl_bestCoil.f k l0 a1_0 a1_1).bind fun t368 => (if t368 < 0 then (some (0, 3)) else (some (t368, 0)))) = some (r1, r2) := by rw [if_pos rfl] at H; exact H
 clear H
 have H := H1
 clear H1
 replace H := ob_ H
 obtain ⟨t368, A70, H⟩ := H
 (try dsimp only at H)
 have A7 := ak_ A70
 clear A70
 by_cases c8 : t368 < 0
 ·rw [if_pos c8] at H
  have c8b0 : decide (t368 < 0) = true := dt_ c8
  clear c8
  simp only [Option.some.injEq, Prod.mk.injEq] at H
  obtain ⟨rfl, rfl⟩ := H
  go_enter Tryd.func15, Tryd.ntmps15
  go_wp2_with (first | ((with_reducible refine gate_dst (N := 3) rfl ?_); refine box_event ?hg (N := 3) ?hd (cs := #[.string a1_0, .int .i64 a1_1]) (t := 32) ?hr ?_; (case hd => rfl); (case hg => rfl); (case hr => first | (go_simp; done) | (go_simp; rfl)); intro gb365 hg w9 hbox hb; have BK365 := ak_ (hbox); have GW365 := ak_ ((by rw [hg]; exact (below_size hb_) : w.heap.size ≤ gb365)); have GE365 := ak_ ((by rw [hg]; exact (below_size hb_) : w.heap.size ≤ gb365)); replace HB := ak_ (below_step hb_ hb); skip; clear hb hbox hg) | ((with_reducible refine gate_callee (f := 33) rfl ?_); refine goesL_ (some 8) rfl rfl Tryd.func33 (by kernel_rfl) rfl #[.slice A0 l0.length c0] rfl ln_ ?_; (with_reducible refine (impl_ValidStockCoils.calls k _ _ l0 true _ (kc_ (Kd.C_below HR0.out HB.out)) HC0.out A3.out).mono ?_); rintro e w10 ⟨rfl, hb⟩; refine ⟨_, rfl, ?_⟩; replace BK365 := ak_ (blk_below (g := gb365) (o := .cells #[.string a1_0, .int .i64 a1_1] 32 (0, 0)) (bk_ BK365) hb); replace HB := ak_ (below_step (hg_ GE365) hb); skip; (try clear hb); (try clear hb2); (try clear hk); (try clear hi); have hcz11_0 : w10.cell? ⟨gb365, 0, none⟩ = some (.string a1_0) := (blk_cell BK365.out 0).trans rfl; have hcz11_1 : w10.cell? ⟨gb365, 1, none⟩ = some (.int .i64 a1_1) := (blk_cell BK365.out 1).trans rfl; have hfz11_0 := blk_frozen BK365.out 0; have hfz11_1 := blk_frozen BK365.out 1) | ((with_reducible refine gate_callee (f := 74) rfl ?_); refine goesL_ (some 11) rfl rfl Tryd.func74 (by kernel_rfl) rfl #[.agg #[.string a1_0, .int .i64 a1_1]] rfl ln_ ?_; (with_reducible refine (impl_validWant.calls k a1_0 a1_1 true _ A5.out).mono ?_); rintro e w12 ⟨rfl, hb⟩; refine ⟨_, rfl, ?_⟩; replace BK365 := ak_ (blk_below (g := gb365) (o := .cells #[.string a1_0, .int .i64 a1_1] 32 (0, 0)) (bk_ BK365) hb); replace HB := ak_ (below_step (hg_ GE365) hb); skip; (try clear hb); (try clear hb2); (try clear hk); (try clear hi); have hcz13_0 : w12.cell? ⟨gb365, 0, none⟩ = some (.string a1_0) := (blk_cell BK365.out 0).trans rfl; have hcz13_1 : w12.cell? ⟨gb365, 1, none⟩ = some (.int .i64 a1_1) := (blk_cell BK365.out 1).trans rfl; have hfz13_0 := blk_frozen BK365.out 0; have hfz13_1 := blk_frozen BK365.out 1) | ((with_reducible refine gate_callee (f := 75) rfl ?_); refine goesL_ (some 15) rfl rfl Tryd.func75 (by kernel_rfl) rfl #[.slice A0 l0.length c0, .agg #[.string a1_0, .int .i64 a1_1]] rfl ln_ ?_; (with_reducible refine (impl_bestCoil.calls k _ _ l0 a1_0 a1_1 t368 _ (kc_ (Kd.C_below HR0.out HB.out)) HC0.out A7.out).mono ?_); rintro e w14 ⟨rfl, hb⟩; refine ⟨_, rfl, ?_⟩; replace BK365 := ak_ (blk_below (g := gb365) (o := .cells #[.string a1_0, .int .i64 a1_1] 32 (0, 0)) (bk_ BK365) hb); replace HB := ak_ (below_step (hg_ GE365) hb); skip; clear hb))
  go_ret2
  exact ⟨ew_, (hg_ GE365)⟩
 rw [if_neg c8] at H
 have c8b0 : decide (t368 < 0) = false := decide_eq_false c8
 clear c8
 simp only [Option.some.injEq, Prod.mk.injEq] at H
 obtain ⟨rfl, rfl⟩ := H
 go_enter Tryd.func15, Tryd.ntmps15
 go_wp2_with (first | ((with_reducible refine gate_dst (N := 3) rfl ?_); refine box_event ?hg (N := 3) ?hd (cs := #[.string a1_0, .int .i64 a1_1]) (t := 32) ?hr ?_; (case hd => rfl); (case hg => rfl); (case hr => first | (go_simp; done) | (go_simp; rfl)); intro gb365 hg w15 hbox hb; have BK365 := ak_ (hbox); have GW365 := ak_ ((by rw [hg]; exact (below_size hb_) : w.heap.size ≤ gb365)); have GE365 := ak_ ((by rw [hg]; exact (below_size hb_) : w.heap.size ≤ gb365)); replace HB := ak_ (below_step hb_ hb); skip; clear hb hbox hg) | ((with_reducible refine gate_callee (f := 33) rfl ?_); refine goesL_ (some 8) rfl rfl Tryd.func33 (by kernel_rfl) rfl #[.slice A0 l0.length c0] rfl ln_ ?_; (with_reducible refine (impl_ValidStockCoils.calls k _ _ l0 true _ (kc_ (Kd.C_below HR0.out HB.out)) HC0.out A3.out).mono ?_); rintro e w16 ⟨rfl, hb⟩; refine ⟨_, rfl, ?_⟩; replace BK365 := ak_ (blk_below (g := gb365) (o := .cells #[.string a1_0, .int .i64 a1_1] 32 (0, 0)) (bk_ BK365) hb); replace HB := ak_ (below_step (hg_ GE365) hb); skip; (try clear hb); (try clear hb2); (try clear hk); (try clear hi); have hcz17_0 : w16.cell? ⟨gb365, 0, none⟩ = some (.string a1_0) := (blk_cell BK365.out 0).trans rfl; have hcz17_1 : w16.cell? ⟨gb365, 1, none⟩ = some (.int .i64 a1_1) := (blk_cell BK365.out 1).trans rfl; have hfz17_0 := blk_frozen BK365.out 0; have hfz17_1 := blk_frozen BK365.out 1) | ((with_reducible refine gate_callee (f := 74) rfl ?_); refine goesL_ (some 11) rfl rfl Tryd.func74 (by kernel_rfl) rfl #[.agg #[.string a1_0, .int .i64 a1_1]] rfl ln_ ?_; (with_reducible refine (impl_validWant.calls k a1_0 a1_1 true _ A5.out).mono ?_); rintro e w18 ⟨rfl, hb⟩; refine ⟨_, rfl, ?_⟩; replace BK365 := ak_ (blk_below (g := gb365) (o := .cells #[.string a1_0, .int .i64 a1_1] 32 (0, 0)) (bk_ BK365) hb); replace HB := ak_ (below_step (hg_ GE365) hb); skip; (try clear hb); (try clear hb2); (try clear hk); (try clear hi); have hcz19_0 : w18.cell? ⟨gb365, 0, none⟩ = some (.string a1_0) := (blk_cell BK365.out 0).trans rfl; have hcz19_1 : w18.cell? ⟨gb365, 1, none⟩ = some (.int .i64 a1_1) := (blk_cell BK365.out 1).trans rfl; have hfz19_0 := blk_frozen BK365.out 0; have hfz19_1 := blk_frozen BK365.out 1) | ((with_reducible refine gate_callee (f := 75) rfl ?_); refine goesL_ (some 15) rfl rfl Tryd.func75 (by kernel_rfl) rfl #[.slice A0 l0.length c0, .agg #[.string a1_0, .int .i64 a1_1]] rfl ln_ ?_; (with_reducible refine (impl_bestCoil.calls k _ _ l0 a1_0 a1_1 t368 _ (kc_ (Kd.C_below HR0.out HB.out)) HC0.out A7.out).mono ?_); rintro e w20 ⟨rfl, hb⟩; refine ⟨_, rfl, ?_⟩; replace BK365 := ak_ (blk_below (g := gb365) (o := .cells #[.string a1_0, .int .i64 a1_1] 32 (0, 0)) (bk_ BK365) hb); replace HB := ak_ (below_step (hg_ GE365) hb); skip; clear hb))
 go_ret2
 exact ⟨ew_, (hg_ GE365)⟩
end Go.Proofs.YtfenjlkopofopaaDoor.P
end
