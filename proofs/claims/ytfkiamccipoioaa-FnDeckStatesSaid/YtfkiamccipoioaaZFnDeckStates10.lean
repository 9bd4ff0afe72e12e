/- Texts of this claim, packed: Px32. -/
import Derived.Test.YtfkiamccipoioaaZFnDeckStates9
section
-- Written by gprint.py (own program, over the printer of the kit) out of the translation. Lean checks it.
namespace Go.Proofs.Ytfkiamccipoioaa.P
open Go.RowKit Go.Proofs.YtfkiamccipoioaaW.PrintWords Go.Proofs.YtfkiamccipoioaaW.PrintLast Go.Proofs.YtfkiamccipoioaaW.PrintMore Go.Proofs.YtfkiamccipoioaaW.Pk
open Bool renaming true → T_, false → F_
open List renaming setIfInBounds_toArray → sT_, set_cons_zero → s0_, set_cons_succ → sS_
attribute [local go_sem] max2_int min2_int max_two min_two max_three min_three max_four min_four   -- for this text's walks alone
set_option linter.unusedVariables false
set_option linter.unusedSimpArgs false

/-! ### laws_a2Long: function 43 -/
def laws_a2Long.f (l0 : List Int) (l1 : List Int) : Option (Bool) := if (l0.length : Int) > 3000 then (some true) else (some (decide ((l1.length : Int) > 3000)))
set_option maxHeartbeats 8000000 in
set_option maxRecDepth 100000 in
theorem laws_a2Long.calls (A0 : Option Addr) (c0 : Nat) (l0 : List Int) (A1 : Option Addr) (c1 : Nat) (l1 : List Int) (r : Bool) (w : World) (hr0 : Kd.C (Kd.int .u8) w A0 l0.length l0) (hc0 : l0.length ≤ c0) (hr1 : Kd.C (Kd.int .u8) w A1 l1.length l1) (hc1 : l1.length ≤ c1) (h : laws_a2Long.f l0 l1 = some r) :
  Calls Try.prog 43 #[.slice A0 l0.length c0, .slice A1 l1.length c1] w fun e w' => e = .returned (.bool r) ∧ Drawn0 w w' := by
 have HR0 := Aside0.mk hr0
 have HC0 := Aside0.mk hc0
 clear hr0 hc0
 have HR1 := Aside0.mk hr1
 have HC1 := Aside0.mk hc1
 clear hr1 hc1
 have H : (if (l0.length : Int) > 3000 then (some true) else (some (decide ((l1.length : Int) > 3000)))) = some r := h
 clear h
 by_cases c3 : (l0.length : Int) > 3000
 ·rw [if_pos c3] at H
  have c3b0 : decide (3000 < (l0.length : Int)) = true := decide_eq_true c3
  have c3b1 : decide (3000 < l0.length) = true := decide_eq_true (by omega)
  clear c3
  obtain rfl := Option.some.inj H
  go_enter Try.func43, Try.ntmps43
  go_wp2
  go_ret
  exact ⟨by first | rfl | (simp; done) | (simp [*]; done), by repeat (first | exact Drawn0.refl _ | apply Drawn0.step)⟩
 ·rw [if_neg c3] at H
  have c3b0 : decide (3000 < (l0.length : Int)) = false := decide_eq_false c3
  have c3b1 : decide (3000 < l0.length) = false := decide_eq_false (by omega)
  clear c3
  obtain rfl := Option.some.inj H
  go_enter Try.func43, Try.ntmps43
  go_wp2
  go_ret
  exact ⟨by first | rfl | (simp; done) | (simp [*]; done), by repeat (first | exact Drawn0.refl _ | apply Drawn0.step)⟩

/-! ### spec_l00From: function 73 -/
def spec_l00From.f (l0 : List Int) : Option (List Int × Int × Int) := some (l0, 0, 0)
set_option maxHeartbeats 8000000 in
set_option maxRecDepth 100000 in
theorem spec_l00From.calls (A0 : Option Addr) (c0 : Nat) (l0 : List Int) (r1 : List Int) (r2 : Int) (r3 : Int) (w0 w : World) (hB : Below w0.heap.size w0 w) (hr0 : Kd.C (Kd.int .u8) w0 A0 l0.length l0) (hc0 : l0.length ≤ c0) (h : spec_l00From.f l0 = some (r1, r2, r3)) :
  Calls Try.prog 73 #[.slice A0 l0.length c0] w fun e w' => ∃ g_ : Nat, e = .returned (.pointer (some ⟨g_, 0, none⟩)) ∧ IsS92 w0 w' g_ r1 r2 r3 ∧ Below w0.heap.size w0 w' ∧ Below w.heap.size w w' := by
 have hu92 := Try.underlying92
 have HR0 := Aside0.mk hr0
 have HC0 := Aside0.mk hc0
 clear hr0 hc0
 have HBW := Aside0.mk (Below.refl w.heap.size w)
 have HW0 := Aside0.mk hB.size
 have HB := Aside0.mk hB
 clear hB
 have H : (some (l0, 0, 0)) = some (r1, r2, r3) := h
 clear h
 simp only [Option.some.injEq, Prod.mk.injEq] at H
 obtain ⟨rfl, rfl, rfl⟩ := H
 go_enter Try.func73, Try.ntmps73
 go_wp2_with (first | ((with_reducible refine gate_dst (N := 5) rfl ?_); refine box_event ?hg (N := 5) ?hd (cs := #[.slice A0 l0.length c0, .int .i64 0, .int .u64 0]) (t := 92) ?hr ?_; (case hd => rfl); (case hg => rfl); (case hr => first | (go_simp; done) | (go_simp; rfl)); intro gb693 hg w2 hbox hb; have n0_ := Aside0.mk (below_step HBW.out hb); have n1_ := Aside0.mk (below_step hb_ hb); have n2_ := Aside0.mk (hbox); have n3_ := Aside0.mk ((by rw [hg]; exact (below_size (by repeat (first | (with_reducible first | exact HBW.out | apply below_alloc | apply pw_below_drewN | apply below_drew1) | exact HBW.out))) : w.heap.size ≤ gb693)); have n4_ := Aside0.mk ((Nat.le_trans HW0.out (by rw [hg]; exact (below_size (by repeat (first | (with_reducible first | exact HBW.out | apply below_alloc | apply pw_below_drewN | apply below_drew1) | exact HBW.out))) : w.heap.size ≤ gb693) : w0.heap.size ≤ gb693)); clear HBW; clear HB; have HBW := n0_; have HB := n1_; have BK693 := n2_; have GW693 := n3_; have GE693 := n4_; clear n0_ n1_ n2_ n3_ n4_; clear hb hbox hg))
 go_ret
 exact ⟨_, rfl, (show IsS92 w0 _ gb693 l0 0 0 from ⟨_, _, by (with_reducible repeat (first | refine blk_drewN ?_ _ | refine blk_drew ?_ | refine blk_alloc ?_ _)); exact BK693.out, GE693.out, HR0.out⟩), (hg_ GE693), by repeat (first | (with_reducible first | exact HBW.out | apply below_alloc | apply pw_below_drewN | apply below_drew1 | refine below_set ?_ GW693.out) | exact HBW.out)⟩

/-! ### spec_l00Src_next: function 82 -/
def spec_l00Src_next.f (s0_0 : List Int) (s0_1 : Int) (s0_2 : Int) : Option (Int × Int × Int) := if s0_1 < (s0_0.length : Int) then (if 0 ≤ s0_1 then (if (wrap64 (s0_1 + 1)) ≤ (s0_0.length : Int) then (some (wrap64 (rd s0_0 s0_1), wrap64 (s0_1 + 1), IntKind.u64.wrap ((IntKind.u64.wrap ((IntKind.u64.wrap (s0_2 * 6364136223846793005)) + (IntKind.u64.wrap (wrap64 (rd s0_0 s0_1))))) + 1442695040888963407))) else (some (wrap64 (Go.bits .and .u64 ((IntKind.u64.wrap ((IntKind.u64.wrap ((IntKind.u64.wrap (s0_2 * 6364136223846793005)) + (IntKind.u64.wrap (wrap64 (rd s0_0 s0_1))))) + 1442695040888963407)) / 1099511627776) 255), wrap64 (s0_1 + 1), IntKind.u64.wrap ((IntKind.u64.wrap ((IntKind.u64.wrap (s0_2 * 6364136223846793005)) + (IntKind.u64.wrap (wrap64 (rd s0_0 s0_1))))) + 1442695040888963407)))) else (none)) else (if (wrap64 (s0_1 + 1)) ≤ (s0_0.length : Int) then (some (0, wrap64 (s0_1 + 1), IntKind.u64.wrap ((IntKind.u64.wrap (IntKind.u64.wrap (s0_2 * 6364136223846793005))) + 1442695040888963407))) else (some (wrap64 (Go.bits .and .u64 ((IntKind.u64.wrap ((IntKind.u64.wrap (IntKind.u64.wrap (s0_2 * 6364136223846793005))) + 1442695040888963407)) / 1099511627776) 255), wrap64 (s0_1 + 1), IntKind.u64.wrap ((IntKind.u64.wrap (IntKind.u64.wrap (s0_2 * 6364136223846793005))) + 1442695040888963407))))
set_option maxHeartbeats 8000000 in
set_option maxRecDepth 100000 in
theorem spec_l00Src_next.calls (g : Nat) (s0_0 : List Int) (s0_1 : Int) (s0_2 : Int) (r1 : Int) (r2 : Int) (r3 : Int) (w0 w : World) (hI : IsS92 w0 w g s0_0 s0_1 s0_2) (hB : Below w0.heap.size w0 w) (h : spec_l00Src_next.f s0_0 s0_1 s0_2 = some (r1, r2, r3)) :
  Calls Try.prog 82 #[.pointer (some ⟨g, 0, none⟩)] w fun e w' => e = .returned (.int .i64 r1) ∧ IsS92 w0 w' g s0_0 r2 r3 ∧ Below w0.heap.size w0 w' ∧ KeepBut w w' g none := by
 have HI0 := Aside0.mk hI
 have HK := Aside0.mk (KeepBut.refl w g none)
 have HL := Aside0.mk hB.size
 clear hI
 have HW0 := Aside0.mk hB.size
 have HB := Aside0.mk hB
 clear hB
 have H : (if s0_1 < (s0_0.length : Int) then (if 0 ≤ s0_1 then (if (wrap64 (s0_1 + 1)) ≤ (s0_0.length : Int) then (some (wrap64 (rd s0_0 s0_1), wrap64 (s0_1 + 1), IntKind.u64.wrap ((IntKind.u64.wrap ((IntKind.u64.wrap (s0_2 * 6364136223846793005)) + (IntKind.u64.wrap (wrap64 (rd s0_0 s0_1))))) + 1442695040888963407))) else (some (wrap64 (Go.bits .and .u64 ((IntKind.u64.wrap ((IntKind.u64.wrap ((IntKind.u64.wrap (s0_2 * 6364136223846793005)) + (IntKind.u64.wrap (wrap64 (rd s0_0 s0_1))))) + 1442695040888963407)) / 1099511627776) 255), wrap64 (s0_1 + 1), IntKind.u64.wrap ((IntKind.u64.wrap ((IntKind.u64.wrap (s0_2 * 6364136223846793005)) + (IntKind.u64.wrap (wrap64 (rd s0_0 s0_1))))) + 1442695040888963407)))) else (none)) else (if (wrap64 (s0_1 + 1)) ≤ (s0_0.length : Int) then (some (0, wrap64 (s0_1 + 1), IntKind.u64.wrap ((IntKind.u64.wrap (IntKind.u64.wrap (s0_2 * 6364136223846793005))) + 1442695040888963407))) else (some (wrap64 (Go.bits .and .u64 ((IntKind.u64.wrap ((IntKind.u64.wrap (IntKind.u64.wrap (s0_2 * 6364136223846793005))) + 1442695040888963407)) / 1099511627776) 255), wrap64 (s0_1 + 1), IntKind.u64.wrap ((IntKind.u64.wrap (IntKind.u64.wrap (s0_2 * 6364136223846793005))) + 1442695040888963407))))) = some (r1, r2, r3) := h
 clear h
 by_cases c2 : s0_1 < (s0_0.length : Int)
 ·rw [if_pos c2] at H
  have c2b0 : decide (s0_1 < (s0_0.length : Int)) = true := decide_eq_true c2
  clear c2
  by_cases c3 : 0 ≤ s0_1
  ·rw [if_pos c3] at H
   have c3b0 : decide (0 ≤ s0_1) = true := decide_eq_true c3
   clear c3
   by_cases c4 : (wrap64 (s0_1 + 1)) ≤ (s0_0.length : Int)
   ·rw [if_pos c4] at H
    have c4b0 : decide ((wrap64 (s0_1 + 1)) ≤ (s0_0.length : Int)) = true := decide_eq_true c4
    clear c4
    simp only [Option.some.injEq, Prod.mk.injEq] at H
    obtain ⟨rfl, rfl, rfl⟩ := H
    obtain ⟨ASz5_0, cSz5_0, HGz5, hgz5, HSz5_0⟩ := HI0.out
    have hcz5_0 := cellS92_0 HGz5
    have hcz5_1 := cellS92_1 HGz5
    have hcz5_2 := cellS92_2 HGz5
    have hfz5_1 := blk_frozen HGz5 1
    have hfz5_2 := blk_frozen HGz5 2
    clear HGz5 hgz5
    have p694 : 0 ≤ (s0_1 : Int) := od_
    have q694 : s0_1 < (s0_0.length : Int) := od_
    obtain ⟨ad694, e694, hx694_0⟩ := Kd.at_int HSz5_0 s0_1 p694 q694
    cases e694
    replace hx694_0 := pw_cell_below HB.out hx694_0
    replace p694 := eq_true p694
    replace q694 := eq_true q694
    go_enter Try.func82, Try.ntmps82
    go_wp2
    repeat (go_quiet (fail); try go_wp2)
    go_ret
    exact ⟨ew_, by repeat (first | (with_reducible first | exact HI0.out | apply IsS92.alloc | apply IsS92.drewN | apply IsS92.drew | apply IsS92.set_1 | apply IsS92.set_2) | exact HI0.out), by repeat (first | (with_reducible first | exact HB.out | apply below_alloc | apply pw_below_drewN | apply below_drew1 | refine below_set ?_ (IsS92.ge HI0.out)) | exact HB.out), by repeat (first | (with_reducible first | exact HK.out | apply KeepBut.set_ | apply keep_drewN | apply keep_drew | apply keep_alloc) | exact HK.out)⟩
   ·rw [if_neg c4] at H
    have c4b0 : decide ((wrap64 (s0_1 + 1)) ≤ (s0_0.length : Int)) = false := decide_eq_false c4
    clear c4
    simp only [Option.some.injEq, Prod.mk.injEq] at H
    obtain ⟨rfl, rfl, rfl⟩ := H
    obtain ⟨ASz6_0, cSz6_0, HGz6, hgz6, HSz6_0⟩ := HI0.out
    have hcz6_0 := cellS92_0 HGz6
    have hcz6_1 := cellS92_1 HGz6
    have hcz6_2 := cellS92_2 HGz6
    have hfz6_1 := blk_frozen HGz6 1
    have hfz6_2 := blk_frozen HGz6 2
    clear HGz6 hgz6
    have p694 : 0 ≤ (s0_1 : Int) := od_
    have q694 : s0_1 < (s0_0.length : Int) := od_
    obtain ⟨ad694, e694, hx694_0⟩ := Kd.at_int HSz6_0 s0_1 p694 q694
    cases e694
    replace hx694_0 := pw_cell_below HB.out hx694_0
    replace p694 := eq_true p694
    replace q694 := eq_true q694
    go_enter Try.func82, Try.ntmps82
    go_wp2
    repeat (go_quiet (fail); try go_wp2)
    go_ret
    exact ⟨ew_, by repeat (first | (with_reducible first | exact HI0.out | apply IsS92.alloc | apply IsS92.drewN | apply IsS92.drew | apply IsS92.set_1 | apply IsS92.set_2) | exact HI0.out), by repeat (first | (with_reducible first | exact HB.out | apply below_alloc | apply pw_below_drewN | apply below_drew1 | refine below_set ?_ (IsS92.ge HI0.out)) | exact HB.out), by repeat (first | (with_reducible first | exact HK.out | apply KeepBut.set_ | apply keep_drewN | apply keep_drew | apply keep_alloc) | exact HK.out)⟩
  ·rw [if_neg c3] at H
   exact absurd H (by simp)
 ·rw [if_neg c2] at H
  have c2b0 : decide (s0_1 < (s0_0.length : Int)) = false := decide_eq_false c2
  clear c2
  by_cases c7 : (wrap64 (s0_1 + 1)) ≤ (s0_0.length : Int)
  ·rw [if_pos c7] at H
   have c7b0 : decide ((wrap64 (s0_1 + 1)) ≤ (s0_0.length : Int)) = true := decide_eq_true c7
   clear c7
   simp only [Option.some.injEq, Prod.mk.injEq] at H
   obtain ⟨rfl, rfl, rfl⟩ := H
   obtain ⟨ASz8_0, cSz8_0, HGz8, hgz8, HSz8_0⟩ := HI0.out
   have hcz8_0 := cellS92_0 HGz8
   have hcz8_1 := cellS92_1 HGz8
   have hcz8_2 := cellS92_2 HGz8
   have hfz8_1 := blk_frozen HGz8 1
   have hfz8_2 := blk_frozen HGz8 2
   clear HGz8 hgz8
   go_enter Try.func82, Try.ntmps82
   go_wp2
   repeat (go_quiet (fail); try go_wp2)
   go_ret
   exact ⟨ew_, by repeat (first | (with_reducible first | exact HI0.out | apply IsS92.alloc | apply IsS92.drewN | apply IsS92.drew | apply IsS92.set_1 | apply IsS92.set_2) | exact HI0.out), by repeat (first | (with_reducible first | exact HB.out | apply below_alloc | apply pw_below_drewN | apply below_drew1 | refine below_set ?_ (IsS92.ge HI0.out)) | exact HB.out), by repeat (first | (with_reducible first | exact HK.out | apply KeepBut.set_ | apply keep_drewN | apply keep_drew | apply keep_alloc) | exact HK.out)⟩
  ·rw [if_neg c7] at H
   have c7b0 : decide ((wrap64 (s0_1 + 1)) ≤ (s0_0.length : Int)) = false := decide_eq_false c7
   clear c7
   simp only [Option.some.injEq, Prod.mk.injEq] at H
   obtain ⟨rfl, rfl, rfl⟩ := H
   obtain ⟨ASz9_0, cSz9_0, HGz9, hgz9, HSz9_0⟩ := HI0.out
   have hcz9_0 := cellS92_0 HGz9
   have hcz9_1 := cellS92_1 HGz9
   have hcz9_2 := cellS92_2 HGz9
   have hfz9_1 := blk_frozen HGz9 1
   have hfz9_2 := blk_frozen HGz9 2
   clear HGz9 hgz9
   go_enter Try.func82, Try.ntmps82
   go_wp2
   repeat (go_quiet (fail); try go_wp2)
   go_ret
   exact ⟨ew_, by repeat (first | (with_reducible first | exact HI0.out | apply IsS92.alloc | apply IsS92.drewN | apply IsS92.drew | apply IsS92.set_1 | apply IsS92.set_2) | exact HI0.out), by repeat (first | (with_reducible first | exact HB.out | apply below_alloc | apply pw_below_drewN | apply below_drew1 | refine below_set ?_ (IsS92.ge HI0.out)) | exact HB.out), by repeat (first | (with_reducible first | exact HK.out | apply KeepBut.set_ | apply keep_drewN | apply keep_drew | apply keep_alloc) | exact HK.out)⟩

/-! ### spec_l00Src_pick: function 75 -/
def spec_l00Src_pick.f (s0_0 : List Int) (s0_1 : Int) (s0_2 : Int) (a1 : Int) : Option (Int × Int × Int) := if a1 ≤ 1 then (some (0, s0_1, s0_2)) else ((spec_l00Src_next.f s0_0 s0_1 s0_2).bind fun bt695 => (if a1 > 200 then ((spec_l00Src_next.f s0_0 bt695.2.1 bt695.2.2).bind fun bt698 => (if a1 = 0 then (none) else (some (Int.tmod (wrap64 ((wrap64 (bt695.1 * 256)) + bt698.1)) a1, bt698.2.1, bt698.2.2)))) else (if a1 = 0 then (none) else (some (Int.tmod bt695.1 a1, bt695.2.1, bt695.2.2)))))
set_option maxHeartbeats 8000000 in
set_option maxRecDepth 100000 in
theorem spec_l00Src_pick.calls (g : Nat) (s0_0 : List Int) (s0_1 : Int) (s0_2 : Int) (a1 : Int) (r1 : Int) (r2 : Int) (r3 : Int) (w0 w : World) (hI : IsS92 w0 w g s0_0 s0_1 s0_2) (hB : Below w0.heap.size w0 w) (h : spec_l00Src_pick.f s0_0 s0_1 s0_2 a1 = some (r1, r2, r3)) :
  Calls Try.prog 75 #[.pointer (some ⟨g, 0, none⟩), .int .i64 a1] w fun e w' => e = .returned (.int .i64 r1) ∧ IsS92 w0 w' g s0_0 r2 r3 ∧ Below w0.heap.size w0 w' ∧ KeepBut w w' g none := by
 have HI0 := Aside0.mk hI
 have HK := Aside0.mk (KeepBut.refl w g none)
 have HL := Aside0.mk hB.size
 clear hI
 have HW0 := Aside0.mk hB.size
 have HB := Aside0.mk hB
 clear hB
 have H : (if a1 ≤ 1 then (some (0, s0_1, s0_2)) else ((spec_l00Src_next.f s0_0 s0_1 s0_2).bind fun bt695 => (if a1 > 200 then ((spec_l00Src_next.f s0_0 bt695.2.1 bt695.2.2).bind fun bt698 => (if a1 = 0 then (none) else (some (Int.tmod (wrap64 ((wrap64 (bt695.1 * 256)) + bt698.1)) a1, bt698.2.1, bt698.2.2)))) else (if a1 = 0 then (none) else (some (Int.tmod bt695.1 a1, bt695.2.1, bt695.2.2)))))) = some (r1, r2, r3) := h
 clear h
 by_cases c3 : a1 ≤ 1
 ·rw [if_pos c3] at H
  have c3b0 : decide (a1 ≤ 1) = true := decide_eq_true c3
  clear c3
  simp only [Option.some.injEq, Prod.mk.injEq] at H
  obtain ⟨rfl, rfl, rfl⟩ := H
  go_enter Try.func75, Try.ntmps75
  go_wp2
  go_ret
  exact ⟨ew_, by repeat (first | (with_reducible first | exact HI0.out | apply IsS92.alloc | apply IsS92.drewN | apply IsS92.drew | apply IsS92.set_1 | apply IsS92.set_2) | exact HI0.out), by repeat (first | (with_reducible first | exact HB.out | apply below_alloc | apply pw_below_drewN | apply below_drew1 | refine below_set ?_ (IsS92.ge HI0.out)) | exact HB.out), by repeat (first | (with_reducible first | exact HK.out | apply KeepBut.set_ | apply keep_drewN | apply keep_drew | apply keep_alloc) | exact HK.out)⟩
 ·rw [if_neg c3] at H
  have c3b0 : decide (a1 ≤ 1) = false := decide_eq_false c3
  clear c3
  replace H := Option.bind_eq_some_iff.mp H
  obtain ⟨⟨t695, t696, t697⟩, A40, H⟩ := H
  replace H : (if a1 > 200 then ((spec_l00Src_next.f s0_0 t696 t697).bind fun bt698 => (if a1 = 0 then (none) else (some (Int.tmod (wrap64 ((wrap64 (t695 * 256)) + bt698.1)) a1, bt698.2.1, bt698.2.2)))) else (if a1 = 0 then (none) else (some (Int.tmod t695 a1, t696, t697)))) = some (r1, r2, r3) := H
  have A4 := Aside0.mk A40
  clear A40
  by_cases c5 : a1 > 200
  ·rw [if_pos c5] at H
   have c5b0 : decide (200 < a1) = true := decide_eq_true c5
   clear c5
   replace H := Option.bind_eq_some_iff.mp H
   obtain ⟨⟨t698, t699, t700⟩, A60, H⟩ := H
   replace H : (if a1 = 0 then (none) else (some (Int.tmod (wrap64 ((wrap64 (t695 * 256)) + t698)) a1, t699, t700))) = some (r1, r2, r3) := H
   have A6 := Aside0.mk A60
   clear A60
   by_cases c7 : a1 = 0
   ·rw [if_pos c7] at H
    exact absurd H (by simp)
   ·rw [if_neg c7] at H
    have c7b0 : (a1 == 0) = false := beq_eq_false_iff_ne.mpr c7
    have c7b1 : (a1 != 0) = true := bne_iff_ne.mpr c7
    simp only [Option.some.injEq, Prod.mk.injEq] at H
    obtain ⟨rfl, rfl, rfl⟩ := H
    go_enter Try.func75, Try.ntmps75
    go_wp2_with (first | ((with_reducible refine gate_callee (f := 82) rfl ?_); refine goesL_ (some 9) rfl rfl Try.func82 (by kernel_rfl) rfl #[.pointer (some ⟨g, 0, none⟩)] rfl ln_ ?_; (with_reducible refine (spec_l00Src_next.calls g s0_0 s0_1 s0_2 t695 t696 t697 w0 _ ?side1 ?side2 A4.out).mono ?_); (case side1 => repeat (first | (with_reducible first | exact HI0.out | apply IsS92.alloc | apply IsS92.drewN | apply IsS92.drew | apply IsS92.set_1 | apply IsS92.set_2) | exact HI0.out)); (case side2 => repeat (first | (with_reducible first | exact HB.out | apply below_alloc | apply pw_below_drewN | apply below_drew1 | refine below_set ?_ (IsS92.ge HI0.out)) | exact HB.out)); rintro e w8 ⟨rfl, hi, hb, hk⟩; refine ⟨_, rfl, ?_⟩; have n0_ := Aside0.mk (KeepBut.trans (by repeat (first | (with_reducible first | exact HK.out | apply KeepBut.set_ | apply keep_drewN | apply keep_drew | apply keep_alloc) | exact HK.out)) hk (.inl rfl)); have n1_ := Aside0.mk (hb); have n2_ := Aside0.mk (hi); clear HK; clear HB; clear HI0; have HK := n0_; have HB := n1_; have HI0 := n2_; clear n0_ n1_ n2_; (try clear hb); (try clear hb2); (try clear hk); (try clear hi)) | ((with_reducible refine gate_callee (f := 82) rfl ?_); refine goesL_ (some 15) rfl rfl Try.func82 (by kernel_rfl) rfl #[.pointer (some ⟨g, 0, none⟩)] rfl ln_ ?_; (with_reducible refine (spec_l00Src_next.calls g s0_0 t696 t697 t698 t699 t700 w0 _ ?side1 ?side2 A6.out).mono ?_); (case side1 => repeat (first | (with_reducible first | exact HI0.out | apply IsS92.alloc | apply IsS92.drewN | apply IsS92.drew | apply IsS92.set_1 | apply IsS92.set_2) | exact HI0.out)); (case side2 => repeat (first | (with_reducible first | exact HB.out | apply below_alloc | apply pw_below_drewN | apply below_drew1 | refine below_set ?_ (IsS92.ge HI0.out)) | exact HB.out)); rintro e w9 ⟨rfl, hi, hb, hk⟩; refine ⟨_, rfl, ?_⟩; have n0_ := Aside0.mk (KeepBut.trans (by repeat (first | (with_reducible first | exact HK.out | apply KeepBut.set_ | apply keep_drewN | apply keep_drew | apply keep_alloc) | exact HK.out)) hk (.inl rfl)); have n1_ := Aside0.mk (hb); have n2_ := Aside0.mk (hi); clear HK; clear HB; clear HI0; have HK := n0_; have HB := n1_; have HI0 := n2_; clear n0_ n1_ n2_; (try clear hb); (try clear hb2); (try clear hk); (try clear hi)))
    go_ret
    exact ⟨ew_, by repeat (first | (with_reducible first | exact HI0.out | apply IsS92.alloc | apply IsS92.drewN | apply IsS92.drew | apply IsS92.set_1 | apply IsS92.set_2) | exact HI0.out), by repeat (first | (with_reducible first | exact HB.out | apply below_alloc | apply pw_below_drewN | apply below_drew1 | refine below_set ?_ (IsS92.ge HI0.out)) | exact HB.out), by repeat (first | (with_reducible first | exact HK.out | apply KeepBut.set_ | apply keep_drewN | apply keep_drew | apply keep_alloc) | exact HK.out)⟩
  ·rw [if_neg c5] at H
   have c5b0 : decide (200 < a1) = false := decide_eq_false c5
   clear c5
   by_cases c10 : a1 = 0
   ·rw [if_pos c10] at H
    exact absurd H (by simp)
   ·rw [if_neg c10] at H
    have c10b0 : (a1 == 0) = false := beq_eq_false_iff_ne.mpr c10
    have c10b1 : (a1 != 0) = true := bne_iff_ne.mpr c10
    simp only [Option.some.injEq, Prod.mk.injEq] at H
    obtain ⟨rfl, rfl, rfl⟩ := H
    go_enter Try.func75, Try.ntmps75
    go_wp2_with (first | ((with_reducible refine gate_callee (f := 82) rfl ?_); refine goesL_ (some 9) rfl rfl Try.func82 (by kernel_rfl) rfl #[.pointer (some ⟨g, 0, none⟩)] rfl ln_ ?_; (with_reducible refine (spec_l00Src_next.calls g s0_0 s0_1 s0_2 t695 t696 t697 w0 _ ?side1 ?side2 A4.out).mono ?_); (case side1 => repeat (first | (with_reducible first | exact HI0.out | apply IsS92.alloc | apply IsS92.drewN | apply IsS92.drew | apply IsS92.set_1 | apply IsS92.set_2) | exact HI0.out)); (case side2 => repeat (first | (with_reducible first | exact HB.out | apply below_alloc | apply pw_below_drewN | apply below_drew1 | refine below_set ?_ (IsS92.ge HI0.out)) | exact HB.out)); rintro e w11 ⟨rfl, hi, hb, hk⟩; refine ⟨_, rfl, ?_⟩; have n0_ := Aside0.mk (KeepBut.trans (by repeat (first | (with_reducible first | exact HK.out | apply KeepBut.set_ | apply keep_drewN | apply keep_drew | apply keep_alloc) | exact HK.out)) hk (.inl rfl)); have n1_ := Aside0.mk (hb); have n2_ := Aside0.mk (hi); clear HK; clear HB; clear HI0; have HK := n0_; have HB := n1_; have HI0 := n2_; clear n0_ n1_ n2_; (try clear hb); (try clear hb2); (try clear hk); (try clear hi)))
    go_ret
    exact ⟨ew_, by repeat (first | (with_reducible first | exact HI0.out | apply IsS92.alloc | apply IsS92.drewN | apply IsS92.drew | apply IsS92.set_1 | apply IsS92.set_2) | exact HI0.out), by repeat (first | (with_reducible first | exact HB.out | apply below_alloc | apply pw_below_drewN | apply below_drew1 | refine below_set ?_ (IsS92.ge HI0.out)) | exact HB.out), by repeat (first | (with_reducible first | exact HK.out | apply KeepBut.set_ | apply keep_drewN | apply keep_drew | apply keep_alloc) | exact HK.out)⟩

/-! ### spec_l00Src_one: function 80 -/
def spec_l00Src_one.f (s0_0 : List Int) (s0_1 : Int) (s0_2 : Int) (a1 : Int) : Option (Bool × Int × Int) := (spec_l00Src_pick.f s0_0 s0_1 s0_2 a1).bind fun bt701 => (some ((bt701.1 == 0), bt701.2.1, bt701.2.2))
set_option maxHeartbeats 8000000 in
set_option maxRecDepth 100000 in
theorem spec_l00Src_one.calls (g : Nat) (s0_0 : List Int) (s0_1 : Int) (s0_2 : Int) (a1 : Int) (r1 : Bool) (r2 : Int) (r3 : Int) (w0 w : World) (hI : IsS92 w0 w g s0_0 s0_1 s0_2) (hB : Below w0.heap.size w0 w) (h : spec_l00Src_one.f s0_0 s0_1 s0_2 a1 = some (r1, r2, r3)) :
  Calls Try.prog 80 #[.pointer (some ⟨g, 0, none⟩), .int .i64 a1] w fun e w' => e = .returned (.bool r1) ∧ IsS92 w0 w' g s0_0 r2 r3 ∧ Below w0.heap.size w0 w' ∧ KeepBut w w' g none := by
 have HI0 := Aside0.mk hI
 have HK := Aside0.mk (KeepBut.refl w g none)
 have HL := Aside0.mk hB.size
 clear hI
 have HW0 := Aside0.mk hB.size
 have HB := Aside0.mk hB
 clear hB
 have H : ((spec_l00Src_pick.f s0_0 s0_1 s0_2 a1).bind fun bt701 => (some ((bt701.1 == 0), bt701.2.1, bt701.2.2))) = some (r1, r2, r3) := h
 clear h
 replace H := Option.bind_eq_some_iff.mp H
 obtain ⟨⟨t701, t702, t703⟩, A30, H⟩ := H
 replace H : (some ((t701 == 0), t702, t703)) = some (r1, r2, r3) := H
 have A3 := Aside0.mk A30
 clear A30
 simp only [Option.some.injEq, Prod.mk.injEq] at H
 obtain ⟨rfl, rfl, rfl⟩ := H
 go_enter Try.func80, Try.ntmps80
 go_wp2_with (first | ((with_reducible refine gate_callee (f := 75) rfl ?_); refine goesL_ (some 7) rfl rfl Try.func75 (by kernel_rfl) rfl #[.pointer (some ⟨g, 0, none⟩), .int .i64 a1] rfl ln_ ?_; (with_reducible refine (spec_l00Src_pick.calls g s0_0 s0_1 s0_2 a1 t701 t702 t703 w0 _ ?side1 ?side2 A3.out).mono ?_); (case side1 => repeat (first | (with_reducible first | exact HI0.out | apply IsS92.alloc | apply IsS92.drewN | apply IsS92.drew | apply IsS92.set_1 | apply IsS92.set_2) | exact HI0.out)); (case side2 => repeat (first | (with_reducible first | exact HB.out | apply below_alloc | apply pw_below_drewN | apply below_drew1 | refine below_set ?_ (IsS92.ge HI0.out)) | exact HB.out)); rintro e w4 ⟨rfl, hi, hb, hk⟩; refine ⟨_, rfl, ?_⟩; have n0_ := Aside0.mk (KeepBut.trans (by repeat (first | (with_reducible first | exact HK.out | apply KeepBut.set_ | apply keep_drewN | apply keep_drew | apply keep_alloc) | exact HK.out)) hk (.inl rfl)); have n1_ := Aside0.mk (hb); have n2_ := Aside0.mk (hi); clear HK; clear HB; clear HI0; have HK := n0_; have HB := n1_; have HI0 := n2_; clear n0_ n1_ n2_; (try clear hb); (try clear hb2); (try clear hk); (try clear hi)))
 go_ret
 exact ⟨ew_, by repeat (first | (with_reducible first | exact HI0.out | apply IsS92.alloc | apply IsS92.drewN | apply IsS92.drew | apply IsS92.set_1 | apply IsS92.set_2) | exact HI0.out), by repeat (first | (with_reducible first | exact HB.out | apply below_alloc | apply pw_below_drewN | apply below_drew1 | refine below_set ?_ (IsS92.ge HI0.out)) | exact HB.out), by repeat (first | (with_reducible first | exact HK.out | apply KeepBut.set_ | apply keep_drewN | apply keep_drew | apply keep_alloc) | exact HK.out)⟩

/-! ### spec_l00Put: function 81 -/
mutual
def spec_l00Put.l0 : Nat → List Int → Int → List Int → Bool → Int → Option (List Int)
 | 0, _, _, _, _, _ => none
 | k + 1, x0, x1, x5, x6, x7 => if x7 < (x0.length : Int) then (if x6 = true then (spec_l00Put.j1 k x0 x1 x5 x6 x7 false) else (if 0 ≤ x7 then (spec_l00Put.j1 k x0 x1 x5 x6 x7 (decide ((rd x0 x7) ≥ x1))) else (none))) else (if x6 = true then (some x5) else (if x5.length < 17592186044416 then (some (x5 ++ [x1])) else (none)))
def spec_l00Put.j1 : Nat → List Int → Int → List Int → Bool → Int → Bool → Option (List Int)
 | 0, _, _, _, _, _, _ => none
 | k + 1, x0, x1, x5, x6, x7, x24 => if x24 = true then (if 0 ≤ x7 then (if x7 < (x0.length : Int) then (if (rd x0 x7) > x1 then (if x5.length < 17592186044416 then ((some (x5 ++ [x1] : List Int)).bind fun y712 => (if y712.length < 17592186044416 then (spec_l00Put.l0 k x0 x1 (y712 ++ [rd x0 x7]) true (wrap64 (x7 + 1))) else (none))) else (none)) else (if x5.length < 17592186044416 then (spec_l00Put.l0 k x0 x1 (x5 ++ [rd x0 x7]) true (wrap64 (x7 + 1))) else (none))) else (none)) else (none)) else (if 0 ≤ x7 then (if x7 < (x0.length : Int) then (if x5.length < 17592186044416 then (spec_l00Put.l0 k x0 x1 (x5 ++ [rd x0 x7]) x6 (wrap64 (x7 + 1))) else (none)) else (none)) else (none))
end
def spec_l00Put.f (k : Nat) (l0 : List Int) (a1 : Int) : Option (List Int) := spec_l00Put.l0 k l0 a1 (([] : List Int)) false 0
set_option maxHeartbeats 8000000 in
set_option maxRecDepth 100000 in
theorem spec_l00Put.calls (k : Nat) (A0 : Option Addr) (c0 : Nat) (l0 : List Int) (a1 : Int) (r : List Int) (w : World) (hr0 : Kd.C (Kd.int .i64) w A0 l0.length l0) (hc0 : l0.length ≤ c0) (h : spec_l00Put.f k l0 a1 = some r) :
  Calls Try.prog 81 #[.slice A0 l0.length c0, .int .i64 a1] w fun e w' => ∃ v0_ : Value, e = .returned (v0_) ∧ Kd.R (Kd.int .i64) 2 w' w.heap.size (fun _ => True) v0_ r ∧ Below w.heap.size w w' := by
 have HR0 := Aside0.mk hr0
 have HC0 := Aside0.mk hc0
 clear hr0 hc0
 have HB := Aside0.mk (Below.refl w.heap.size w)
 have H : (spec_l00Put.l0 k l0 a1 (([] : List Int)) false 0) = some r := h
 clear h
 obtain ⟨y704, hy704⟩ : ∃ y_ : List Int, y_ = (([] : List Int)) := ⟨_, rfl⟩
 replace H : (spec_l00Put.l0 k l0 a1 y704 false 0) = some r := by first | (rw [hy704]; with_reducible exact H) | (have H2_ := (Option.bind_some _ _).symm.trans H; rw [hy704]; with_reducible exact H2_) | (have H2_ := (Option.bind_some _ _).symm.trans H; with_reducible exact H2_) | with_reducible exact H | (rw [hy704]; exact H) | exact H
 have Ny704 := Aside0.mk hy704
 clear hy704
 have H' := Aside0.mk H
 clear H
 go_enter Try.func81, Try.ntmps81
 go_wp2_with (first | ((with_reducible refine gate_dst (N := 8) rfl ?_); refine Kd.R_lit (Kd.int .i64) _ 2 ?hg (N := 8) ?hd (xs := ([] : List Int)) (inner := []) (ok := fun _ => True) (okp := fun _ => True) ?hr ?hp (fun _ hk => hk) trivial (Below.refl _ _) (Nat.le_refl _) (by simp) ?_; (case hd => rfl); (case hg => rfl); (case hr => first | (go_simp; done) | (go_simp; rfl)); (case hp => exact (Reps.none _ _)); intro v705 w3 ho4 hb hg_ hnew_; clear hg_ hnew_; (first | rw [← Ny704.out] at ho4 | (simp only [Int.reduceToNat] at ho4; rw [← Ny704.out] at ho4)); have n0_ := Aside0.mk (Kd.R_lower ho4 (below_size hb_)); have n1_ := Aside0.mk (below_step hb_ hb); clear HB; have HO706 := n0_; have HB := n1_; clear n0_ n1_; clear hb ho4))
 go_loopg [5, 6, 7] k (fun kq v5 v6 v7 w' => ∃ (x5_1 : List Int) (x6_1 : Bool) (x7_1 : Int), v6 = .bool x6_1 ∧ v7 = .int .i64 x7_1 ∧ Aside0 (spec_l00Put.l0 kq l0 a1 x5_1 x6_1 x7_1 = some r) ∧ Aside0 (kq ≤ k) ∧ Aside0 (Kd.R (Kd.int .i64) 2 w' w.heap.size (fun _ => True) v5 x5_1) ∧ Aside0 (Below w.heap.size w w'))
 case atStart => exact ⟨(y704), (false), (0), (by first | rfl | (simp; done) | (simp [*]; done)), (by first | rfl | (simp; done) | (simp [*]; done)), H', ⟨Nat.le_refl _⟩, ⟨by (with_reducible repeat (first | apply Kd.R_alloc | apply Kd.R_drewN | apply Kd.R_drew)); exact HO706.out⟩, ⟨hb_⟩⟩
 case round =>
  clear H'
  try clear p2
  obtain ⟨x5_1, x6_1, x7_1, rfl, rfl, HA, HK1, HO_5, HB⟩ := hrel
  cases gk with
  | zero => exact absurd HA.out (by simp [spec_l00Put.l0])
  | succ k1 =>
   have H := HA.out
   clear HA
   simp only [spec_l00Put.l0] at H
   by_cases c5 : x7_1 < (l0.length : Int)
   ·rw [if_pos c5] at H
    have c5b0 : decide (x7_1 < (l0.length : Int)) = true := decide_eq_true c5
    clear c5
    have HC6 := Aside0.mk H
    clear H
    go_upto_region 6 with (fail)
    go_cut [24] (fun v24 wc => ∃ (kq : Nat) (x24_5 : Bool), v24 = .bool x24_5 ∧ Aside0 (spec_l00Put.j1 kq l0 a1 x5_1 x6_1 x7_1 x24_5 = some r) ∧ Aside0 (kq ≤ k1) ∧ Aside0 (Kd.R (Kd.int .i64) 2 wc w.heap.size (fun _ => True) u5 x5_1) ∧ Aside0 (Below w.heap.size w wc))
    case first =>
     have H := HC6.out
     clear HC6
     by_cases c7 : x6_1 = true
     ·subst c7
      have H1 : (spec_l00Put.j1 k1 l0 a1 x5_1 true x7_1 false) = some r := by rw [if_pos rfl] at H; exact H
      clear H
      have H := H1
      clear H1
      have H' := Aside0.mk H
      clear H
      go_wp2
      go_meet
      case rel => exact ⟨_, (false), (by first | rfl | (simp; done) | (simp [*]; done)), H', ⟨by have := HK1.out; first | omega | exact Nat.le_refl _⟩, ⟨by (with_reducible repeat (first | apply Kd.R_alloc | apply Kd.R_drewN | apply Kd.R_drew)); exact HO_5.out⟩, ⟨hb_⟩⟩
     ·replace c7 := Bool.eq_false_iff.mpr c7
      subst c7
      have H1 : (if 0 ≤ x7_1 then (spec_l00Put.j1 k1 l0 a1 x5_1 false x7_1 (decide ((rd l0 x7_1) ≥ a1))) else (none)) = some r := by rw [if_neg (show ¬ (false = true) by decide)] at H; exact H
      clear H
      have H := H1
      clear H1
      by_cases c8 : 0 ≤ x7_1
      ·rw [if_pos c8] at H
       have c8b0 : decide (0 ≤ x7_1) = true := decide_eq_true c8
       clear c8
       (first | rw [c8b0] | (simp only [i64_w, i32_w]; rw [c8b0]) | skip)
       have H' := Aside0.mk H
       clear H
       have p710 : 0 ≤ (x7_1 : Int) := od_
       have q710 : x7_1 < (l0.length : Int) := od_
       obtain ⟨ad710, e710, hx710_0⟩ := Kd.at_int HR0.out x7_1 p710 q710
       cases e710
       replace hx710_0 := cq_ HB hx710_0
       replace p710 := eq_true p710
       replace q710 := eq_true q710
       go_wp2
       go_meet
       case rel => exact ⟨_, (decide ((rd l0 x7_1) ≥ a1)), (by first | rfl | (simp; done) | (simp [*]; done)), H', ⟨by have := HK1.out; first | omega | exact Nat.le_refl _⟩, ⟨by (with_reducible repeat (first | apply Kd.R_alloc | apply Kd.R_drewN | apply Kd.R_drew)); exact HO_5.out⟩, ⟨hb_⟩⟩
      ·rw [if_neg c8] at H
       exact absurd H (by simp)
    case rest =>
     clear HC6
     try clear p2
     try clear c5
     try clear c5b0
     try clear c7
     try clear p7
     try clear q7
     try clear hx7
     try clear c8
     try clear c8b0
     try clear hx710_0
     try clear p2
     try clear p710
     try clear q710
     obtain ⟨kq, x24_5, rfl, HA, HJ5, HO_5, HB⟩ := hcut
     cases kq with
     | zero => exact absurd HA.out (by simp [spec_l00Put.j1])
     | succ kj5 =>
      have H := HA.out
      clear HA
      simp only [spec_l00Put.j1] at H
      by_cases c9 : x24_5 = true
      ·subst c9
       have H1 : (if 0 ≤ x7_1 then (if x7_1 < (l0.length : Int) then (if (rd l0 x7_1) > a1 then (if x5_1.length < 17592186044416 then ((some (x5_1 ++ [a1] : List Int)).bind fun y712 => (if y712.length < 17592186044416 then (spec_l00Put.l0 kj5 l0 a1 (y712 ++ [rd l0 x7_1]) true (wrap64 (x7_1 + 1))) else (none))) else (none)) else (if x5_1.length < 17592186044416 then (spec_l00Put.l0 kj5 l0 a1 (x5_1 ++ [rd l0 x7_1]) true (wrap64 (x7_1 + 1))) else (none))) else (none)) else (none)) = some r := by rw [if_pos rfl] at H; exact H
       clear H
       have H := H1
       clear H1
       by_cases c10 : 0 ≤ x7_1
       ·rw [if_pos c10] at H
        have c10b0 : decide (0 ≤ x7_1) = true := decide_eq_true c10
        clear c10
        by_cases c11 : x7_1 < (l0.length : Int)
        ·rw [if_pos c11] at H
         have c11b0 : decide (x7_1 < (l0.length : Int)) = true := decide_eq_true c11
         clear c11
         by_cases c12 : (rd l0 x7_1) > a1
         ·rw [if_pos c12] at H
          have c12b0 : decide (a1 < (rd l0 x7_1)) = true := decide_eq_true c12
          clear c12
          by_cases c13 : x5_1.length < 17592186044416
          ·rw [if_pos c13] at H
           have LMc13 := Aside0.mk c13
           clear c13
           obtain ⟨y712, hy712⟩ : ∃ y_ : List Int, y_ = (x5_1 ++ [a1]) := ⟨_, rfl⟩
           replace H : (if y712.length < 17592186044416 then (spec_l00Put.l0 kj5 l0 a1 (y712 ++ [rd l0 x7_1]) true (wrap64 (x7_1 + 1))) else (none)) = some r := by first | (rw [hy712]; with_reducible exact H) | (have H2_ := (Option.bind_some _ _).symm.trans H; rw [hy712]; with_reducible exact H2_) | (have H2_ := (Option.bind_some _ _).symm.trans H; with_reducible exact H2_) | with_reducible exact H | (rw [hy712]; exact H) | exact H
           have Ny712 := Aside0.mk hy712
           clear hy712
           by_cases c14 : y712.length < 17592186044416
           ·rw [if_pos c14] at H
            have LMc14 := Aside0.mk c14
            clear c14
            obtain ⟨y716, hy716⟩ : ∃ y_ : List Int, y_ = (y712 ++ [rd l0 x7_1]) := ⟨_, rfl⟩
            replace H : (spec_l00Put.l0 kj5 l0 a1 y716 true (wrap64 (x7_1 + 1))) = some r := by first | (rw [hy716]; with_reducible exact H) | (have H2_ := (Option.bind_some _ _).symm.trans H; rw [hy716]; with_reducible exact H2_) | (have H2_ := (Option.bind_some _ _).symm.trans H; with_reducible exact H2_) | with_reducible exact H | (rw [hy716]; exact H) | exact H
            have Ny716 := Aside0.mk hy716
            clear hy716
            have H' := Aside0.mk H
            clear H
            have p711 : 0 ≤ (x7_1 : Int) := od_
            have q711 : x7_1 < (l0.length : Int) := od_
            obtain ⟨ad711, e711, hx711_0⟩ := Kd.at_int HR0.out x7_1 p711 q711
            cases e711
            replace hx711_0 := cq_ HB hx711_0
            replace p711 := eq_true p711
            replace q711 := eq_true q711
            go_wp2_with (first | ((with_reducible refine gate_builtin (b := .append) (xs := #[.tmp 31, .tmp 33]) rfl ?_); at_builtin; refine Kd.R_append (Kd.int .i64) (w0 := w) w.heap.size rfl (.tmp 31) (.tmp 33) 22 2 (.int .i64 0) 8 rfl Try.underlying22 info2 rfl (by decide) (by omega) u5 x5_1 a1 [.int .i64 a1] (fun _ => True) (fun _ => False) rfl rfl ?aP (fun _ hk => hk.elim) ?aF ?aO ?aB ?aS ?aL ?_; (case aP => exact rfl); (case aB => exact hb_); (case aF => exact (fun _ _ => trivial)); (case aO => exact (kr_ HO_5)); (case aS => exact (below_size hb_)); (case aL => have := LMc13.out; omega); intro v713 w15 ho hb hg hat; rw [← Ny712.out] at ho; have n0_ := Aside0.mk (hb); have n1_ := Aside0.mk (ho); clear HB; clear HO_5; have HB := n0_; have HO714 := n1_; clear n0_ n1_; clear ho hb hg hat; have p715 : 0 ≤ (x7_1 : Int) := od_; have q715 : x7_1 < (l0.length : Int) := od_; obtain ⟨ad715, e715, hx715_0⟩ := Kd.at_int HR0.out x7_1 p715 q715; obtain rfl : ad711 = ad715 := (by injection e715); replace hx715_0 := cq_ HB hx715_0; replace p715 := eq_true p715; replace q715 := eq_true q715) | ((with_reducible refine gate_builtin (b := .append) (xs := #[.tmp 35, .tmp 40]) rfl ?_); at_builtin; refine Kd.R_append (Kd.int .i64) (w0 := w) w.heap.size rfl (.tmp 35) (.tmp 40) 22 2 (.int .i64 0) 8 rfl Try.underlying22 info2 rfl (by decide) (by omega) v713 y712 (rd l0 x7_1) [.int .i64 (rd l0 x7_1)] (fun _ => True) (fun _ => False) rfl rfl ?aP (fun _ hk => hk.elim) ?aF ?aO ?aB ?aS ?aL ?_; (case aP => exact rfl); (case aB => exact hb_); (case aF => exact (fun _ _ => trivial)); (case aO => exact (kr_ HO714)); (case aS => exact (below_size hb_)); (case aL => have := LMc14.out; omega); intro v717 w16 ho hb hg hat; rw [← Ny716.out] at ho; have n0_ := Aside0.mk (hb); have n1_ := Aside0.mk (ho); clear HB; clear HO714; have HB := n0_; have HO718 := n1_; clear n0_ n1_; clear ho hb hg hat))
            go_roundg kj5
            case measure => have := HK1.out; have := HJ5.out; omega
            case rel => exact ⟨(y716), (true), (wrap64 (x7_1 + 1)), (by first | rfl | (simp; done) | (simp [*]; done)), (by first | rfl | (simp; done) | (simp [*]; done)), H', ⟨by have := HK1.out; have := HJ5.out; omega⟩, ⟨by (with_reducible repeat (first | apply Kd.R_alloc | apply Kd.R_drewN | apply Kd.R_drew)); exact HO718.out⟩, ⟨hb_⟩⟩
           ·rw [if_neg c14] at H
            exact absurd H (by simp)
          ·rw [if_neg c13] at H
           exact absurd H (by simp)
         ·rw [if_neg c12] at H
          have c12b0 : decide (a1 < (rd l0 x7_1)) = false := decide_eq_false c12
          clear c12
          by_cases c17 : x5_1.length < 17592186044416
          ·rw [if_pos c17] at H
           have LMc17 := Aside0.mk c17
           clear c17
           obtain ⟨y720, hy720⟩ : ∃ y_ : List Int, y_ = (x5_1 ++ [rd l0 x7_1]) := ⟨_, rfl⟩
           replace H : (spec_l00Put.l0 kj5 l0 a1 y720 true (wrap64 (x7_1 + 1))) = some r := by first | (rw [hy720]; with_reducible exact H) | (have H2_ := (Option.bind_some _ _).symm.trans H; rw [hy720]; with_reducible exact H2_) | (have H2_ := (Option.bind_some _ _).symm.trans H; with_reducible exact H2_) | with_reducible exact H | (rw [hy720]; exact H) | exact H
           have Ny720 := Aside0.mk hy720
           clear hy720
           have H' := Aside0.mk H
           clear H
           have p711 : 0 ≤ (x7_1 : Int) := od_
           have q711 : x7_1 < (l0.length : Int) := od_
           obtain ⟨ad711, e711, hx711_0⟩ := Kd.at_int HR0.out x7_1 p711 q711
           cases e711
           replace hx711_0 := cq_ HB hx711_0
           replace p711 := eq_true p711
           replace q711 := eq_true q711
           have p719 : 0 ≤ (x7_1 : Int) := od_
           have q719 : x7_1 < (l0.length : Int) := od_
           obtain ⟨ad719, e719, hx719_0⟩ := Kd.at_int HR0.out x7_1 p719 q719
           obtain rfl : ad711 = ad719 := (by injection e719)
           replace hx719_0 := cq_ HB hx719_0
           replace p719 := eq_true p719
           replace q719 := eq_true q719
           go_wp2_with (first | ((with_reducible refine gate_builtin (b := .append) (xs := #[.tmp 35, .tmp 40]) rfl ?_); at_builtin; refine Kd.R_append (Kd.int .i64) (w0 := w) w.heap.size rfl (.tmp 35) (.tmp 40) 22 2 (.int .i64 0) 8 rfl Try.underlying22 info2 rfl (by decide) (by omega) u5 x5_1 (rd l0 x7_1) [.int .i64 (rd l0 x7_1)] (fun _ => True) (fun _ => False) rfl rfl ?aP (fun _ hk => hk.elim) ?aF ?aO ?aB ?aS ?aL ?_; (case aP => exact rfl); (case aB => exact hb_); (case aF => exact (fun _ _ => trivial)); (case aO => exact (kr_ HO_5)); (case aS => exact (below_size hb_)); (case aL => have := LMc17.out; omega); intro v721 w18 ho hb hg hat; rw [← Ny720.out] at ho; have n0_ := Aside0.mk (hb); have n1_ := Aside0.mk (ho); clear HB; clear HO_5; have HB := n0_; have HO722 := n1_; clear n0_ n1_; clear ho hb hg hat))
           go_roundg kj5
           case measure => have := HK1.out; have := HJ5.out; omega
           case rel => exact ⟨(y720), (true), (wrap64 (x7_1 + 1)), (by first | rfl | (simp; done) | (simp [*]; done)), (by first | rfl | (simp; done) | (simp [*]; done)), H', ⟨by have := HK1.out; have := HJ5.out; omega⟩, ⟨by (with_reducible repeat (first | apply Kd.R_alloc | apply Kd.R_drewN | apply Kd.R_drew)); exact HO722.out⟩, ⟨hb_⟩⟩
          ·rw [if_neg c17] at H
           exact absurd H (by simp)
        ·rw [if_neg c11] at H
         exact absurd H (by simp)
       ·rw [if_neg c10] at H
        exact absurd H (by simp)
      ·replace c9 := Bool.eq_false_iff.mpr c9
       subst c9
       have H1 : (if 0 ≤ x7_1 then (if x7_1 < (l0.length : Int) then (if x5_1.length < 17592186044416 then (spec_l00Put.l0 kj5 l0 a1 (x5_1 ++ [rd l0 x7_1]) x6_1 (wrap64 (x7_1 + 1))) else (none)) else (none)) else (none)) = some r := by rw [if_neg (show ¬ (false = true) by decide)] at H; exact H
       clear H
       have H := H1
       clear H1
       by_cases c19 : 0 ≤ x7_1
       ·rw [if_pos c19] at H
        have c19b0 : decide (0 ≤ x7_1) = true := decide_eq_true c19
        clear c19
        by_cases c20 : x7_1 < (l0.length : Int)
        ·rw [if_pos c20] at H
         have c20b0 : decide (x7_1 < (l0.length : Int)) = true := decide_eq_true c20
         clear c20
         by_cases c21 : x5_1.length < 17592186044416
         ·rw [if_pos c21] at H
          have LMc21 := Aside0.mk c21
          clear c21
          obtain ⟨y724, hy724⟩ : ∃ y_ : List Int, y_ = (x5_1 ++ [rd l0 x7_1]) := ⟨_, rfl⟩
          replace H : (spec_l00Put.l0 kj5 l0 a1 y724 x6_1 (wrap64 (x7_1 + 1))) = some r := by first | (rw [hy724]; with_reducible exact H) | (have H2_ := (Option.bind_some _ _).symm.trans H; rw [hy724]; with_reducible exact H2_) | (have H2_ := (Option.bind_some _ _).symm.trans H; with_reducible exact H2_) | with_reducible exact H | (rw [hy724]; exact H) | exact H
          have Ny724 := Aside0.mk hy724
          clear hy724
          have H' := Aside0.mk H
          clear H
          have p723 : 0 ≤ (x7_1 : Int) := od_
          have q723 : x7_1 < (l0.length : Int) := od_
          obtain ⟨ad723, e723, hx723_0⟩ := Kd.at_int HR0.out x7_1 p723 q723
          cases e723
          replace hx723_0 := cq_ HB hx723_0
          replace p723 := eq_true p723
          replace q723 := eq_true q723
          go_wp2_with (first | ((with_reducible refine gate_builtin (b := .append) (xs := #[.tmp 35, .tmp 40]) rfl ?_); at_builtin; refine Kd.R_append (Kd.int .i64) (w0 := w) w.heap.size rfl (.tmp 35) (.tmp 40) 22 2 (.int .i64 0) 8 rfl Try.underlying22 info2 rfl (by decide) (by omega) u5 x5_1 (rd l0 x7_1) [.int .i64 (rd l0 x7_1)] (fun _ => True) (fun _ => False) rfl rfl ?aP (fun _ hk => hk.elim) ?aF ?aO ?aB ?aS ?aL ?_; (case aP => exact rfl); (case aB => exact hb_); (case aF => exact (fun _ _ => trivial)); (case aO => exact (kr_ HO_5)); (case aS => exact (below_size hb_)); (case aL => have := LMc21.out; omega); intro v725 w22 ho hb hg hat; rw [← Ny724.out] at ho; have n0_ := Aside0.mk (hb); have n1_ := Aside0.mk (ho); clear HB; clear HO_5; have HB := n0_; have HO726 := n1_; clear n0_ n1_; clear ho hb hg hat))
          go_roundg kj5
          case measure => have := HK1.out; have := HJ5.out; omega
          case rel => exact ⟨(y724), (x6_1), (wrap64 (x7_1 + 1)), (by first | rfl | (simp; done) | (simp [*]; done)), (by first | rfl | (simp; done) | (simp [*]; done)), H', ⟨by have := HK1.out; have := HJ5.out; omega⟩, ⟨by (with_reducible repeat (first | apply Kd.R_alloc | apply Kd.R_drewN | apply Kd.R_drew)); exact HO726.out⟩, ⟨hb_⟩⟩
         ·rw [if_neg c21] at H
          exact absurd H (by simp)
        ·rw [if_neg c20] at H
         exact absurd H (by simp)
       ·rw [if_neg c19] at H
        exact absurd H (by simp)
   ·rw [if_neg c5] at H
    have c5b0 : decide (x7_1 < (l0.length : Int)) = false := decide_eq_false c5
    clear c5
    by_cases c23 : x6_1 = true
    ·subst c23
     have H1 : (some x5_1) = some r := by rw [if_pos rfl] at H; exact H
     clear H
     have H := H1
     clear H1
     obtain rfl := Option.some.inj H
     go_wp2
     go_ret
     exact ⟨_, ew_, by (with_reducible repeat (first | apply Kd.R_alloc | apply Kd.R_drewN | apply Kd.R_drew)); exact HO_5.out, hb_⟩
    ·replace c23 := Bool.eq_false_iff.mpr c23
     subst c23
     have H1 : (if x5_1.length < 17592186044416 then (some (x5_1 ++ [a1])) else (none)) = some r := by rw [if_neg (show ¬ (false = true) by decide)] at H; exact H
     clear H
     have H := H1
     clear H1
     by_cases c24 : x5_1.length < 17592186044416
     ·rw [if_pos c24] at H
      have LMc24 := Aside0.mk c24
      clear c24
      obtain ⟨y707, hy707⟩ : ∃ y_ : List Int, y_ = (x5_1 ++ [a1]) := ⟨_, rfl⟩
      replace H : (some y707) = some r := by first | (rw [hy707]; with_reducible exact H) | (have H2_ := (Option.bind_some _ _).symm.trans H; rw [hy707]; with_reducible exact H2_) | (have H2_ := (Option.bind_some _ _).symm.trans H; with_reducible exact H2_) | with_reducible exact H | (rw [hy707]; exact H) | exact H
      have Ny707 := Aside0.mk hy707
      clear hy707
      obtain rfl := Option.some.inj H
      go_wp2_with (first | ((with_reducible refine gate_builtin (b := .append) (xs := #[.tmp 44, .tmp 46]) rfl ?_); at_builtin; refine Kd.R_append (Kd.int .i64) (w0 := w) w.heap.size rfl (.tmp 44) (.tmp 46) 22 2 (.int .i64 0) 8 rfl Try.underlying22 info2 rfl (by decide) (by omega) u5 x5_1 a1 [.int .i64 a1] (fun _ => True) (fun _ => False) rfl rfl ?aP (fun _ hk => hk.elim) ?aF ?aO ?aB ?aS ?aL ?_; (case aP => exact rfl); (case aB => exact hb_); (case aF => exact (fun _ _ => trivial)); (case aO => exact (kr_ HO_5)); (case aS => exact (below_size hb_)); (case aL => have := LMc24.out; omega); intro v708 w25 ho hb hg hat; rw [← Ny707.out] at ho; have n0_ := Aside0.mk (hb); have n1_ := Aside0.mk (ho); clear HB; clear HO_5; have HB := n0_; have HO709 := n1_; clear n0_ n1_; clear ho hb hg hat))
      go_ret
      exact ⟨_, ew_, by (with_reducible repeat (first | apply Kd.R_alloc | apply Kd.R_drewN | apply Kd.R_drew)); exact HO709.out, hb_⟩
     ·rw [if_neg c24] at H
      exact absurd H (by simp)

/-! ### spec_l20Draw: function 74 -/
mutual
def spec_l20Draw.l0 : Nat → Int → Int → List Int → Int → Int → List Int → List (List Int) → Option (List Int × (List (List Int)) × Int × Int)
 | 0, _, _, _, _, _, _, _ => none
 | k + 1, x4, x5, x1000, x1001, x1002, x735000, x735001 => if x5 < x4 then ((spec_l00Src_one.f x1000 x1001 x1002 3).bind fun bt738 => (if bt738.1 = true then (if x4 > 1 then ((spec_l00Src_pick.f x1000 bt738.2.1 bt738.2.2 (wrap64 (x4 - 1))).bind fun bt741 => (if x4 = 0 then (none) else (if x735000.length < 17592186044416 then (spec_l20Draw.l0 k x4 (wrap64 (x5 + 1)) x1000 bt741.2.1 bt741.2.2 (x735000 ++ [Int.tmod (wrap64 ((wrap64 (x5 + 1)) + bt741.1)) x4]) x735001) else (none)))) else (if x735000.length < 17592186044416 then (spec_l20Draw.l0 k x4 (wrap64 (x5 + 1)) x1000 bt738.2.1 bt738.2.2 (x735000 ++ [(-1)]) x735001) else (none))) else (if x735000.length < 17592186044416 then (spec_l20Draw.l0 k x4 (wrap64 (x5 + 1)) x1000 bt738.2.1 bt738.2.2 (x735000 ++ [(-1)]) x735001) else (none)))) else ((spec_l00Src_pick.f x1000 x1001 x1002 4).bind fun bt753 => (spec_l20Draw.l1 k x4 bt753.1 x1000 bt753.2.1 bt753.2.2 x735000 x735001))
def spec_l20Draw.l1 : Nat → Int → Int → List Int → Int → Int → List Int → List (List Int) → Option (List Int × (List (List Int)) × Int × Int)
 | 0, _, _, _, _, _, _, _ => none
 | k + 1, x4, x7, x1000, x1001, x1002, x735000, x735001 => if x7 > 0 then ((spec_l00Src_pick.f x1000 x1001 x1002 x4).bind fun bt756 => ((spec_l00Src_pick.f x1000 bt756.2.1 bt756.2.2 2).bind fun bt762 => (spec_l20Draw.l2 k x4 x7 (([bt756.1] : List Int)) (wrap64 (1 + bt762.1)) x1000 bt762.2.1 bt762.2.2 x735000 x735001))) else (some (x735000, x735001, x1001, x1002))
def spec_l20Draw.l2 : Nat → Int → Int → List Int → Int → List Int → Int → Int → List Int → List (List Int) → Option (List Int × (List (List Int)) × Int × Int)
 | 0, _, _, _, _, _, _, _, _, _ => none
 | k + 1, x4, x7, x8, x9, x1000, x1001, x1002, x735000, x735001 => if x9 > 0 then ((spec_l00Src_pick.f x1000 x1001 x1002 x4).bind fun bt765 => ((spec_l00Put.f k x8 bt765.1).bind fun t768 => (spec_l20Draw.l2 k x4 x7 t768 (wrap64 (x9 - 1)) x1000 bt765.2.1 bt765.2.2 x735000 x735001))) else (if x735001.length < 5864062014805 then (spec_l20Draw.l1 k x4 (wrap64 (x7 - 1)) x1000 x1001 x1002 x735000 (x735001 ++ [x8])) else (none))
end
def spec_l20Draw.f (k : Nat) (s0_0 : List Int) (s0_1 : Int) (s0_2 : Int) : Option (List Int × (List (List Int)) × Int × Int) := (spec_l00Src_pick.f s0_0 s0_1 s0_2 6).bind fun bt735 => (spec_l20Draw.l0 k (wrap64 (1 + bt735.1)) 0 s0_0 bt735.2.1 bt735.2.2 (([] : List Int)) (([] : List (List Int))))
set_option maxHeartbeats 8000000 in
set_option maxRecDepth 100000 in
theorem spec_l20Draw.calls (k : Nat) (g : Nat) (s0_0 : List Int) (s0_1 : Int) (s0_2 : Int) (r1 : List Int) (r2 : List (List Int)) (r3 : Int) (r4 : Int) (w0 w : World) (hI : IsS92 w0 w g s0_0 s0_1 s0_2) (hB : Below w0.heap.size w0 w) (h : spec_l20Draw.f k s0_0 s0_1 s0_2 = some (r1, r2, r3, r4)) :
  Calls Try.prog 74 #[.pointer (some ⟨g, 0, none⟩)] w fun e w' => ∃ v0_ v1_ : Value, e = .returned (.agg #[v0_, v1_]) ∧ Kd.R (Kd.int .i64) 2 w' w.heap.size (fun _ => True) v0_ r1 ∧ Kd.S (Kd.slice 2 (Kd.int .i64)) 22 w' w.heap.size (fun k_ => some k_ ≠ (v0_ : Value).ownBlock) v1_ r2 ∧ IsS92 w0 w' g s0_0 r3 r4 ∧ Below w0.heap.size w0 w' ∧ KeepBut w w' g none := by
 have hu28 := Try.underlying28
 have HI0 := Aside0.mk hI
 have HK := Aside0.mk (KeepBut.refl w g none)
 have HL := Aside0.mk hB.size
 clear hI
 have HW0 := Aside0.mk hB.size
 have HB := Aside0.mk hB
 clear hB
 have H : ((spec_l00Src_pick.f s0_0 s0_1 s0_2 6).bind fun bt735 => (spec_l20Draw.l0 k (wrap64 (1 + bt735.1)) 0 s0_0 bt735.2.1 bt735.2.2 (([] : List Int)) (([] : List (List Int))))) = some (r1, r2, r3, r4) := h
 clear h
 obtain ⟨y728, hy728⟩ : ∃ y_ : List Int, y_ = (([] : List Int)) := ⟨_, rfl⟩
 replace H : ((spec_l00Src_pick.f s0_0 s0_1 s0_2 6).bind fun bt735 => (spec_l20Draw.l0 k (wrap64 (1 + bt735.1)) 0 s0_0 bt735.2.1 bt735.2.2 y728 (([] : List (List Int))))) = some (r1, r2, r3, r4) := by first | (rw [hy728]; with_reducible exact H) | (have H2_ := (Option.bind_some _ _).symm.trans H; rw [hy728]; with_reducible exact H2_) | (have H2_ := (Option.bind_some _ _).symm.trans H; with_reducible exact H2_) | with_reducible exact H | (rw [hy728]; exact H) | exact H
 have Ny728 := Aside0.mk hy728
 clear hy728
 obtain ⟨y731, hy731⟩ : ∃ y_ : List (List Int), y_ = (([] : List (List Int))) := ⟨_, rfl⟩
 replace H : ((spec_l00Src_pick.f s0_0 s0_1 s0_2 6).bind fun bt735 => (spec_l20Draw.l0 k (wrap64 (1 + bt735.1)) 0 s0_0 bt735.2.1 bt735.2.2 y728 y731)) = some (r1, r2, r3, r4) := by first | (rw [hy731]; with_reducible exact H) | (have H2_ := (Option.bind_some _ _).symm.trans H; rw [hy731]; with_reducible exact H2_) | (have H2_ := (Option.bind_some _ _).symm.trans H; with_reducible exact H2_) | with_reducible exact H | (rw [hy731]; exact H) | exact H
 have Ny731 := Aside0.mk hy731
 clear hy731
 replace H := Option.bind_eq_some_iff.mp H
 obtain ⟨⟨t735, t736, t737⟩, A20, H⟩ := H
 replace H : (spec_l20Draw.l0 k (wrap64 (1 + t735)) 0 s0_0 t736 t737 y728 y731) = some (r1, r2, r3, r4) := H
 have A2 := Aside0.mk A20
 clear A20
 have H' := Aside0.mk H
 clear H
 go_enter Try.func74, Try.ntmps74
 go_wp2_with (first | ((with_reducible refine gate_dst (N := 2) rfl ?_); refine box_event ?hg (N := 2) ?hd (cs := #[.slice none 0 0, .slice none 0 0]) (t := 28) ?hr ?_; (case hd => rfl); (case hg => rfl); (case hr => first | (go_simp; done) | (go_simp; rfl)); intro gb727 hg w3 hbox hb; have n0_ := Aside0.mk (IsS92.below (by repeat (first | (with_reducible first | exact HI0.out | apply IsS92.alloc | apply IsS92.drewN | apply IsS92.drew | apply IsS92.set_1 | apply IsS92.set_2) | exact HI0.out)) hb); have n1_ := Aside0.mk (KeepBut.trans (by repeat (first | (with_reducible first | exact HK.out | apply KeepBut.set_ | apply keep_drewN | apply keep_drew | apply keep_alloc) | exact HK.out)) (KeepBut.of_below hb g none) (.inl rfl)); have n2_ := Aside0.mk (below_step (by repeat (first | (with_reducible first | exact HB.out | apply below_alloc | apply pw_below_drewN | apply below_drew1 | refine below_set ?_ (IsS92.ge HI0.out)) | exact HB.out)) hb); have n3_ := Aside0.mk (hbox); have n4_ := Aside0.mk ((by rw [hg]; exact (keep_size (w := w) (g := g) (row := none) (by repeat (first | (with_reducible first | exact HK.out | apply KeepBut.set_ | apply keep_drewN | apply keep_drew | apply keep_alloc) | exact HK.out))) : w.heap.size ≤ gb727)); have n5_ := Aside0.mk ((Nat.le_trans HW0.out (by rw [hg]; exact (keep_size (w := w) (g := g) (row := none) (by repeat (first | (with_reducible first | exact HK.out | apply KeepBut.set_ | apply keep_drewN | apply keep_drew | apply keep_alloc) | exact HK.out))) : w.heap.size ≤ gb727) : w0.heap.size ≤ gb727)); have n6_ := Aside0.mk ((by rw [hg]; exact Nat.ne_of_lt (IsS92.lt (show IsS92 w0 _ g s0_0 s0_1 s0_2 from by repeat (first | (with_reducible first | exact HI0.out | apply IsS92.alloc | apply IsS92.drewN | apply IsS92.drew | apply IsS92.set_1 | apply IsS92.set_2) | exact HI0.out))) : g ≠ gb727)); have n7_ := Aside0.mk ((by rw [hg]; exact Nat.ne_of_gt (IsS92.lt (show IsS92 w0 _ g s0_0 s0_1 s0_2 from by repeat (first | (with_reducible first | exact HI0.out | apply IsS92.alloc | apply IsS92.drewN | apply IsS92.drew | apply IsS92.set_1 | apply IsS92.set_2) | exact HI0.out))) : gb727 ≠ g)); clear HI0; clear HK; clear HB; have HI0 := n0_; have HK := n1_; have HB := n2_; have BK727 := n3_; have GW727 := n4_; have GE727 := n5_; have NB0_727 := n6_; have NB727_0 := n7_; clear n0_ n1_ n2_ n3_ n4_ n5_ n6_ n7_; clear hb hbox hg) | ((with_reducible refine gate_dst (N := 10) rfl ?_); refine Kd.R_lit (Kd.int .i64) _ 2 ?hg (N := 10) ?hd (xs := ([] : List Int)) (inner := []) (ok := fun _ => True) (okp := fun _ => True) ?hr ?hp (fun _ hk => hk) trivial (Below.refl _ _) (Nat.le_refl _) (by simp) ?_; (case hd => rfl); (case hg => rfl); (case hr => first | (go_simp; done) | (go_simp; rfl)); (case hp => exact (Reps.none _ _)); intro v729 w4 ho5 hb hg_ hnew_; clear hg_ hnew_; (first | rw [← Ny728.out] at ho5 | (simp only [Int.reduceToNat] at ho5; rw [← Ny728.out] at ho5)); have n0_ := Aside0.mk (Kd.R_lower ho5 (keep_size (w := w) (g := g) (row := none) (by repeat (first | (with_reducible first | exact HK.out | apply KeepBut.set_ | apply keep_drewN | apply keep_drew | apply keep_alloc | refine keep_far ?_ GW727.out _) | exact HK.out)))); have n1_ := Aside0.mk (IsS92.below (by repeat (first | (with_reducible first | exact HI0.out | apply IsS92.alloc | apply IsS92.drewN | apply IsS92.drew | apply IsS92.set_1 | apply IsS92.set_2 | refine IsS92.far ?_ NB0_727.out _) | exact HI0.out)) hb); have n2_ := Aside0.mk (blk_below (g := gb727) (o := .cells #[.slice none 0 0, .slice none 0 0] 28 (0, 0)) (bk_ BK727) hb); have n3_ := Aside0.mk (KeepBut.trans (by repeat (first | (with_reducible first | exact HK.out | apply KeepBut.set_ | apply keep_drewN | apply keep_drew | apply keep_alloc | refine keep_far ?_ GW727.out _) | exact HK.out)) (KeepBut.of_below hb g none) (.inl rfl)); have n4_ := Aside0.mk (below_step (by repeat (first | (with_reducible first | exact HB.out | apply below_alloc | apply pw_below_drewN | apply below_drew1 | refine below_set ?_ (IsS92.ge HI0.out) | refine below_set ?_ GE727.out) | exact HB.out)) hb); clear HI0; clear BK727; clear HK; clear HB; have HO730 := n0_; have HI0 := n1_; have BK727 := n2_; have HK := n3_; have HB := n4_; clear n0_ n1_ n2_ n3_ n4_; clear hb ho5) | ((with_reducible refine gate_dst (N := 11) rfl ?_); refine Kd.S_lit (Kd.slice 2 (Kd.int .i64)) _ 22 ?hg (N := 11) ?hd (xs := ([] : List (List Int))) (inner := []) (ok := fun _ => True) (okp := fun _ => True) ?hr ?hp (fun _ hk => hk) trivial (Below.refl _ _) (Nat.le_refl _) (by simp) ?_; (case hd => rfl); (case hg => rfl); (case hr => first | (go_simp; done) | (go_simp; rfl)); (case hp => exact (Reps.none _ _)); intro v732 w6 ho7 hb hg_ hnew_; clear hg_ hnew_; (first | rw [← Ny731.out] at ho7 | (simp only [Int.reduceToNat] at ho7; rw [← Ny731.out] at ho7)); have n0_ := Aside0.mk (Kd.R_below (kr_ HO730) hb); have n1_ := Aside0.mk (Kd.S_lower (Kd.S_new' ho7 (Kd.R_lt (kr_ HO730))) (keep_size (w := w) (g := g) (row := none) (by repeat (first | (with_reducible first | exact HK.out | apply KeepBut.set_ | apply keep_drewN | apply keep_drew | apply keep_alloc | refine keep_far ?_ GW727.out _) | exact HK.out)))); have n2_ := Aside0.mk (IsS92.below (by repeat (first | (with_reducible first | exact HI0.out | apply IsS92.alloc | apply IsS92.drewN | apply IsS92.drew | apply IsS92.set_1 | apply IsS92.set_2 | refine IsS92.far ?_ NB0_727.out _) | exact HI0.out)) hb); have n3_ := Aside0.mk (blk_below (g := gb727) (o := .cells #[.slice none 0 0, .slice none 0 0] 28 (0, 0)) (bk_ BK727) hb); have n4_ := Aside0.mk (KeepBut.trans (by repeat (first | (with_reducible first | exact HK.out | apply KeepBut.set_ | apply keep_drewN | apply keep_drew | apply keep_alloc | refine keep_far ?_ GW727.out _) | exact HK.out)) (KeepBut.of_below hb g none) (.inl rfl)); have n5_ := Aside0.mk (below_step (by repeat (first | (with_reducible first | exact HB.out | apply below_alloc | apply pw_below_drewN | apply below_drew1 | refine below_set ?_ (IsS92.ge HI0.out) | refine below_set ?_ GE727.out) | exact HB.out)) hb); clear HO730; clear HI0; clear BK727; clear HK; clear HB; have HO730 := n0_; have HO733 := n1_; have HI0 := n2_; have BK727 := n3_; have HK := n4_; have HB := n5_; clear n0_ n1_ n2_ n3_ n4_ n5_; clear hb ho7; obtain ⟨Ao8, co8, eo8⟩ := Kd.S_slice HO733.out; subst eo8; obtain ⟨Ao9, co9, eo9⟩ := Kd.R_slice HO730.out; subst eo9) | ((with_reducible refine gate_dst (N := 3) rfl ?_); refine box_event ?hg (N := 3) ?hd (cs := #[.slice none 0 0, .slice none 0 0]) (t := 28) ?hr ?_; (case hd => rfl); (case hg => rfl); (case hr => first | (go_simp; done) | (go_simp; rfl)); intro gb734 hg w10 hbox hb; have n0_ := Aside0.mk (Kd.R_below (kr_ HO730) hb); have n1_ := Aside0.mk (Kd.S_below (by (with_reducible repeat (first | apply Kd.S_alloc | apply Kd.S_drewN | apply Kd.S_drew)); exact HO733.out) hb); have n2_ := Aside0.mk (IsS92.below (by repeat (first | (with_reducible first | exact HI0.out | apply IsS92.alloc | apply IsS92.drewN | apply IsS92.drew | apply IsS92.set_1 | apply IsS92.set_2 | refine IsS92.far ?_ NB0_727.out _) | exact HI0.out)) hb); have n3_ := Aside0.mk (blk_below (g := gb727) (o := .cells #[.slice none 0 0, .slice none 0 0] 28 (0, 0)) (bk_ BK727) hb); have n4_ := Aside0.mk (KeepBut.trans (by repeat (first | (with_reducible first | exact HK.out | apply KeepBut.set_ | apply keep_drewN | apply keep_drew | apply keep_alloc | refine keep_far ?_ GW727.out _) | exact HK.out)) (KeepBut.of_below hb g none) (.inl rfl)); have n5_ := Aside0.mk (below_step (by repeat (first | (with_reducible first | exact HB.out | apply below_alloc | apply pw_below_drewN | apply below_drew1 | refine below_set ?_ (IsS92.ge HI0.out) | refine below_set ?_ GE727.out) | exact HB.out)) hb); have n6_ := Aside0.mk (hbox); have n7_ := Aside0.mk ((by rw [hg]; exact (keep_size (w := w) (g := g) (row := none) (by repeat (first | (with_reducible first | exact HK.out | apply KeepBut.set_ | apply keep_drewN | apply keep_drew | apply keep_alloc | refine keep_far ?_ GW727.out _) | exact HK.out))) : w.heap.size ≤ gb734)); have n8_ := Aside0.mk ((Nat.le_trans HW0.out (by rw [hg]; exact (keep_size (w := w) (g := g) (row := none) (by repeat (first | (with_reducible first | exact HK.out | apply KeepBut.set_ | apply keep_drewN | apply keep_drew | apply keep_alloc | refine keep_far ?_ GW727.out _) | exact HK.out))) : w.heap.size ≤ gb734) : w0.heap.size ≤ gb734)); have n9_ := Aside0.mk ((by rw [hg]; exact Nat.ne_of_lt (blk_lt (g := gb727) (o := .cells #[.slice none 0 0, .slice none 0 0] 28 (0, 0)) (bk_ BK727)) : gb727 ≠ gb734)); have n10_ := Aside0.mk ((by rw [hg]; exact Nat.ne_of_gt (blk_lt (g := gb727) (o := .cells #[.slice none 0 0, .slice none 0 0] 28 (0, 0)) (bk_ BK727)) : gb734 ≠ gb727)); have n11_ := Aside0.mk ((by rw [hg]; exact Nat.ne_of_lt (IsS92.lt (show IsS92 w0 _ g s0_0 s0_1 s0_2 from by repeat (first | (with_reducible first | exact HI0.out | apply IsS92.alloc | apply IsS92.drewN | apply IsS92.drew | apply IsS92.set_1 | apply IsS92.set_2 | refine IsS92.far ?_ NB0_727.out _) | exact HI0.out))) : g ≠ gb734)); have n12_ := Aside0.mk ((by rw [hg]; exact Nat.ne_of_gt (IsS92.lt (show IsS92 w0 _ g s0_0 s0_1 s0_2 from by repeat (first | (with_reducible first | exact HI0.out | apply IsS92.alloc | apply IsS92.drewN | apply IsS92.drew | apply IsS92.set_1 | apply IsS92.set_2 | refine IsS92.far ?_ NB0_727.out _) | exact HI0.out))) : gb734 ≠ g)); clear HO730; clear HO733; clear HI0; clear BK727; clear HK; clear HB; have HO730 := n0_; have HO733 := n1_; have HI0 := n2_; have BK727 := n3_; have HK := n4_; have HB := n5_; have BK734 := n6_; have GW734 := n7_; have GE734 := n8_; have NB727_734 := n9_; have NB734_727 := n10_; have NB0_734 := n11_; have NB734_0 := n12_; clear n0_ n1_ n2_ n3_ n4_ n5_ n6_ n7_ n8_ n9_ n10_ n11_ n12_; clear hb hbox hg; have hnb11 := NB734_727.out; have hnc11 := NB727_734.out; have hnb12 := NB734_0.out; have hnc12 := NB0_734.out; have hcz13_0 : w10.cell? ⟨gb734, 0, none⟩ = some (.slice none 0 0) := (blk_cell BK734.out 0).trans rfl; have hcz13_1 : w10.cell? ⟨gb734, 1, none⟩ = some (.slice none 0 0) := (blk_cell BK734.out 1).trans rfl; have hfz13_0 := blk_frozen BK734.out 0; have hfz13_1 := blk_frozen BK734.out 1) | ((with_reducible refine gate_callee (f := 75) rfl ?_); refine goesL_ (some 14) rfl rfl Try.func75 (by kernel_rfl) rfl #[.pointer (some ⟨g, 0, none⟩), .int .i64 6] rfl ln_ ?_; (with_reducible refine (spec_l00Src_pick.calls g s0_0 s0_1 s0_2 6 t735 t736 t737 w0 _ ?side1 ?side2 A2.out).mono ?_); (case side1 => repeat (first | (with_reducible first | exact HI0.out | apply IsS92.alloc | apply IsS92.drewN | apply IsS92.drew | apply IsS92.set_1 | apply IsS92.set_2 | refine IsS92.far ?_ NB0_727.out _ | refine IsS92.far ?_ NB0_734.out _) | exact HI0.out)); (case side2 => repeat (first | (with_reducible first | exact HB.out | apply below_alloc | apply pw_below_drewN | apply below_drew1 | refine below_set ?_ (IsS92.ge HI0.out) | refine below_set ?_ GE727.out | refine below_set ?_ GE734.out) | exact HB.out)); rintro e w14 ⟨rfl, hi, hb, hk⟩; refine ⟨_, rfl, ?_⟩; have n0_ := Aside0.mk (KeepBut.blk hk (g' := gb727) (o := .cells #[.slice none 0 0, .slice none 0 0] 28 (0, 0)) (by (with_reducible repeat (first | refine blk_drewN ?_ _ | refine blk_drew ?_ | refine blk_alloc ?_ _)); refine blk_far ?_ NB727_734.out _; (with_reducible repeat (first | refine blk_drewN ?_ _ | refine blk_drew ?_ | refine blk_alloc ?_ _)); refine blk_far ?_ NB727_734.out _; (with_reducible repeat (first | refine blk_drewN ?_ _ | refine blk_drew ?_ | refine blk_alloc ?_ _)); exact BK727.out) NB727_0.out (by simp)); have n1_ := Aside0.mk (Kd.R_mono (Kd.R_keep (IsS92.apart (show IsS92 w0 _ g s0_0 s0_1 s0_2 from by repeat (first | (with_reducible first | exact HI0.out | apply IsS92.alloc | apply IsS92.drewN | apply IsS92.drew | apply IsS92.set_1 | apply IsS92.set_2 | refine IsS92.far ?_ NB0_727.out _ | refine IsS92.far ?_ NB0_734.out _) | exact HI0.out)) (by (with_reducible repeat (first | apply Kd.R_alloc | apply Kd.R_drewN | apply Kd.R_drew)); exact (Kd.R_mono (Kd.R_far (p := ⟨gb734, 1, none⟩) (Kd.R_far (p := ⟨gb734, 0, none⟩) (Kd.R_types HO730.out BK734.out (by decide)) (fun _ hk => hk.2) (.slice Ao9 y728.length co9)) (fun _ hk => hk.2) (.slice Ao8 y731.length co8)) (fun _ h_ => h_.1))) (by decide)) hk (fun _ h => h.2)) (fun _ h => h.1)); have n2_ := Aside0.mk (Kd.S_mono (Kd.S_keep (IsS92.apartS (show IsS92 w0 _ g s0_0 s0_1 s0_2 from by repeat (first | (with_reducible first | exact HI0.out | apply IsS92.alloc | apply IsS92.drewN | apply IsS92.drew | apply IsS92.set_1 | apply IsS92.set_2 | refine IsS92.far ?_ NB0_727.out _ | refine IsS92.far ?_ NB0_734.out _) | exact HI0.out)) (by (with_reducible repeat (first | apply Kd.S_alloc | apply Kd.S_drewN | apply Kd.S_drew)); exact (Kd.S_mono (Kd.S_far (p := ⟨gb734, 1, none⟩) (Kd.S_far (p := ⟨gb734, 0, none⟩) (Kd.S_types HO733.out BK734.out (by decide)) (fun _ hk => hk.2) (.slice Ao9 y728.length co9)) (fun _ hk => hk.2) (.slice Ao8 y731.length co8)) (fun _ h_ => h_.1))) (by decide)) hk (fun _ h => h.2)) (fun _ h => h.1)); have n3_ := Aside0.mk (KeepBut.blk hk (g' := gb734) (o := .cells #[.slice Ao9 y728.length co9, .slice Ao8 y731.length co8] 28 (0, 0)) (by (with_reducible repeat (first | refine blk_drewN ?_ _ | refine blk_drew ?_ | refine blk_alloc ?_ _)); refine blk_put (cs := #[.slice Ao9 y728.length co9, .slice none 0 0]) ?_ 1 _ rfl; (with_reducible repeat (first | refine blk_drewN ?_ _ | refine blk_drew ?_ | refine blk_alloc ?_ _)); refine blk_put (cs := #[.slice none 0 0, .slice none 0 0]) ?_ 0 _ rfl; (with_reducible repeat (first | refine blk_drewN ?_ _ | refine blk_drew ?_ | refine blk_alloc ?_ _)); exact BK734.out) NB734_0.out (by simp)); have n4_ := Aside0.mk (KeepBut.trans (by repeat (first | (with_reducible first | exact HK.out | apply KeepBut.set_ | apply keep_drewN | apply keep_drew | apply keep_alloc | refine keep_far ?_ GW727.out _ | refine keep_far ?_ GW734.out _) | exact HK.out)) hk (.inl rfl)); have n5_ := Aside0.mk (hb); have n6_ := Aside0.mk (hi); clear BK727; clear HO730; clear HO733; clear BK734; clear HK; clear HB; clear HI0; have BK727 := n0_; have HO730 := n1_; have HO733 := n2_; have BK734 := n3_; have HK := n4_; have HB := n5_; have HI0 := n6_; clear n0_ n1_ n2_ n3_ n4_ n5_ n6_; (try clear hb); (try clear hb2); (try clear hk); (try clear hi)))
 go_loopg [5] k (fun kq v5 w' => ∃ (x5_1 : Int) (x1001_1 : Int) (x1002_1 : Int) (x735000_1 : List Int) (u735000 : Value), v5 = .int .i64 x5_1 ∧ Aside0 (spec_l20Draw.l0 kq (wrap64 (1 + t735)) x5_1 s0_0 x1001_1 x1002_1 x735000_1 y731 = some (r1, r2, r3, r4)) ∧ Aside0 (kq ≤ k) ∧ Aside0 (Kd.R (Kd.int .i64) 2 w' w.heap.size (fun _ => True) u735000 x735000_1) ∧ Aside0 (Kd.S (Kd.slice 2 (Kd.int .i64)) 22 w' w.heap.size (fun k_ => some k_ ≠ (u735000 : Value).ownBlock) (.slice Ao8 y731.length co8) y731) ∧ Aside0 (w'.heap[gb727]? = some (.cells #[(.slice none 0 0), (.slice none 0 0)] 28 (0, 0))) ∧ Aside0 (w'.heap[gb734]? = some (.cells #[u735000, (.slice Ao8 y731.length co8)] 28 (0, 0))) ∧ Aside0 (IsS92 w0 w' g s0_0 x1001_1 x1002_1) ∧ Aside0 (KeepBut w w' g none) ∧ Aside0 (Below w0.heap.size w0 w'))
 case atStart => exact ⟨(0), (t736), (t737), (y728), (.slice Ao9 y728.length co9), (by first | rfl | (simp; done) | (simp [*]; done)), H', ⟨Nat.le_refl _⟩, ⟨by (with_reducible repeat (first | apply Kd.R_alloc | apply Kd.R_drewN | apply Kd.R_drew)); exact HO730.out⟩, ⟨by (with_reducible repeat (first | apply Kd.S_alloc | apply Kd.S_drewN | apply Kd.S_drew)); exact Kd.S_mono HO733.out (fun _ hk => hk.2)⟩, ⟨by (with_reducible repeat (first | refine blk_drewN ?_ _ | refine blk_drew ?_ | refine blk_alloc ?_ _)); exact BK727.out⟩, ⟨by (with_reducible repeat (first | refine blk_drewN ?_ _ | refine blk_drew ?_ | refine blk_alloc ?_ _)); exact BK734.out⟩, ⟨by repeat (first | (with_reducible first | exact HI0.out | apply IsS92.alloc | apply IsS92.drewN | apply IsS92.drew | apply IsS92.set_1 | apply IsS92.set_2 | refine IsS92.far ?_ NB0_727.out _ | refine IsS92.far ?_ NB0_734.out _) | exact HI0.out)⟩, ⟨by repeat (first | (with_reducible first | exact HK.out | apply KeepBut.set_ | apply keep_drewN | apply keep_drew | apply keep_alloc | refine keep_far ?_ GW727.out _ | refine keep_far ?_ GW734.out _) | exact HK.out)⟩, ⟨by repeat (first | (with_reducible first | exact HB.out | apply below_alloc | apply pw_below_drewN | apply below_drew1 | refine below_set ?_ (IsS92.ge HI0.out) | refine below_set ?_ GE727.out | refine below_set ?_ GE734.out) | exact HB.out)⟩⟩
 case round =>
  clear H'
  try clear c1
  try clear p2
  try clear p6
  try clear c7
  try clear c11
  try clear c12
  try clear hcz13_0
  try clear hcz13_1
  try clear hfz13_0
  try clear hfz13_1
  obtain ⟨x5_1, x1001_1, x1002_1, x735000_1, u735000, rfl, HA, HK1, HO_735000, HO_735001, BK727, BK734, HI0, HK, HB⟩ := hrel
  cases gk with
  | zero => exact absurd HA.out (by simp [spec_l20Draw.l0])
  | succ k1 =>
   have H := HA.out
   clear HA
   simp only [spec_l20Draw.l0] at H
   by_cases c15 : x5_1 < (wrap64 (1 + t735))
   ·rw [if_pos c15] at H
    have c15b0 : decide (x5_1 < (wrap64 (1 + t735))) = true := decide_eq_true c15
    clear c15
    replace H := Option.bind_eq_some_iff.mp H
    obtain ⟨⟨t738, t739, t740⟩, A160, H⟩ := H
    replace H : (if t738 = true then (if (wrap64 (1 + t735)) > 1 then ((spec_l00Src_pick.f s0_0 t739 t740 (wrap64 ((wrap64 (1 + t735)) - 1))).bind fun bt741 => (if (wrap64 (1 + t735)) = 0 then (none) else (if x735000_1.length < 17592186044416 then (spec_l20Draw.l0 k1 (wrap64 (1 + t735)) (wrap64 (x5_1 + 1)) s0_0 bt741.2.1 bt741.2.2 (x735000_1 ++ [Int.tmod (wrap64 ((wrap64 (x5_1 + 1)) + bt741.1)) (wrap64 (1 + t735))]) y731) else (none)))) else (if x735000_1.length < 17592186044416 then (spec_l20Draw.l0 k1 (wrap64 (1 + t735)) (wrap64 (x5_1 + 1)) s0_0 t739 t740 (x735000_1 ++ [(-1)]) y731) else (none))) else (if x735000_1.length < 17592186044416 then (spec_l20Draw.l0 k1 (wrap64 (1 + t735)) (wrap64 (x5_1 + 1)) s0_0 t739 t740 (x735000_1 ++ [(-1)]) y731) else (none))) = some (r1, r2, r3, r4) := H
    have A16 := Aside0.mk A160
    clear A160
    by_cases c17 : t738 = true
    ·subst c17
     have H1 : (if (wrap64 (1 + t735)) > 1 then ((spec_l00Src_pick.f s0_0 t739 t740 (wrap64 ((wrap64 (1 + t735)) - 1))).bind fun bt741 => (if (wrap64 (1 + t735)) = 0 then (none) else (if x735000_1.length < 17592186044416 then (spec_l20Draw.l0 k1 (wrap64 (1 + t735)) (wrap64 (x5_1 + 1)) s0_0 bt741.2.1 bt741.2.2 (x735000_1 ++ [Int.tmod (wrap64 ((wrap64 (x5_1 + 1)) + bt741.1)) (wrap64 (1 + t735))]) y731) else (none)))) else (if x735000_1.length < 17592186044416 then (spec_l20Draw.l0 k1 (wrap64 (1 + t735)) (wrap64 (x5_1 + 1)) s0_0 t739 t740 (x735000_1 ++ [(-1)]) y731) else (none))) = some (r1, r2, r3, r4) := by rw [if_pos rfl] at H; exact H
     clear H
     have H := H1
     clear H1
     by_cases c18 : (wrap64 (1 + t735)) > 1
     ·rw [if_pos c18] at H
      have c18b0 : decide (1 < (wrap64 (1 + t735))) = true := decide_eq_true c18
      clear c18
      replace H := Option.bind_eq_some_iff.mp H
      obtain ⟨⟨t741, t742, t743⟩, A190, H⟩ := H
      replace H : (if (wrap64 (1 + t735)) = 0 then (none) else (if x735000_1.length < 17592186044416 then (spec_l20Draw.l0 k1 (wrap64 (1 + t735)) (wrap64 (x5_1 + 1)) s0_0 t742 t743 (x735000_1 ++ [Int.tmod (wrap64 ((wrap64 (x5_1 + 1)) + t741)) (wrap64 (1 + t735))]) y731) else (none))) = some (r1, r2, r3, r4) := H
      have A19 := Aside0.mk A190
      clear A190
      by_cases c20 : (wrap64 (1 + t735)) = 0
      ·rw [if_pos c20] at H
       exact absurd H (by simp)
      ·rw [if_neg c20] at H
       have c20b0 : ((wrap64 (1 + t735)) == 0) = false := beq_eq_false_iff_ne.mpr c20
       have c20b1 : ((wrap64 (1 + t735)) != 0) = true := bne_iff_ne.mpr c20
       by_cases c21 : x735000_1.length < 17592186044416
       ·rw [if_pos c21] at H
        have LMc21 := Aside0.mk c21
        clear c21
        obtain ⟨y744, hy744⟩ : ∃ y_ : List Int, y_ = (x735000_1 ++ [Int.tmod (wrap64 ((wrap64 (x5_1 + 1)) + t741)) (wrap64 (1 + t735))]) := ⟨_, rfl⟩
        replace H : (spec_l20Draw.l0 k1 (wrap64 (1 + t735)) (wrap64 (x5_1 + 1)) s0_0 t742 t743 y744 y731) = some (r1, r2, r3, r4) := by first | (rw [hy744]; with_reducible exact H) | (have H2_ := (Option.bind_some _ _).symm.trans H; rw [hy744]; with_reducible exact H2_) | (have H2_ := (Option.bind_some _ _).symm.trans H; with_reducible exact H2_) | with_reducible exact H | (rw [hy744]; exact H) | exact H
        have Ny744 := Aside0.mk hy744
        clear hy744
        have H' := Aside0.mk H
        clear H
        go_wp2_with (first | ((with_reducible refine gate_callee (f := 80) rfl ?_); refine goesL_ (some 22) rfl rfl Try.func80 (by kernel_rfl) rfl #[.pointer (some ⟨g, 0, none⟩), .int .i64 3] rfl ln_ ?_; (with_reducible refine (spec_l00Src_one.calls g s0_0 x1001_1 x1002_1 3 true t739 t740 w0 _ ?side1 ?side2 A16.out).mono ?_); (case side1 => repeat (first | (with_reducible first | exact HI0.out | apply IsS92.alloc | apply IsS92.drewN | apply IsS92.drew | apply IsS92.set_1 | apply IsS92.set_2 | refine IsS92.far ?_ NB0_727.out _ | refine IsS92.far ?_ NB0_734.out _) | exact HI0.out)); (case side2 => repeat (first | (with_reducible first | exact HB.out | apply below_alloc | apply pw_below_drewN | apply below_drew1 | refine below_set ?_ (IsS92.ge HI0.out) | refine below_set ?_ GE727.out | refine below_set ?_ GE734.out) | exact HB.out)); rintro e w22 ⟨rfl, hi, hb, hk⟩; refine ⟨_, rfl, ?_⟩; have n0_ := Aside0.mk (Kd.R_mono (Kd.R_keep (IsS92.apart (show IsS92 w0 _ g s0_0 x1001_1 x1002_1 from by repeat (first | (with_reducible first | exact HI0.out | apply IsS92.alloc | apply IsS92.drewN | apply IsS92.drew | apply IsS92.set_1 | apply IsS92.set_2 | refine IsS92.far ?_ NB0_727.out _ | refine IsS92.far ?_ NB0_734.out _) | exact HI0.out)) (kr_ HO_735000) (by decide)) hk (fun _ h => h.2)) (fun _ h => h.1)); have n1_ := Aside0.mk (Kd.S_mono (Kd.S_keep (IsS92.apartS (show IsS92 w0 _ g s0_0 x1001_1 x1002_1 from by repeat (first | (with_reducible first | exact HI0.out | apply IsS92.alloc | apply IsS92.drewN | apply IsS92.drew | apply IsS92.set_1 | apply IsS92.set_2 | refine IsS92.far ?_ NB0_727.out _ | refine IsS92.far ?_ NB0_734.out _) | exact HI0.out)) (by (with_reducible repeat (first | apply Kd.S_alloc | apply Kd.S_drewN | apply Kd.S_drew)); exact HO_735001.out) (by decide)) hk (fun _ h => h.2)) (fun _ h => h.1)); have n2_ := Aside0.mk (KeepBut.blk hk (g' := gb727) (o := .cells #[.slice none 0 0, .slice none 0 0] 28 (0, 0)) (bk_ BK727) NB727_0.out (by simp)); have n3_ := Aside0.mk (KeepBut.blk hk (g' := gb734) (o := .cells #[u735000, .slice Ao8 y731.length co8] 28 (0, 0)) (bk_ BK734) NB734_0.out (by simp)); have n4_ := Aside0.mk (KeepBut.trans (by repeat (first | (with_reducible first | exact HK.out | apply KeepBut.set_ | apply keep_drewN | apply keep_drew | apply keep_alloc | refine keep_far ?_ GW727.out _ | refine keep_far ?_ GW734.out _) | exact HK.out)) hk (.inl rfl)); have n5_ := Aside0.mk (hb); have n6_ := Aside0.mk (hi); clear HO_735000; clear HO_735001; clear BK727; clear BK734; clear HK; clear HB; clear HI0; have HO_735000 := n0_; have HO_735001 := n1_; have BK727 := n2_; have BK734 := n3_; have HK := n4_; have HB := n5_; have HI0 := n6_; clear n0_ n1_ n2_ n3_ n4_ n5_ n6_; (try clear hb); (try clear hb2); (try clear hk); (try clear hi)) | ((with_reducible refine gate_callee (f := 75) rfl ?_); refine goesL_ (some 32) rfl rfl Try.func75 (by kernel_rfl) rfl #[.pointer (some ⟨g, 0, none⟩), .int .i64 (wrap64 ((wrap64 (1 + t735)) - 1))] rfl ln_ ?_; (with_reducible refine (spec_l00Src_pick.calls g s0_0 t739 t740 (wrap64 ((wrap64 (1 + t735)) - 1)) t741 t742 t743 w0 _ ?side1 ?side2 A19.out).mono ?_); (case side1 => repeat (first | (with_reducible first | exact HI0.out | apply IsS92.alloc | apply IsS92.drewN | apply IsS92.drew | apply IsS92.set_1 | apply IsS92.set_2 | refine IsS92.far ?_ NB0_727.out _ | refine IsS92.far ?_ NB0_734.out _) | exact HI0.out)); (case side2 => repeat (first | (with_reducible first | exact HB.out | apply below_alloc | apply pw_below_drewN | apply below_drew1 | refine below_set ?_ (IsS92.ge HI0.out) | refine below_set ?_ GE727.out | refine below_set ?_ GE734.out) | exact HB.out)); rintro e w23 ⟨rfl, hi, hb, hk⟩; refine ⟨_, rfl, ?_⟩; have n0_ := Aside0.mk (Kd.R_mono (Kd.R_keep (IsS92.apart (show IsS92 w0 _ g s0_0 t739 t740 from by repeat (first | (with_reducible first | exact HI0.out | apply IsS92.alloc | apply IsS92.drewN | apply IsS92.drew | apply IsS92.set_1 | apply IsS92.set_2 | refine IsS92.far ?_ NB0_727.out _ | refine IsS92.far ?_ NB0_734.out _) | exact HI0.out)) (kr_ HO_735000) (by decide)) hk (fun _ h => h.2)) (fun _ h => h.1)); have n1_ := Aside0.mk (Kd.S_mono (Kd.S_keep (IsS92.apartS (show IsS92 w0 _ g s0_0 t739 t740 from by repeat (first | (with_reducible first | exact HI0.out | apply IsS92.alloc | apply IsS92.drewN | apply IsS92.drew | apply IsS92.set_1 | apply IsS92.set_2 | refine IsS92.far ?_ NB0_727.out _ | refine IsS92.far ?_ NB0_734.out _) | exact HI0.out)) (by (with_reducible repeat (first | apply Kd.S_alloc | apply Kd.S_drewN | apply Kd.S_drew)); exact HO_735001.out) (by decide)) hk (fun _ h => h.2)) (fun _ h => h.1)); have n2_ := Aside0.mk (KeepBut.blk hk (g' := gb727) (o := .cells #[.slice none 0 0, .slice none 0 0] 28 (0, 0)) (bk_ BK727) NB727_0.out (by simp)); have n3_ := Aside0.mk (KeepBut.blk hk (g' := gb734) (o := .cells #[u735000, .slice Ao8 y731.length co8] 28 (0, 0)) (bk_ BK734) NB734_0.out (by simp)); have n4_ := Aside0.mk (KeepBut.trans (by repeat (first | (with_reducible first | exact HK.out | apply KeepBut.set_ | apply keep_drewN | apply keep_drew | apply keep_alloc | refine keep_far ?_ GW727.out _ | refine keep_far ?_ GW734.out _) | exact HK.out)) hk (.inl rfl)); have n5_ := Aside0.mk (hb); have n6_ := Aside0.mk (hi); clear HO_735000; clear HO_735001; clear BK727; clear BK734; clear HK; clear HB; clear HI0; have HO_735000 := n0_; have HO_735001 := n1_; have BK727 := n2_; have BK734 := n3_; have HK := n4_; have HB := n5_; have HI0 := n6_; clear n0_ n1_ n2_ n3_ n4_ n5_ n6_; (try clear hb); (try clear hb2); (try clear hk); (try clear hi); have hnb24 := NB734_727.out; have hnc24 := NB727_734.out; have hnb25 := NB734_0.out; have hnc25 := NB0_734.out; have hcz26_0 : w23.cell? ⟨gb734, 0, none⟩ = some (u735000) := (blk_cell BK734.out 0).trans rfl; have hcz26_1 : w23.cell? ⟨gb734, 1, none⟩ = some (.slice Ao8 y731.length co8) := (blk_cell BK734.out 1).trans rfl; have hfz26_0 := blk_frozen BK734.out 0; have hfz26_1 := blk_frozen BK734.out 1) | ((with_reducible refine gate_builtin (b := .append) (xs := #[.tmp 37, .tmp 39]) rfl ?_); at_builtin; refine Kd.R_append (Kd.int .i64) w.heap.size rfl (.tmp 37) (.tmp 39) 22 2 (.int .i64 0) 8 rfl Try.underlying22 info2 rfl (by decide) (by omega) u735000 x735000_1 (Int.tmod (wrap64 ((wrap64 (x5_1 + 1)) + t741)) (wrap64 (1 + t735))) [.int .i64 (Int.tmod (wrap64 ((wrap64 (x5_1 + 1)) + t741)) (wrap64 (1 + t735)))] (fun _ => True) (fun _ => False) rfl rfl ?aP (fun _ hk => hk.elim) ?aF ?aO (Below.refl _ _) ?aS ?aL ?_; (case aP => exact rfl); (case aF => exact (fun _ _ => trivial)); (case aO => exact (kr_ HO_735000)); (case aS => exact (keep_size (w := w) (g := g) (row := none) (by repeat (first | (with_reducible first | exact HK.out | apply KeepBut.set_ | apply keep_drewN | apply keep_drew | apply keep_alloc | refine keep_far ?_ GW727.out _ | refine keep_far ?_ GW734.out _) | exact HK.out)))); (case aL => have := LMc21.out; omega); intro v745 w27 ho hb hg hat; rw [← Ny744.out] at ho; have n0_ := Aside0.mk (Kd.S_after (ok := (fun _ => True)) (by (with_reducible repeat (first | apply Kd.S_alloc | apply Kd.S_drewN | apply Kd.S_drew)); exact Kd.S_mono HO_735001.out (fun _ hk => ⟨trivial, hk⟩)) hg hat); have n1_ := Aside0.mk (blk_grown (g := gb727) (o := .cells #[.slice none 0 0, .slice none 0 0] 28 (0, 0)) (bk_ BK727) hg (Kd.R_ne HO_735000.out BK727.out (by decide))); have n2_ := Aside0.mk (blk_grown (g := gb734) (o := .cells #[u735000, .slice Ao8 y731.length co8] 28 (0, 0)) (bk_ BK734) hg (Kd.R_ne HO_735000.out BK734.out (by decide))); have n3_ := Aside0.mk (IsS92.grown (by repeat (first | (with_reducible first | exact HI0.out | apply IsS92.alloc | apply IsS92.drewN | apply IsS92.drew | apply IsS92.set_1 | apply IsS92.set_2 | refine IsS92.far ?_ NB0_727.out _ | refine IsS92.far ?_ NB0_734.out _) | exact HI0.out)) hg (IsS92.own_ne HI0.out HO_735000.out (by decide))); have n4_ := Aside0.mk (below_weaken (by repeat (first | (with_reducible first | exact HB.out | apply below_alloc | apply pw_below_drewN | apply below_drew1 | refine below_set ?_ (IsS92.ge HI0.out) | refine below_set ?_ GE727.out | refine below_set ?_ GE734.out) | exact HB.out)) HL.out hb); have n5_ := Aside0.mk (KeepBut.trans (by repeat (first | (with_reducible first | exact HK.out | apply KeepBut.set_ | apply keep_drewN | apply keep_drew | apply keep_alloc | refine keep_far ?_ GW727.out _ | refine keep_far ?_ GW734.out _) | exact HK.out)) (KeepBut.of_grown hg g) (Kd.R_base2 HO_735000.out)); have n6_ := Aside0.mk (ho); clear HO_735001; clear BK727; clear BK734; clear HI0; clear HB; clear HK; clear HO_735000; have HO_735001 := n0_; have BK727 := n1_; have BK734 := n2_; have HI0 := n3_; have HB := n4_; have HK := n5_; have HO746 := n6_; clear n0_ n1_ n2_ n3_ n4_ n5_ n6_; clear ho hb hg hat; obtain ⟨Ao28, co28, eo28⟩ := Kd.R_slice HO746.out; subst eo28; have hcz29_0 : w27.cell? ⟨gb734, 0, none⟩ = some (u735000) := (blk_cell BK734.out 0).trans rfl; have hcz29_1 : w27.cell? ⟨gb734, 1, none⟩ = some (.slice Ao8 y731.length co8) := (blk_cell BK734.out 1).trans rfl; have hfz29_0 := blk_frozen BK734.out 0; have hfz29_1 := blk_frozen BK734.out 1))
        go_roundg k1
        case measure => have := HK1.out; omega
        case rel => exact ⟨(wrap64 (x5_1 + 1)), (t742), (t743), (y744), (.slice Ao28 y744.length co28), (by first | rfl | (simp; done) | (simp [*]; done)), H', ⟨by have := HK1.out; omega⟩, ⟨by (with_reducible repeat (first | apply Kd.R_alloc | apply Kd.R_drewN | apply Kd.R_drew)); exact Kd.R_mono (Kd.R_far (p := ⟨gb734, 0, none⟩) (Kd.R_types HO746.out BK734.out (by decide)) (fun _ hk => hk.2) (.slice Ao28 y744.length co28)) (fun _ hk => trivial)⟩, ⟨by (with_reducible repeat (first | apply Kd.S_alloc | apply Kd.S_drewN | apply Kd.S_drew)); exact Kd.S_mono (Kd.S_far (p := ⟨gb734, 0, none⟩) (Kd.S_types HO_735001.out BK734.out (by decide)) (fun _ hk => hk.2) (.slice Ao28 y744.length co28)) (fun _ hk => hk.1.2)⟩, ⟨by (with_reducible repeat (first | refine blk_drewN ?_ _ | refine blk_drew ?_ | refine blk_alloc ?_ _)); refine blk_far ?_ NB727_734.out _; (with_reducible repeat (first | refine blk_drewN ?_ _ | refine blk_drew ?_ | refine blk_alloc ?_ _)); exact BK727.out⟩, ⟨by (with_reducible repeat (first | refine blk_drewN ?_ _ | refine blk_drew ?_ | refine blk_alloc ?_ _)); refine blk_put (cs := #[u735000, .slice Ao8 y731.length co8]) ?_ 0 _ rfl; (with_reducible repeat (first | refine blk_drewN ?_ _ | refine blk_drew ?_ | refine blk_alloc ?_ _)); exact BK734.out⟩, ⟨by repeat (first | (with_reducible first | exact HI0.out | apply IsS92.alloc | apply IsS92.drewN | apply IsS92.drew | apply IsS92.set_1 | apply IsS92.set_2 | refine IsS92.far ?_ NB0_727.out _ | refine IsS92.far ?_ NB0_734.out _) | exact HI0.out)⟩, ⟨by repeat (first | (with_reducible first | exact HK.out | apply KeepBut.set_ | apply keep_drewN | apply keep_drew | apply keep_alloc | refine keep_far ?_ GW727.out _ | refine keep_far ?_ GW734.out _) | exact HK.out)⟩, ⟨by repeat (first | (with_reducible first | exact HB.out | apply below_alloc | apply pw_below_drewN | apply below_drew1 | refine below_set ?_ (IsS92.ge HI0.out) | refine below_set ?_ GE727.out | refine below_set ?_ GE734.out) | exact HB.out)⟩⟩
       ·rw [if_neg c21] at H
        exact absurd H (by simp)
     ·rw [if_neg c18] at H
      have c18b0 : decide (1 < (wrap64 (1 + t735))) = false := decide_eq_false c18
      clear c18
      by_cases c30 : x735000_1.length < 17592186044416
      ·rw [if_pos c30] at H
       have LMc30 := Aside0.mk c30
       clear c30
       obtain ⟨y747, hy747⟩ : ∃ y_ : List Int, y_ = (x735000_1 ++ [(-1)]) := ⟨_, rfl⟩
       replace H : (spec_l20Draw.l0 k1 (wrap64 (1 + t735)) (wrap64 (x5_1 + 1)) s0_0 t739 t740 y747 y731) = some (r1, r2, r3, r4) := by first | (rw [hy747]; with_reducible exact H) | (have H2_ := (Option.bind_some _ _).symm.trans H; rw [hy747]; with_reducible exact H2_) | (have H2_ := (Option.bind_some _ _).symm.trans H; with_reducible exact H2_) | with_reducible exact H | (rw [hy747]; exact H) | exact H
       have Ny747 := Aside0.mk hy747
       clear hy747
       have H' := Aside0.mk H
       clear H
       go_wp2_with (first | ((with_reducible refine gate_callee (f := 80) rfl ?_); refine goesL_ (some 22) rfl rfl Try.func80 (by kernel_rfl) rfl #[.pointer (some ⟨g, 0, none⟩), .int .i64 3] rfl ln_ ?_; (with_reducible refine (spec_l00Src_one.calls g s0_0 x1001_1 x1002_1 3 true t739 t740 w0 _ ?side1 ?side2 A16.out).mono ?_); (case side1 => repeat (first | (with_reducible first | exact HI0.out | apply IsS92.alloc | apply IsS92.drewN | apply IsS92.drew | apply IsS92.set_1 | apply IsS92.set_2 | refine IsS92.far ?_ NB0_727.out _ | refine IsS92.far ?_ NB0_734.out _) | exact HI0.out)); (case side2 => repeat (first | (with_reducible first | exact HB.out | apply below_alloc | apply pw_below_drewN | apply below_drew1 | refine below_set ?_ (IsS92.ge HI0.out) | refine below_set ?_ GE727.out | refine below_set ?_ GE734.out) | exact HB.out)); rintro e w31 ⟨rfl, hi, hb, hk⟩; refine ⟨_, rfl, ?_⟩; have n0_ := Aside0.mk (Kd.R_mono (Kd.R_keep (IsS92.apart (show IsS92 w0 _ g s0_0 x1001_1 x1002_1 from by repeat (first | (with_reducible first | exact HI0.out | apply IsS92.alloc | apply IsS92.drewN | apply IsS92.drew | apply IsS92.set_1 | apply IsS92.set_2 | refine IsS92.far ?_ NB0_727.out _ | refine IsS92.far ?_ NB0_734.out _) | exact HI0.out)) (kr_ HO_735000) (by decide)) hk (fun _ h => h.2)) (fun _ h => h.1)); have n1_ := Aside0.mk (Kd.S_mono (Kd.S_keep (IsS92.apartS (show IsS92 w0 _ g s0_0 x1001_1 x1002_1 from by repeat (first | (with_reducible first | exact HI0.out | apply IsS92.alloc | apply IsS92.drewN | apply IsS92.drew | apply IsS92.set_1 | apply IsS92.set_2 | refine IsS92.far ?_ NB0_727.out _ | refine IsS92.far ?_ NB0_734.out _) | exact HI0.out)) (by (with_reducible repeat (first | apply Kd.S_alloc | apply Kd.S_drewN | apply Kd.S_drew)); exact HO_735001.out) (by decide)) hk (fun _ h => h.2)) (fun _ h => h.1)); have n2_ := Aside0.mk (KeepBut.blk hk (g' := gb727) (o := .cells #[.slice none 0 0, .slice none 0 0] 28 (0, 0)) (bk_ BK727) NB727_0.out (by simp)); have n3_ := Aside0.mk (KeepBut.blk hk (g' := gb734) (o := .cells #[u735000, .slice Ao8 y731.length co8] 28 (0, 0)) (bk_ BK734) NB734_0.out (by simp)); have n4_ := Aside0.mk (KeepBut.trans (by repeat (first | (with_reducible first | exact HK.out | apply KeepBut.set_ | apply keep_drewN | apply keep_drew | apply keep_alloc | refine keep_far ?_ GW727.out _ | refine keep_far ?_ GW734.out _) | exact HK.out)) hk (.inl rfl)); have n5_ := Aside0.mk (hb); have n6_ := Aside0.mk (hi); clear HO_735000; clear HO_735001; clear BK727; clear BK734; clear HK; clear HB; clear HI0; have HO_735000 := n0_; have HO_735001 := n1_; have BK727 := n2_; have BK734 := n3_; have HK := n4_; have HB := n5_; have HI0 := n6_; clear n0_ n1_ n2_ n3_ n4_ n5_ n6_; (try clear hb); (try clear hb2); (try clear hk); (try clear hi); have hnb32 := NB734_727.out; have hnc32 := NB727_734.out; have hnb33 := NB734_0.out; have hnc33 := NB0_734.out; have hcz34_0 : w31.cell? ⟨gb734, 0, none⟩ = some (u735000) := (blk_cell BK734.out 0).trans rfl; have hcz34_1 : w31.cell? ⟨gb734, 1, none⟩ = some (.slice Ao8 y731.length co8) := (blk_cell BK734.out 1).trans rfl; have hfz34_0 := blk_frozen BK734.out 0; have hfz34_1 := blk_frozen BK734.out 1) | ((with_reducible refine gate_builtin (b := .append) (xs := #[.tmp 37, .tmp 39]) rfl ?_); at_builtin; refine Kd.R_append (Kd.int .i64) w.heap.size rfl (.tmp 37) (.tmp 39) 22 2 (.int .i64 0) 8 rfl Try.underlying22 info2 rfl (by decide) (by omega) u735000 x735000_1 (-1) [.int .i64 (-1)] (fun _ => True) (fun _ => False) rfl rfl ?aP (fun _ hk => hk.elim) ?aF ?aO (Below.refl _ _) ?aS ?aL ?_; (case aP => exact rfl); (case aF => exact (fun _ _ => trivial)); (case aO => exact (kr_ HO_735000)); (case aS => exact (keep_size (w := w) (g := g) (row := none) (by repeat (first | (with_reducible first | exact HK.out | apply KeepBut.set_ | apply keep_drewN | apply keep_drew | apply keep_alloc | refine keep_far ?_ GW727.out _ | refine keep_far ?_ GW734.out _) | exact HK.out)))); (case aL => have := LMc30.out; omega); intro v748 w35 ho hb hg hat; rw [← Ny747.out] at ho; have n0_ := Aside0.mk (Kd.S_after (ok := (fun _ => True)) (by (with_reducible repeat (first | apply Kd.S_alloc | apply Kd.S_drewN | apply Kd.S_drew)); exact Kd.S_mono HO_735001.out (fun _ hk => ⟨trivial, hk⟩)) hg hat); have n1_ := Aside0.mk (blk_grown (g := gb727) (o := .cells #[.slice none 0 0, .slice none 0 0] 28 (0, 0)) (bk_ BK727) hg (Kd.R_ne HO_735000.out BK727.out (by decide))); have n2_ := Aside0.mk (blk_grown (g := gb734) (o := .cells #[u735000, .slice Ao8 y731.length co8] 28 (0, 0)) (bk_ BK734) hg (Kd.R_ne HO_735000.out BK734.out (by decide))); have n3_ := Aside0.mk (IsS92.grown (by repeat (first | (with_reducible first | exact HI0.out | apply IsS92.alloc | apply IsS92.drewN | apply IsS92.drew | apply IsS92.set_1 | apply IsS92.set_2 | refine IsS92.far ?_ NB0_727.out _ | refine IsS92.far ?_ NB0_734.out _) | exact HI0.out)) hg (IsS92.own_ne HI0.out HO_735000.out (by decide))); have n4_ := Aside0.mk (below_weaken (by repeat (first | (with_reducible first | exact HB.out | apply below_alloc | apply pw_below_drewN | apply below_drew1 | refine below_set ?_ (IsS92.ge HI0.out) | refine below_set ?_ GE727.out | refine below_set ?_ GE734.out) | exact HB.out)) HL.out hb); have n5_ := Aside0.mk (KeepBut.trans (by repeat (first | (with_reducible first | exact HK.out | apply KeepBut.set_ | apply keep_drewN | apply keep_drew | apply keep_alloc | refine keep_far ?_ GW727.out _ | refine keep_far ?_ GW734.out _) | exact HK.out)) (KeepBut.of_grown hg g) (Kd.R_base2 HO_735000.out)); have n6_ := Aside0.mk (ho); clear HO_735001; clear BK727; clear BK734; clear HI0; clear HB; clear HK; clear HO_735000; have HO_735001 := n0_; have BK727 := n1_; have BK734 := n2_; have HI0 := n3_; have HB := n4_; have HK := n5_; have HO749 := n6_; clear n0_ n1_ n2_ n3_ n4_ n5_ n6_; clear ho hb hg hat; obtain ⟨Ao36, co36, eo36⟩ := Kd.R_slice HO749.out; subst eo36; have hcz37_0 : w35.cell? ⟨gb734, 0, none⟩ = some (u735000) := (blk_cell BK734.out 0).trans rfl; have hcz37_1 : w35.cell? ⟨gb734, 1, none⟩ = some (.slice Ao8 y731.length co8) := (blk_cell BK734.out 1).trans rfl; have hfz37_0 := blk_frozen BK734.out 0; have hfz37_1 := blk_frozen BK734.out 1))
       go_roundg k1
       case measure => have := HK1.out; omega
       case rel => exact ⟨(wrap64 (x5_1 + 1)), (t739), (t740), (y747), (.slice Ao36 y747.length co36), (by first | rfl | (simp; done) | (simp [*]; done)), H', ⟨by have := HK1.out; omega⟩, ⟨by (with_reducible repeat (first | apply Kd.R_alloc | apply Kd.R_drewN | apply Kd.R_drew)); exact Kd.R_mono (Kd.R_far (p := ⟨gb734, 0, none⟩) (Kd.R_types HO749.out BK734.out (by decide)) (fun _ hk => hk.2) (.slice Ao36 y747.length co36)) (fun _ hk => trivial)⟩, ⟨by (with_reducible repeat (first | apply Kd.S_alloc | apply Kd.S_drewN | apply Kd.S_drew)); exact Kd.S_mono (Kd.S_far (p := ⟨gb734, 0, none⟩) (Kd.S_types HO_735001.out BK734.out (by decide)) (fun _ hk => hk.2) (.slice Ao36 y747.length co36)) (fun _ hk => hk.1.2)⟩, ⟨by (with_reducible repeat (first | refine blk_drewN ?_ _ | refine blk_drew ?_ | refine blk_alloc ?_ _)); refine blk_far ?_ NB727_734.out _; (with_reducible repeat (first | refine blk_drewN ?_ _ | refine blk_drew ?_ | refine blk_alloc ?_ _)); exact BK727.out⟩, ⟨by (with_reducible repeat (first | refine blk_drewN ?_ _ | refine blk_drew ?_ | refine blk_alloc ?_ _)); refine blk_put (cs := #[u735000, .slice Ao8 y731.length co8]) ?_ 0 _ rfl; (with_reducible repeat (first | refine blk_drewN ?_ _ | refine blk_drew ?_ | refine blk_alloc ?_ _)); exact BK734.out⟩, ⟨by repeat (first | (with_reducible first | exact HI0.out | apply IsS92.alloc | apply IsS92.drewN | apply IsS92.drew | apply IsS92.set_1 | apply IsS92.set_2 | refine IsS92.far ?_ NB0_727.out _ | refine IsS92.far ?_ NB0_734.out _) | exact HI0.out)⟩, ⟨by repeat (first | (with_reducible first | exact HK.out | apply KeepBut.set_ | apply keep_drewN | apply keep_drew | apply keep_alloc | refine keep_far ?_ GW727.out _ | refine keep_far ?_ GW734.out _) | exact HK.out)⟩, ⟨by repeat (first | (with_reducible first | exact HB.out | apply below_alloc | apply pw_below_drewN | apply below_drew1 | refine below_set ?_ (IsS92.ge HI0.out) | refine below_set ?_ GE727.out | refine below_set ?_ GE734.out) | exact HB.out)⟩⟩
      ·rw [if_neg c30] at H
       exact absurd H (by simp)
    ·replace c17 := Bool.eq_false_iff.mpr c17
     subst c17
     have H1 : (if x735000_1.length < 17592186044416 then (spec_l20Draw.l0 k1 (wrap64 (1 + t735)) (wrap64 (x5_1 + 1)) s0_0 t739 t740 (x735000_1 ++ [(-1)]) y731) else (none)) = some (r1, r2, r3, r4) := by rw [if_neg (show ¬ (false = true) by decide)] at H; exact H
     clear H
     have H := H1
     clear H1
     by_cases c38 : x735000_1.length < 17592186044416
     ·rw [if_pos c38] at H
      have LMc38 := Aside0.mk c38
      clear c38
      obtain ⟨y750, hy750⟩ : ∃ y_ : List Int, y_ = (x735000_1 ++ [(-1)]) := ⟨_, rfl⟩
      replace H : (spec_l20Draw.l0 k1 (wrap64 (1 + t735)) (wrap64 (x5_1 + 1)) s0_0 t739 t740 y750 y731) = some (r1, r2, r3, r4) := by first | (rw [hy750]; with_reducible exact H) | (have H2_ := (Option.bind_some _ _).symm.trans H; rw [hy750]; with_reducible exact H2_) | (have H2_ := (Option.bind_some _ _).symm.trans H; with_reducible exact H2_) | with_reducible exact H | (rw [hy750]; exact H) | exact H
      have Ny750 := Aside0.mk hy750
      clear hy750
      have H' := Aside0.mk H
      clear H
      go_wp2_with (first | ((with_reducible refine gate_callee (f := 80) rfl ?_); refine goesL_ (some 22) rfl rfl Try.func80 (by kernel_rfl) rfl #[.pointer (some ⟨g, 0, none⟩), .int .i64 3] rfl ln_ ?_; (with_reducible refine (spec_l00Src_one.calls g s0_0 x1001_1 x1002_1 3 false t739 t740 w0 _ ?side1 ?side2 A16.out).mono ?_); (case side1 => repeat (first | (with_reducible first | exact HI0.out | apply IsS92.alloc | apply IsS92.drewN | apply IsS92.drew | apply IsS92.set_1 | apply IsS92.set_2 | refine IsS92.far ?_ NB0_727.out _ | refine IsS92.far ?_ NB0_734.out _) | exact HI0.out)); (case side2 => repeat (first | (with_reducible first | exact HB.out | apply below_alloc | apply pw_below_drewN | apply below_drew1 | refine below_set ?_ (IsS92.ge HI0.out) | refine below_set ?_ GE727.out | refine below_set ?_ GE734.out) | exact HB.out)); rintro e w39 ⟨rfl, hi, hb, hk⟩; refine ⟨_, rfl, ?_⟩; have n0_ := Aside0.mk (Kd.R_mono (Kd.R_keep (IsS92.apart (show IsS92 w0 _ g s0_0 x1001_1 x1002_1 from by repeat (first | (with_reducible first | exact HI0.out | apply IsS92.alloc | apply IsS92.drewN | apply IsS92.drew | apply IsS92.set_1 | apply IsS92.set_2 | refine IsS92.far ?_ NB0_727.out _ | refine IsS92.far ?_ NB0_734.out _) | exact HI0.out)) (kr_ HO_735000) (by decide)) hk (fun _ h => h.2)) (fun _ h => h.1)); have n1_ := Aside0.mk (Kd.S_mono (Kd.S_keep (IsS92.apartS (show IsS92 w0 _ g s0_0 x1001_1 x1002_1 from by repeat (first | (with_reducible first | exact HI0.out | apply IsS92.alloc | apply IsS92.drewN | apply IsS92.drew | apply IsS92.set_1 | apply IsS92.set_2 | refine IsS92.far ?_ NB0_727.out _ | refine IsS92.far ?_ NB0_734.out _) | exact HI0.out)) (by (with_reducible repeat (first | apply Kd.S_alloc | apply Kd.S_drewN | apply Kd.S_drew)); exact HO_735001.out) (by decide)) hk (fun _ h => h.2)) (fun _ h => h.1)); have n2_ := Aside0.mk (KeepBut.blk hk (g' := gb727) (o := .cells #[.slice none 0 0, .slice none 0 0] 28 (0, 0)) (bk_ BK727) NB727_0.out (by simp)); have n3_ := Aside0.mk (KeepBut.blk hk (g' := gb734) (o := .cells #[u735000, .slice Ao8 y731.length co8] 28 (0, 0)) (bk_ BK734) NB734_0.out (by simp)); have n4_ := Aside0.mk (KeepBut.trans (by repeat (first | (with_reducible first | exact HK.out | apply KeepBut.set_ | apply keep_drewN | apply keep_drew | apply keep_alloc | refine keep_far ?_ GW727.out _ | refine keep_far ?_ GW734.out _) | exact HK.out)) hk (.inl rfl)); have n5_ := Aside0.mk (hb); have n6_ := Aside0.mk (hi); clear HO_735000; clear HO_735001; clear BK727; clear BK734; clear HK; clear HB; clear HI0; have HO_735000 := n0_; have HO_735001 := n1_; have BK727 := n2_; have BK734 := n3_; have HK := n4_; have HB := n5_; have HI0 := n6_; clear n0_ n1_ n2_ n3_ n4_ n5_ n6_; (try clear hb); (try clear hb2); (try clear hk); (try clear hi); have hnb40 := NB734_727.out; have hnc40 := NB727_734.out; have hnb41 := NB734_0.out; have hnc41 := NB0_734.out; have hcz42_0 : w39.cell? ⟨gb734, 0, none⟩ = some (u735000) := (blk_cell BK734.out 0).trans rfl; have hcz42_1 : w39.cell? ⟨gb734, 1, none⟩ = some (.slice Ao8 y731.length co8) := (blk_cell BK734.out 1).trans rfl; have hfz42_0 := blk_frozen BK734.out 0; have hfz42_1 := blk_frozen BK734.out 1) | ((with_reducible refine gate_builtin (b := .append) (xs := #[.tmp 37, .tmp 39]) rfl ?_); at_builtin; refine Kd.R_append (Kd.int .i64) w.heap.size rfl (.tmp 37) (.tmp 39) 22 2 (.int .i64 0) 8 rfl Try.underlying22 info2 rfl (by decide) (by omega) u735000 x735000_1 (-1) [.int .i64 (-1)] (fun _ => True) (fun _ => False) rfl rfl ?aP (fun _ hk => hk.elim) ?aF ?aO (Below.refl _ _) ?aS ?aL ?_; (case aP => exact rfl); (case aF => exact (fun _ _ => trivial)); (case aO => exact (kr_ HO_735000)); (case aS => exact (keep_size (w := w) (g := g) (row := none) (by repeat (first | (with_reducible first | exact HK.out | apply KeepBut.set_ | apply keep_drewN | apply keep_drew | apply keep_alloc | refine keep_far ?_ GW727.out _ | refine keep_far ?_ GW734.out _) | exact HK.out)))); (case aL => have := LMc38.out; omega); intro v751 w43 ho hb hg hat; rw [← Ny750.out] at ho; have n0_ := Aside0.mk (Kd.S_after (ok := (fun _ => True)) (by (with_reducible repeat (first | apply Kd.S_alloc | apply Kd.S_drewN | apply Kd.S_drew)); exact Kd.S_mono HO_735001.out (fun _ hk => ⟨trivial, hk⟩)) hg hat); have n1_ := Aside0.mk (blk_grown (g := gb727) (o := .cells #[.slice none 0 0, .slice none 0 0] 28 (0, 0)) (bk_ BK727) hg (Kd.R_ne HO_735000.out BK727.out (by decide))); have n2_ := Aside0.mk (blk_grown (g := gb734) (o := .cells #[u735000, .slice Ao8 y731.length co8] 28 (0, 0)) (bk_ BK734) hg (Kd.R_ne HO_735000.out BK734.out (by decide))); have n3_ := Aside0.mk (IsS92.grown (by repeat (first | (with_reducible first | exact HI0.out | apply IsS92.alloc | apply IsS92.drewN | apply IsS92.drew | apply IsS92.set_1 | apply IsS92.set_2 | refine IsS92.far ?_ NB0_727.out _ | refine IsS92.far ?_ NB0_734.out _) | exact HI0.out)) hg (IsS92.own_ne HI0.out HO_735000.out (by decide))); have n4_ := Aside0.mk (below_weaken (by repeat (first | (with_reducible first | exact HB.out | apply below_alloc | apply pw_below_drewN | apply below_drew1 | refine below_set ?_ (IsS92.ge HI0.out) | refine below_set ?_ GE727.out | refine below_set ?_ GE734.out) | exact HB.out)) HL.out hb); have n5_ := Aside0.mk (KeepBut.trans (by repeat (first | (with_reducible first | exact HK.out | apply KeepBut.set_ | apply keep_drewN | apply keep_drew | apply keep_alloc | refine keep_far ?_ GW727.out _ | refine keep_far ?_ GW734.out _) | exact HK.out)) (KeepBut.of_grown hg g) (Kd.R_base2 HO_735000.out)); have n6_ := Aside0.mk (ho); clear HO_735001; clear BK727; clear BK734; clear HI0; clear HB; clear HK; clear HO_735000; have HO_735001 := n0_; have BK727 := n1_; have BK734 := n2_; have HI0 := n3_; have HB := n4_; have HK := n5_; have HO752 := n6_; clear n0_ n1_ n2_ n3_ n4_ n5_ n6_; clear ho hb hg hat; obtain ⟨Ao44, co44, eo44⟩ := Kd.R_slice HO752.out; subst eo44; have hcz45_0 : w43.cell? ⟨gb734, 0, none⟩ = some (u735000) := (blk_cell BK734.out 0).trans rfl; have hcz45_1 : w43.cell? ⟨gb734, 1, none⟩ = some (.slice Ao8 y731.length co8) := (blk_cell BK734.out 1).trans rfl; have hfz45_0 := blk_frozen BK734.out 0; have hfz45_1 := blk_frozen BK734.out 1))
      go_roundg k1
      case measure => have := HK1.out; omega
      case rel => exact ⟨(wrap64 (x5_1 + 1)), (t739), (t740), (y750), (.slice Ao44 y750.length co44), (by first | rfl | (simp; done) | (simp [*]; done)), H', ⟨by have := HK1.out; omega⟩, ⟨by (with_reducible repeat (first | apply Kd.R_alloc | apply Kd.R_drewN | apply Kd.R_drew)); exact Kd.R_mono (Kd.R_far (p := ⟨gb734, 0, none⟩) (Kd.R_types HO752.out BK734.out (by decide)) (fun _ hk => hk.2) (.slice Ao44 y750.length co44)) (fun _ hk => trivial)⟩, ⟨by (with_reducible repeat (first | apply Kd.S_alloc | apply Kd.S_drewN | apply Kd.S_drew)); exact Kd.S_mono (Kd.S_far (p := ⟨gb734, 0, none⟩) (Kd.S_types HO_735001.out BK734.out (by decide)) (fun _ hk => hk.2) (.slice Ao44 y750.length co44)) (fun _ hk => hk.1.2)⟩, ⟨by (with_reducible repeat (first | refine blk_drewN ?_ _ | refine blk_drew ?_ | refine blk_alloc ?_ _)); refine blk_far ?_ NB727_734.out _; (with_reducible repeat (first | refine blk_drewN ?_ _ | refine blk_drew ?_ | refine blk_alloc ?_ _)); exact BK727.out⟩, ⟨by (with_reducible repeat (first | refine blk_drewN ?_ _ | refine blk_drew ?_ | refine blk_alloc ?_ _)); refine blk_put (cs := #[u735000, .slice Ao8 y731.length co8]) ?_ 0 _ rfl; (with_reducible repeat (first | refine blk_drewN ?_ _ | refine blk_drew ?_ | refine blk_alloc ?_ _)); exact BK734.out⟩, ⟨by repeat (first | (with_reducible first | exact HI0.out | apply IsS92.alloc | apply IsS92.drewN | apply IsS92.drew | apply IsS92.set_1 | apply IsS92.set_2 | refine IsS92.far ?_ NB0_727.out _ | refine IsS92.far ?_ NB0_734.out _) | exact HI0.out)⟩, ⟨by repeat (first | (with_reducible first | exact HK.out | apply KeepBut.set_ | apply keep_drewN | apply keep_drew | apply keep_alloc | refine keep_far ?_ GW727.out _ | refine keep_far ?_ GW734.out _) | exact HK.out)⟩, ⟨by repeat (first | (with_reducible first | exact HB.out | apply below_alloc | apply pw_below_drewN | apply below_drew1 | refine below_set ?_ (IsS92.ge HI0.out) | refine below_set ?_ GE727.out | refine below_set ?_ GE734.out) | exact HB.out)⟩⟩
     ·rw [if_neg c38] at H
      exact absurd H (by simp)
   ·rw [if_neg c15] at H
    have c15b0 : decide (x5_1 < (wrap64 (1 + t735))) = false := decide_eq_false c15
    clear c15
    replace H := Option.bind_eq_some_iff.mp H
    obtain ⟨⟨t753, t754, t755⟩, A460, H⟩ := H
    replace H : (spec_l20Draw.l1 k1 (wrap64 (1 + t735)) t753 s0_0 t754 t755 x735000_1 y731) = some (r1, r2, r3, r4) := H
    have A46 := Aside0.mk A460
    clear A460
    have H' := Aside0.mk H
    clear H
    go_wp2_with (first | ((with_reducible refine gate_callee (f := 75) rfl ?_); refine goesL_ (some 43) rfl rfl Try.func75 (by kernel_rfl) rfl #[.pointer (some ⟨g, 0, none⟩), .int .i64 4] rfl ln_ ?_; (with_reducible refine (spec_l00Src_pick.calls g s0_0 x1001_1 x1002_1 4 t753 t754 t755 w0 _ ?side1 ?side2 A46.out).mono ?_); (case side1 => repeat (first | (with_reducible first | exact HI0.out | apply IsS92.alloc | apply IsS92.drewN | apply IsS92.drew | apply IsS92.set_1 | apply IsS92.set_2 | refine IsS92.far ?_ NB0_727.out _ | refine IsS92.far ?_ NB0_734.out _) | exact HI0.out)); (case side2 => repeat (first | (with_reducible first | exact HB.out | apply below_alloc | apply pw_below_drewN | apply below_drew1 | refine below_set ?_ (IsS92.ge HI0.out) | refine below_set ?_ GE727.out | refine below_set ?_ GE734.out) | exact HB.out)); rintro e w47 ⟨rfl, hi, hb, hk⟩; refine ⟨_, rfl, ?_⟩; have n0_ := Aside0.mk (Kd.R_mono (Kd.R_keep (IsS92.apart (show IsS92 w0 _ g s0_0 x1001_1 x1002_1 from by repeat (first | (with_reducible first | exact HI0.out | apply IsS92.alloc | apply IsS92.drewN | apply IsS92.drew | apply IsS92.set_1 | apply IsS92.set_2 | refine IsS92.far ?_ NB0_727.out _ | refine IsS92.far ?_ NB0_734.out _) | exact HI0.out)) (kr_ HO_735000) (by decide)) hk (fun _ h => h.2)) (fun _ h => h.1)); have n1_ := Aside0.mk (Kd.S_mono (Kd.S_keep (IsS92.apartS (show IsS92 w0 _ g s0_0 x1001_1 x1002_1 from by repeat (first | (with_reducible first | exact HI0.out | apply IsS92.alloc | apply IsS92.drewN | apply IsS92.drew | apply IsS92.set_1 | apply IsS92.set_2 | refine IsS92.far ?_ NB0_727.out _ | refine IsS92.far ?_ NB0_734.out _) | exact HI0.out)) (by (with_reducible repeat (first | apply Kd.S_alloc | apply Kd.S_drewN | apply Kd.S_drew)); exact HO_735001.out) (by decide)) hk (fun _ h => h.2)) (fun _ h => h.1)); have n2_ := Aside0.mk (KeepBut.blk hk (g' := gb727) (o := .cells #[.slice none 0 0, .slice none 0 0] 28 (0, 0)) (bk_ BK727) NB727_0.out (by simp)); have n3_ := Aside0.mk (KeepBut.blk hk (g' := gb734) (o := .cells #[u735000, .slice Ao8 y731.length co8] 28 (0, 0)) (bk_ BK734) NB734_0.out (by simp)); have n4_ := Aside0.mk (KeepBut.trans (by repeat (first | (with_reducible first | exact HK.out | apply KeepBut.set_ | apply keep_drewN | apply keep_drew | apply keep_alloc | refine keep_far ?_ GW727.out _ | refine keep_far ?_ GW734.out _) | exact HK.out)) hk (.inl rfl)); have n5_ := Aside0.mk (hb); have n6_ := Aside0.mk (hi); clear HO_735000; clear HO_735001; clear BK727; clear BK734; clear HK; clear HB; clear HI0; have HO_735000 := n0_; have HO_735001 := n1_; have BK727 := n2_; have BK734 := n3_; have HK := n4_; have HB := n5_; have HI0 := n6_; clear n0_ n1_ n2_ n3_ n4_ n5_ n6_; (try clear hb); (try clear hb2); (try clear hk); (try clear hi)))
    go_loopg [7] k1 (fun kq v7 w' => ∃ (x7_2 : Int) (x1001_2 : Int) (x1002_2 : Int) (x735001_2 : List (List Int)) (u735001 : Value), v7 = .int .i64 x7_2 ∧ Aside0 (spec_l20Draw.l1 kq (wrap64 (1 + t735)) x7_2 s0_0 x1001_2 x1002_2 x735000_1 x735001_2 = some (r1, r2, r3, r4)) ∧ Aside0 (kq ≤ k1) ∧ Aside0 (Kd.R (Kd.int .i64) 2 w' w.heap.size (fun _ => True) u735000 x735000_1) ∧ Aside0 (Kd.S (Kd.slice 2 (Kd.int .i64)) 22 w' w.heap.size (fun k_ => some k_ ≠ (u735000 : Value).ownBlock) u735001 x735001_2) ∧ Aside0 (w'.heap[gb727]? = some (.cells #[(.slice none 0 0), (.slice none 0 0)] 28 (0, 0))) ∧ Aside0 (w'.heap[gb734]? = some (.cells #[u735000, u735001] 28 (0, 0))) ∧ Aside0 (IsS92 w0 w' g s0_0 x1001_2 x1002_2) ∧ Aside0 (KeepBut w w' g none) ∧ Aside0 (Below w0.heap.size w0 w'))
    case atStart => exact ⟨(t753), (t754), (t755), (y731), (.slice Ao8 y731.length co8), (by first | rfl | (simp; done) | (simp [*]; done)), H', ⟨Nat.le_refl _⟩, ⟨by (with_reducible repeat (first | apply Kd.R_alloc | apply Kd.R_drewN | apply Kd.R_drew)); exact HO_735000.out⟩, ⟨by (with_reducible repeat (first | apply Kd.S_alloc | apply Kd.S_drewN | apply Kd.S_drew)); exact HO_735001.out⟩, ⟨by (with_reducible repeat (first | refine blk_drewN ?_ _ | refine blk_drew ?_ | refine blk_alloc ?_ _)); exact BK727.out⟩, ⟨by (with_reducible repeat (first | refine blk_drewN ?_ _ | refine blk_drew ?_ | refine blk_alloc ?_ _)); exact BK734.out⟩, ⟨by repeat (first | (with_reducible first | exact HI0.out | apply IsS92.alloc | apply IsS92.drewN | apply IsS92.drew | apply IsS92.set_1 | apply IsS92.set_2 | refine IsS92.far ?_ NB0_727.out _ | refine IsS92.far ?_ NB0_734.out _) | exact HI0.out)⟩, ⟨by repeat (first | (with_reducible first | exact HK.out | apply KeepBut.set_ | apply keep_drewN | apply keep_drew | apply keep_alloc | refine keep_far ?_ GW727.out _ | refine keep_far ?_ GW734.out _) | exact HK.out)⟩, ⟨by repeat (first | (with_reducible first | exact HB.out | apply below_alloc | apply pw_below_drewN | apply below_drew1 | refine below_set ?_ (IsS92.ge HI0.out) | refine below_set ?_ GE727.out | refine below_set ?_ GE734.out) | exact HB.out)⟩⟩
    case round =>
     clear H'
     try clear c1
     try clear c2
     try clear p2
     try clear c3
     try clear c4
     try clear p6
     try clear c7
     try clear c8
     try clear c11
     try clear c12
     try clear c15
     try clear c15b0
     try clear c17
     try clear c18
     try clear c18b0
     try clear c20
     try clear c20b0
     try clear c20b1
     try clear c21
     try clear c24
     try clear c25
     try clear c30
     try clear c32
     try clear c33
     try clear c38
     try clear c40
     try clear c41
     try clear hcz13_0
     try clear hcz13_1
     try clear hcz26_0
     try clear hcz26_1
     try clear hcz29_0
     try clear hcz29_1
     try clear hcz34_0
     try clear hcz34_1
     try clear hcz37_0
     try clear hcz37_1
     try clear hcz42_0
     try clear hcz42_1
     try clear hcz45_0
     try clear hcz45_1
     try clear hfz13_0
     try clear hfz13_1
     try clear hfz26_0
     try clear hfz26_1
     try clear hfz29_0
     try clear hfz29_1
     try clear hfz34_0
     try clear hfz34_1
     try clear hfz37_0
     try clear hfz37_1
     try clear hfz42_0
     try clear hfz42_1
     try clear hfz45_0
     try clear hfz45_1
     try clear p2
     try clear p6
     obtain ⟨x7_2, x1001_2, x1002_2, x735001_2, u735001, rfl, HA, HK2, HO_735000, HO_735001, BK727, BK734, HI0, HK, HB⟩ := hrel
     cases gk with
     | zero => exact absurd HA.out (by simp [spec_l20Draw.l1])
     | succ k2 =>
      have H := HA.out
      clear HA
      simp only [spec_l20Draw.l1] at H
      by_cases c48 : x7_2 > 0
      ·rw [if_pos c48] at H
       have c48b0 : decide (0 < x7_2) = true := decide_eq_true c48
       clear c48
       replace H := Option.bind_eq_some_iff.mp H
       obtain ⟨⟨t756, t757, t758⟩, A490, H⟩ := H
       replace H : ((spec_l00Src_pick.f s0_0 t757 t758 2).bind fun bt762 => (spec_l20Draw.l2 k2 (wrap64 (1 + t735)) x7_2 (([t756] : List Int)) (wrap64 (1 + bt762.1)) s0_0 bt762.2.1 bt762.2.2 x735000_1 x735001_2)) = some (r1, r2, r3, r4) := H
       have A49 := Aside0.mk A490
       clear A490
       obtain ⟨y759, hy759⟩ : ∃ y_ : List Int, y_ = (([t756] : List Int)) := ⟨_, rfl⟩
       replace H : ((spec_l00Src_pick.f s0_0 t757 t758 2).bind fun bt762 => (spec_l20Draw.l2 k2 (wrap64 (1 + t735)) x7_2 y759 (wrap64 (1 + bt762.1)) s0_0 bt762.2.1 bt762.2.2 x735000_1 x735001_2)) = some (r1, r2, r3, r4) := by first | (rw [hy759]; with_reducible exact H) | (have H2_ := (Option.bind_some _ _).symm.trans H; rw [hy759]; with_reducible exact H2_) | (have H2_ := (Option.bind_some _ _).symm.trans H; with_reducible exact H2_) | with_reducible exact H | (rw [hy759]; exact H) | exact H
       have Ny759 := Aside0.mk hy759
       clear hy759
       replace H := Option.bind_eq_some_iff.mp H
       obtain ⟨⟨t762, t763, t764⟩, A500, H⟩ := H
       replace H : (spec_l20Draw.l2 k2 (wrap64 (1 + t735)) x7_2 y759 (wrap64 (1 + t762)) s0_0 t763 t764 x735000_1 x735001_2) = some (r1, r2, r3, r4) := H
       have A50 := Aside0.mk A500
       clear A500
       have H' := Aside0.mk H
       clear H
       go_wp2_with (first | ((with_reducible refine gate_callee (f := 75) rfl ?_); refine goesL_ (some 50) rfl rfl Try.func75 (by kernel_rfl) rfl #[.pointer (some ⟨g, 0, none⟩), .int .i64 (wrap64 (1 + t735))] rfl ln_ ?_; (with_reducible refine (spec_l00Src_pick.calls g s0_0 x1001_2 x1002_2 (wrap64 (1 + t735)) t756 t757 t758 w0 _ ?side1 ?side2 A49.out).mono ?_); (case side1 => repeat (first | (with_reducible first | exact HI0.out | apply IsS92.alloc | apply IsS92.drewN | apply IsS92.drew | apply IsS92.set_1 | apply IsS92.set_2 | refine IsS92.far ?_ NB0_727.out _ | refine IsS92.far ?_ NB0_734.out _) | exact HI0.out)); (case side2 => repeat (first | (with_reducible first | exact HB.out | apply below_alloc | apply pw_below_drewN | apply below_drew1 | refine below_set ?_ (IsS92.ge HI0.out) | refine below_set ?_ GE727.out | refine below_set ?_ GE734.out) | exact HB.out)); rintro e w51 ⟨rfl, hi, hb, hk⟩; refine ⟨_, rfl, ?_⟩; have n0_ := Aside0.mk (Kd.R_mono (Kd.R_keep (IsS92.apart (show IsS92 w0 _ g s0_0 x1001_2 x1002_2 from by repeat (first | (with_reducible first | exact HI0.out | apply IsS92.alloc | apply IsS92.drewN | apply IsS92.drew | apply IsS92.set_1 | apply IsS92.set_2 | refine IsS92.far ?_ NB0_727.out _ | refine IsS92.far ?_ NB0_734.out _) | exact HI0.out)) (kr_ HO_735000) (by decide)) hk (fun _ h => h.2)) (fun _ h => h.1)); have n1_ := Aside0.mk (Kd.S_mono (Kd.S_keep (IsS92.apartS (show IsS92 w0 _ g s0_0 x1001_2 x1002_2 from by repeat (first | (with_reducible first | exact HI0.out | apply IsS92.alloc | apply IsS92.drewN | apply IsS92.drew | apply IsS92.set_1 | apply IsS92.set_2 | refine IsS92.far ?_ NB0_727.out _ | refine IsS92.far ?_ NB0_734.out _) | exact HI0.out)) (by (with_reducible repeat (first | apply Kd.S_alloc | apply Kd.S_drewN | apply Kd.S_drew)); exact HO_735001.out) (by decide)) hk (fun _ h => h.2)) (fun _ h => h.1)); have n2_ := Aside0.mk (KeepBut.blk hk (g' := gb727) (o := .cells #[.slice none 0 0, .slice none 0 0] 28 (0, 0)) (bk_ BK727) NB727_0.out (by simp)); have n3_ := Aside0.mk (KeepBut.blk hk (g' := gb734) (o := .cells #[u735000, u735001] 28 (0, 0)) (bk_ BK734) NB734_0.out (by simp)); have n4_ := Aside0.mk (KeepBut.trans (by repeat (first | (with_reducible first | exact HK.out | apply KeepBut.set_ | apply keep_drewN | apply keep_drew | apply keep_alloc | refine keep_far ?_ GW727.out _ | refine keep_far ?_ GW734.out _) | exact HK.out)) hk (.inl rfl)); have n5_ := Aside0.mk (hb); have n6_ := Aside0.mk (hi); clear HO_735000; clear HO_735001; clear BK727; clear BK734; clear HK; clear HB; clear HI0; have HO_735000 := n0_; have HO_735001 := n1_; have BK727 := n2_; have BK734 := n3_; have HK := n4_; have HB := n5_; have HI0 := n6_; clear n0_ n1_ n2_ n3_ n4_ n5_ n6_; (try clear hb); (try clear hb2); (try clear hk); (try clear hi)) | ((with_reducible refine gate_dst (N := 51) rfl ?_); refine Kd.R_lit (Kd.int .i64) _ 2 ?hg (N := 51) ?hd (xs := ([t756] : List Int)) (inner := [.int .i64 t756]) (ok := fun _ => True) (okp := fun _ => True) ?hr ?hp (fun _ hk => hk) trivial (Below.refl _ _) (Nat.le_refl _) (by simp) ?_; (case hd => rfl); (case hg => rfl); (case hr => first | (go_simp; done) | (go_simp; rfl)); (case hp => exact (Reps.one (show Kd.M (Kd.int .i64) _ _ _ t756 [.int .i64 t756] from rfl) (Reps.none _ _))); intro v760 w52 ho53 hb hg_ hnew_; clear hg_ hnew_; (first | rw [← Ny759.out] at ho53 | (simp only [Int.reduceToNat] at ho53; rw [← Ny759.out] at ho53)); have n0_ := Aside0.mk (Kd.R_elder' (kr_ HO_735000) (Kd.R_base ho53) hb); have n1_ := Aside0.mk (Kd.S_elder' (by (with_reducible repeat (first | apply Kd.S_alloc | apply Kd.S_drewN | apply Kd.S_drew)); exact HO_735001.out) (Kd.R_base ho53) hb); have n2_ := Aside0.mk (Kd.R_lower (Kd.R_new' ho53 (Kd.R_lt (kr_ HO_735000))) (keep_size (w := w) (g := g) (row := none) (by repeat (first | (with_reducible first | exact HK.out | apply KeepBut.set_ | apply keep_drewN | apply keep_drew | apply keep_alloc | refine keep_far ?_ GW727.out _ | refine keep_far ?_ GW734.out _) | exact HK.out)))); have n3_ := Aside0.mk (blk_below (g := gb727) (o := .cells #[.slice none 0 0, .slice none 0 0] 28 (0, 0)) (bk_ BK727) hb); have n4_ := Aside0.mk (blk_below (g := gb734) (o := .cells #[u735000, u735001] 28 (0, 0)) (bk_ BK734) hb); have n5_ := Aside0.mk (IsS92.below (by repeat (first | (with_reducible first | exact HI0.out | apply IsS92.alloc | apply IsS92.drewN | apply IsS92.drew | apply IsS92.set_1 | apply IsS92.set_2 | refine IsS92.far ?_ NB0_727.out _ | refine IsS92.far ?_ NB0_734.out _) | exact HI0.out)) hb); have n6_ := Aside0.mk (KeepBut.trans (by repeat (first | (with_reducible first | exact HK.out | apply KeepBut.set_ | apply keep_drewN | apply keep_drew | apply keep_alloc | refine keep_far ?_ GW727.out _ | refine keep_far ?_ GW734.out _) | exact HK.out)) (KeepBut.of_below hb g none) (.inl rfl)); have n7_ := Aside0.mk (below_step (by repeat (first | (with_reducible first | exact HB.out | apply below_alloc | apply pw_below_drewN | apply below_drew1 | refine below_set ?_ (IsS92.ge HI0.out) | refine below_set ?_ GE727.out | refine below_set ?_ GE734.out) | exact HB.out)) hb); clear HO_735000; clear HO_735001; clear BK727; clear BK734; clear HI0; clear HK; clear HB; have HO_735000 := n0_; have HO_735001 := n1_; have HO761 := n2_; have BK727 := n3_; have BK734 := n4_; have HI0 := n5_; have HK := n6_; have HB := n7_; clear n0_ n1_ n2_ n3_ n4_ n5_ n6_ n7_; clear hb ho53) | ((with_reducible refine gate_callee (f := 75) rfl ?_); refine goesL_ (some 53) rfl rfl Try.func75 (by kernel_rfl) rfl #[.pointer (some ⟨g, 0, none⟩), .int .i64 2] rfl ln_ ?_; (with_reducible refine (spec_l00Src_pick.calls g s0_0 t757 t758 2 t762 t763 t764 w0 _ ?side1 ?side2 A50.out).mono ?_); (case side1 => repeat (first | (with_reducible first | exact HI0.out | apply IsS92.alloc | apply IsS92.drewN | apply IsS92.drew | apply IsS92.set_1 | apply IsS92.set_2 | refine IsS92.far ?_ NB0_727.out _ | refine IsS92.far ?_ NB0_734.out _) | exact HI0.out)); (case side2 => repeat (first | (with_reducible first | exact HB.out | apply below_alloc | apply pw_below_drewN | apply below_drew1 | refine below_set ?_ (IsS92.ge HI0.out) | refine below_set ?_ GE727.out | refine below_set ?_ GE734.out) | exact HB.out)); rintro e w54 ⟨rfl, hi, hb, hk⟩; refine ⟨_, rfl, ?_⟩; have n0_ := Aside0.mk (Kd.R_mono (Kd.R_keep (IsS92.apart (show IsS92 w0 _ g s0_0 t757 t758 from by repeat (first | (with_reducible first | exact HI0.out | apply IsS92.alloc | apply IsS92.drewN | apply IsS92.drew | apply IsS92.set_1 | apply IsS92.set_2 | refine IsS92.far ?_ NB0_727.out _ | refine IsS92.far ?_ NB0_734.out _) | exact HI0.out)) (kr_ HO_735000) (by decide)) hk (fun _ h => h.2)) (fun _ h => h.1)); have n1_ := Aside0.mk (Kd.S_mono (Kd.S_keep (IsS92.apartS (show IsS92 w0 _ g s0_0 t757 t758 from by repeat (first | (with_reducible first | exact HI0.out | apply IsS92.alloc | apply IsS92.drewN | apply IsS92.drew | apply IsS92.set_1 | apply IsS92.set_2 | refine IsS92.far ?_ NB0_727.out _ | refine IsS92.far ?_ NB0_734.out _) | exact HI0.out)) (by (with_reducible repeat (first | apply Kd.S_alloc | apply Kd.S_drewN | apply Kd.S_drew)); exact HO_735001.out) (by decide)) hk (fun _ h => h.2)) (fun _ h => h.1)); have n2_ := Aside0.mk (KeepBut.blk hk (g' := gb727) (o := .cells #[.slice none 0 0, .slice none 0 0] 28 (0, 0)) (bk_ BK727) NB727_0.out (by simp)); have n3_ := Aside0.mk (KeepBut.blk hk (g' := gb734) (o := .cells #[u735000, u735001] 28 (0, 0)) (bk_ BK734) NB734_0.out (by simp)); have n4_ := Aside0.mk (Kd.R_mono (Kd.R_keep (IsS92.apart (show IsS92 w0 _ g s0_0 t757 t758 from by repeat (first | (with_reducible first | exact HI0.out | apply IsS92.alloc | apply IsS92.drewN | apply IsS92.drew | apply IsS92.set_1 | apply IsS92.set_2 | refine IsS92.far ?_ NB0_727.out _ | refine IsS92.far ?_ NB0_734.out _) | exact HI0.out)) (kr_ HO761) (by decide)) hk (fun _ h => h.2)) (fun _ h => h.1)); have n5_ := Aside0.mk (KeepBut.trans (by repeat (first | (with_reducible first | exact HK.out | apply KeepBut.set_ | apply keep_drewN | apply keep_drew | apply keep_alloc | refine keep_far ?_ GW727.out _ | refine keep_far ?_ GW734.out _) | exact HK.out)) hk (.inl rfl)); have n6_ := Aside0.mk (hb); have n7_ := Aside0.mk (hi); clear HO_735000; clear HO_735001; clear BK727; clear BK734; clear HO761; clear HK; clear HB; clear HI0; have HO_735000 := n0_; have HO_735001 := n1_; have BK727 := n2_; have BK734 := n3_; have HO761 := n4_; have HK := n5_; have HB := n6_; have HI0 := n7_; clear n0_ n1_ n2_ n3_ n4_ n5_ n6_ n7_; (try clear hb); (try clear hb2); (try clear hk); (try clear hi)))
       go_loopg [8, 9] k2 (fun kq v8 v9 w' => ∃ (x8_3 : List Int) (x9_3 : Int) (x1001_3 : Int) (x1002_3 : Int), v9 = .int .i64 x9_3 ∧ Aside0 (spec_l20Draw.l2 kq (wrap64 (1 + t735)) x7_2 x8_3 x9_3 s0_0 x1001_3 x1002_3 x735000_1 x735001_2 = some (r1, r2, r3, r4)) ∧ Aside0 (kq ≤ k2) ∧ Aside0 (Kd.R (Kd.int .i64) 2 w' w.heap.size (fun k_ => some k_ ≠ (u735000 : Value).ownBlock) v8 x8_3) ∧ Aside0 (Kd.R (Kd.int .i64) 2 w' w.heap.size (fun k_ => some k_ ≠ (v8 : Value).ownBlock) u735000 x735000_1) ∧ Aside0 (Kd.S (Kd.slice 2 (Kd.int .i64)) 22 w' w.heap.size (fun k_ => some k_ ≠ (v8 : Value).ownBlock ∧ some k_ ≠ (u735000 : Value).ownBlock) u735001 x735001_2) ∧ Aside0 (w'.heap[gb727]? = some (.cells #[(.slice none 0 0), (.slice none 0 0)] 28 (0, 0))) ∧ Aside0 (w'.heap[gb734]? = some (.cells #[u735000, u735001] 28 (0, 0))) ∧ Aside0 (IsS92 w0 w' g s0_0 x1001_3 x1002_3) ∧ Aside0 (KeepBut w w' g none) ∧ Aside0 (Below w0.heap.size w0 w'))
       case atStart => exact ⟨(y759), (wrap64 (1 + t762)), (t763), (t764), (by first | rfl | (simp; done) | (simp [*]; done)), H', ⟨Nat.le_refl _⟩, ⟨by (with_reducible repeat (first | apply Kd.R_alloc | apply Kd.R_drewN | apply Kd.R_drew)); exact Kd.R_mono HO761.out (fun _ hk => hk.2)⟩, ⟨by (with_reducible repeat (first | apply Kd.R_alloc | apply Kd.R_drewN | apply Kd.R_drew)); exact Kd.R_mono HO_735000.out (fun _ hk => hk.2)⟩, ⟨by (with_reducible repeat (first | apply Kd.S_alloc | apply Kd.S_drewN | apply Kd.S_drew)); exact Kd.S_mono HO_735001.out (fun _ hk => ⟨hk.2, hk.1⟩)⟩, ⟨by (with_reducible repeat (first | refine blk_drewN ?_ _ | refine blk_drew ?_ | refine blk_alloc ?_ _)); exact BK727.out⟩, ⟨by (with_reducible repeat (first | refine blk_drewN ?_ _ | refine blk_drew ?_ | refine blk_alloc ?_ _)); exact BK734.out⟩, ⟨by repeat (first | (with_reducible first | exact HI0.out | apply IsS92.alloc | apply IsS92.drewN | apply IsS92.drew | apply IsS92.set_1 | apply IsS92.set_2 | refine IsS92.far ?_ NB0_727.out _ | refine IsS92.far ?_ NB0_734.out _) | exact HI0.out)⟩, ⟨by repeat (first | (with_reducible first | exact HK.out | apply KeepBut.set_ | apply keep_drewN | apply keep_drew | apply keep_alloc | refine keep_far ?_ GW727.out _ | refine keep_far ?_ GW734.out _) | exact HK.out)⟩, ⟨by repeat (first | (with_reducible first | exact HB.out | apply below_alloc | apply pw_below_drewN | apply below_drew1 | refine below_set ?_ (IsS92.ge HI0.out) | refine below_set ?_ GE727.out | refine below_set ?_ GE734.out) | exact HB.out)⟩⟩
       case round =>
        clear H'
        try clear c1
        try clear c2
        try clear p2
        try clear c3
        try clear c4
        try clear p6
        try clear c7
        try clear c8
        try clear c11
        try clear c12
        try clear c15
        try clear c15b0
        try clear c17
        try clear c18
        try clear c18b0
        try clear c20
        try clear c20b0
        try clear c20b1
        try clear c21
        try clear c24
        try clear c25
        try clear c30
        try clear c32
        try clear c33
        try clear c38
        try clear c40
        try clear c41
        try clear c48
        try clear c48b0
        try clear hcz13_0
        try clear hcz13_1
        try clear hcz26_0
        try clear hcz26_1
        try clear hcz29_0
        try clear hcz29_1
        try clear hcz34_0
        try clear hcz34_1
        try clear hcz37_0
        try clear hcz37_1
        try clear hcz42_0
        try clear hcz42_1
        try clear hcz45_0
        try clear hcz45_1
        try clear hfz13_0
        try clear hfz13_1
        try clear hfz26_0
        try clear hfz26_1
        try clear hfz29_0
        try clear hfz29_1
        try clear hfz34_0
        try clear hfz34_1
        try clear hfz37_0
        try clear hfz37_1
        try clear hfz42_0
        try clear hfz42_1
        try clear hfz45_0
        try clear hfz45_1
        try clear p2
        try clear p6
        obtain ⟨x8_3, x9_3, x1001_3, x1002_3, rfl, HA, HK3, HO_8, HO_735000, HO_735001, BK727, BK734, HI0, HK, HB⟩ := hrel
        cases gk with
        | zero => exact absurd HA.out (by simp [spec_l20Draw.l2])
        | succ k3 =>
         have H := HA.out
         clear HA
         simp only [spec_l20Draw.l2] at H
         by_cases c55 : x9_3 > 0
         ·rw [if_pos c55] at H
          have c55b0 : decide (0 < x9_3) = true := decide_eq_true c55
          clear c55
          replace H := Option.bind_eq_some_iff.mp H
          obtain ⟨⟨t765, t766, t767⟩, A560, H⟩ := H
          replace H : ((spec_l00Put.f k3 x8_3 t765).bind fun t768 => (spec_l20Draw.l2 k3 (wrap64 (1 + t735)) x7_2 t768 (wrap64 (x9_3 - 1)) s0_0 t766 t767 x735000_1 x735001_2)) = some (r1, r2, r3, r4) := H
          have A56 := Aside0.mk A560
          clear A560
          replace H := Option.bind_eq_some_iff.mp H
          obtain ⟨t768, A570, H⟩ := H
          replace H : (spec_l20Draw.l2 k3 (wrap64 (1 + t735)) x7_2 t768 (wrap64 (x9_3 - 1)) s0_0 t766 t767 x735000_1 x735001_2) = some (r1, r2, r3, r4) := H
          have A57 := Aside0.mk A570
          clear A570
          have H' := Aside0.mk H
          clear H
          go_wp2_with (first | ((with_reducible refine gate_callee (f := 75) rfl ?_); refine goesL_ (some 62) rfl rfl Try.func75 (by kernel_rfl) rfl #[.pointer (some ⟨g, 0, none⟩), .int .i64 (wrap64 (1 + t735))] rfl ln_ ?_; (with_reducible refine (spec_l00Src_pick.calls g s0_0 x1001_3 x1002_3 (wrap64 (1 + t735)) t765 t766 t767 w0 _ ?side1 ?side2 A56.out).mono ?_); (case side1 => repeat (first | (with_reducible first | exact HI0.out | apply IsS92.alloc | apply IsS92.drewN | apply IsS92.drew | apply IsS92.set_1 | apply IsS92.set_2 | refine IsS92.far ?_ NB0_727.out _ | refine IsS92.far ?_ NB0_734.out _) | exact HI0.out)); (case side2 => repeat (first | (with_reducible first | exact HB.out | apply below_alloc | apply pw_below_drewN | apply below_drew1 | refine below_set ?_ (IsS92.ge HI0.out) | refine below_set ?_ GE727.out | refine below_set ?_ GE734.out) | exact HB.out)); rintro e w58 ⟨rfl, hi, hb, hk⟩; refine ⟨_, rfl, ?_⟩; have n0_ := Aside0.mk (Kd.R_mono (Kd.R_keep (IsS92.apart (show IsS92 w0 _ g s0_0 x1001_3 x1002_3 from by repeat (first | (with_reducible first | exact HI0.out | apply IsS92.alloc | apply IsS92.drewN | apply IsS92.drew | apply IsS92.set_1 | apply IsS92.set_2 | refine IsS92.far ?_ NB0_727.out _ | refine IsS92.far ?_ NB0_734.out _) | exact HI0.out)) (kr_ HO_8) (by decide)) hk (fun _ h => h.2)) (fun _ h => h.1)); have n1_ := Aside0.mk (Kd.R_mono (Kd.R_keep (IsS92.apart (show IsS92 w0 _ g s0_0 x1001_3 x1002_3 from by repeat (first | (with_reducible first | exact HI0.out | apply IsS92.alloc | apply IsS92.drewN | apply IsS92.drew | apply IsS92.set_1 | apply IsS92.set_2 | refine IsS92.far ?_ NB0_727.out _ | refine IsS92.far ?_ NB0_734.out _) | exact HI0.out)) (kr_ HO_735000) (by decide)) hk (fun _ h => h.2)) (fun _ h => h.1)); have n2_ := Aside0.mk (Kd.S_mono (Kd.S_keep (IsS92.apartS (show IsS92 w0 _ g s0_0 x1001_3 x1002_3 from by repeat (first | (with_reducible first | exact HI0.out | apply IsS92.alloc | apply IsS92.drewN | apply IsS92.drew | apply IsS92.set_1 | apply IsS92.set_2 | refine IsS92.far ?_ NB0_727.out _ | refine IsS92.far ?_ NB0_734.out _) | exact HI0.out)) (by (with_reducible repeat (first | apply Kd.S_alloc | apply Kd.S_drewN | apply Kd.S_drew)); exact HO_735001.out) (by decide)) hk (fun _ h => h.2)) (fun _ h => h.1)); have n3_ := Aside0.mk (KeepBut.blk hk (g' := gb727) (o := .cells #[.slice none 0 0, .slice none 0 0] 28 (0, 0)) (bk_ BK727) NB727_0.out (by simp)); have n4_ := Aside0.mk (KeepBut.blk hk (g' := gb734) (o := .cells #[u735000, u735001] 28 (0, 0)) (bk_ BK734) NB734_0.out (by simp)); have n5_ := Aside0.mk (KeepBut.trans (by repeat (first | (with_reducible first | exact HK.out | apply KeepBut.set_ | apply keep_drewN | apply keep_drew | apply keep_alloc | refine keep_far ?_ GW727.out _ | refine keep_far ?_ GW734.out _) | exact HK.out)) hk (.inl rfl)); have n6_ := Aside0.mk (hb); have n7_ := Aside0.mk (hi); clear HO_8; clear HO_735000; clear HO_735001; clear BK727; clear BK734; clear HK; clear HB; clear HI0; have HO_8 := n0_; have HO_735000 := n1_; have HO_735001 := n2_; have BK727 := n3_; have BK734 := n4_; have HK := n5_; have HB := n6_; have HI0 := n7_; clear n0_ n1_ n2_ n3_ n4_ n5_ n6_ n7_; (try clear hb); (try clear hb2); (try clear hk); (try clear hi); obtain ⟨Ao59, co59, eo59⟩ := Kd.R_slice HO_8.out; subst eo59) | ((with_reducible refine gate_callee (f := 81) rfl ?_); refine goesL_ (some 63) rfl rfl Try.func81 (by kernel_rfl) rfl #[.slice Ao59 x8_3.length co59, .int .i64 t765] rfl ln_ ?_; (with_reducible refine (spec_l00Put.calls k3 _ _ x8_3 t765 t768 _ ?side1 ?side2 A57.out).mono ?_); (case side1 => repeat (first | exact (Kd.R_reads' HO_8.out).2.2 | (with_reducible refine Kd.C_alloc ?_ _) | (with_reducible refine Kd.C_drewN ?_ _) | (with_reducible refine Kd.C_drew ?_))); (case side2 => exact (Kd.R_reads' HO_8.out).2.1); rintro e w60 ⟨v769, rfl, ho0, hb⟩; refine ⟨_, rfl, ?_⟩; have n0_ := Aside0.mk (Kd.R_elder' (kr_ HO_8) (Kd.R_base ho0) hb); have n1_ := Aside0.mk (Kd.R_elder' (kr_ HO_735000) (Kd.R_base ho0) hb); have n2_ := Aside0.mk (Kd.S_elder' (by (with_reducible repeat (first | apply Kd.S_alloc | apply Kd.S_drewN | apply Kd.S_drew)); exact HO_735001.out) (Kd.R_base ho0) hb); have n3_ := Aside0.mk (Kd.R_lower (Kd.R_new' (Kd.R_new' ho0 (Kd.R_lt (kr_ HO_8))) (Kd.R_lt (kr_ HO_735000))) (keep_size (w := w) (g := g) (row := none) (by repeat (first | (with_reducible first | exact HK.out | apply KeepBut.set_ | apply keep_drewN | apply keep_drew | apply keep_alloc | refine keep_far ?_ GW727.out _ | refine keep_far ?_ GW734.out _) | exact HK.out)))); have n4_ := Aside0.mk (blk_below (g := gb727) (o := .cells #[.slice none 0 0, .slice none 0 0] 28 (0, 0)) (bk_ BK727) hb); have n5_ := Aside0.mk (blk_below (g := gb734) (o := .cells #[u735000, u735001] 28 (0, 0)) (bk_ BK734) hb); have n6_ := Aside0.mk (IsS92.below (by repeat (first | (with_reducible first | exact HI0.out | apply IsS92.alloc | apply IsS92.drewN | apply IsS92.drew | apply IsS92.set_1 | apply IsS92.set_2 | refine IsS92.far ?_ NB0_727.out _ | refine IsS92.far ?_ NB0_734.out _) | exact HI0.out)) hb); have n7_ := Aside0.mk (KeepBut.trans (by repeat (first | (with_reducible first | exact HK.out | apply KeepBut.set_ | apply keep_drewN | apply keep_drew | apply keep_alloc | refine keep_far ?_ GW727.out _ | refine keep_far ?_ GW734.out _) | exact HK.out)) (KeepBut.of_below hb g none) (.inl rfl)); have n8_ := Aside0.mk (below_step (by repeat (first | (with_reducible first | exact HB.out | apply below_alloc | apply pw_below_drewN | apply below_drew1 | refine below_set ?_ (IsS92.ge HI0.out) | refine below_set ?_ GE727.out | refine below_set ?_ GE734.out) | exact HB.out)) hb); clear HO_8; clear HO_735000; clear HO_735001; clear BK727; clear BK734; clear HI0; clear HK; clear HB; have HO_8 := n0_; have HO_735000 := n1_; have HO_735001 := n2_; have HO770 := n3_; have BK727 := n4_; have BK734 := n5_; have HI0 := n6_; have HK := n7_; have HB := n8_; clear n0_ n1_ n2_ n3_ n4_ n5_ n6_ n7_ n8_; (try clear hb); (try clear hb2); (try clear hk); (try clear hi); (try clear ho0)))
          go_roundg k3
          case measure => have := HK1.out; have := HK2.out; have := HK3.out; omega
          case rel => exact ⟨(t768), (wrap64 (x9_3 - 1)), (t766), (t767), (by first | rfl | (simp; done) | (simp [*]; done)), H', ⟨by have := HK1.out; have := HK2.out; have := HK3.out; omega⟩, ⟨by (with_reducible repeat (first | apply Kd.R_alloc | apply Kd.R_drewN | apply Kd.R_drew)); exact Kd.R_mono HO770.out (fun _ hk => hk.2)⟩, ⟨by (with_reducible repeat (first | apply Kd.R_alloc | apply Kd.R_drewN | apply Kd.R_drew)); exact Kd.R_mono HO_735000.out (fun _ hk => hk.2)⟩, ⟨by (with_reducible repeat (first | apply Kd.S_alloc | apply Kd.S_drewN | apply Kd.S_drew)); exact Kd.S_mono HO_735001.out (fun _ hk => ⟨hk.2, hk.1.2⟩)⟩, ⟨by (with_reducible repeat (first | refine blk_drewN ?_ _ | refine blk_drew ?_ | refine blk_alloc ?_ _)); exact BK727.out⟩, ⟨by (with_reducible repeat (first | refine blk_drewN ?_ _ | refine blk_drew ?_ | refine blk_alloc ?_ _)); exact BK734.out⟩, ⟨by repeat (first | (with_reducible first | exact HI0.out | apply IsS92.alloc | apply IsS92.drewN | apply IsS92.drew | apply IsS92.set_1 | apply IsS92.set_2 | refine IsS92.far ?_ NB0_727.out _ | refine IsS92.far ?_ NB0_734.out _) | exact HI0.out)⟩, ⟨by repeat (first | (with_reducible first | exact HK.out | apply KeepBut.set_ | apply keep_drewN | apply keep_drew | apply keep_alloc | refine keep_far ?_ GW727.out _ | refine keep_far ?_ GW734.out _) | exact HK.out)⟩, ⟨by repeat (first | (with_reducible first | exact HB.out | apply below_alloc | apply pw_below_drewN | apply below_drew1 | refine below_set ?_ (IsS92.ge HI0.out) | refine below_set ?_ GE727.out | refine below_set ?_ GE734.out) | exact HB.out)⟩⟩
         ·rw [if_neg c55] at H
          have c55b0 : decide (0 < x9_3) = false := decide_eq_false c55
          clear c55
          by_cases c61 : x735001_2.length < 5864062014805
          ·rw [if_pos c61] at H
           have LMc61 := Aside0.mk c61
           clear c61
           obtain ⟨y771, hy771⟩ : ∃ y_ : List (List Int), y_ = (x735001_2 ++ [x8_3]) := ⟨_, rfl⟩
           replace H : (spec_l20Draw.l1 k3 (wrap64 (1 + t735)) (wrap64 (x7_2 - 1)) s0_0 x1001_3 x1002_3 x735000_1 y771) = some (r1, r2, r3, r4) := by first | (rw [hy771]; with_reducible exact H) | (have H2_ := (Option.bind_some _ _).symm.trans H; rw [hy771]; with_reducible exact H2_) | (have H2_ := (Option.bind_some _ _).symm.trans H; with_reducible exact H2_) | with_reducible exact H | (rw [hy771]; exact H) | exact H
           have Ny771 := Aside0.mk hy771
           clear hy771
           have H' := Aside0.mk H
           clear H
           have hnb62 := NB734_727.out
           have hnc62 := NB727_734.out
           have hnb63 := NB734_0.out
           have hnc63 := NB0_734.out
           have hcz64_0 : wr.cell? ⟨gb734, 0, none⟩ = some (u735000) := (blk_cell BK734.out 0).trans rfl
           have hcz64_1 : wr.cell? ⟨gb734, 1, none⟩ = some (u735001) := (blk_cell BK734.out 1).trans rfl
           have hfz64_0 := blk_frozen BK734.out 0
           have hfz64_1 := blk_frozen BK734.out 1
           obtain ⟨Ao66, co66, eo66⟩ := Kd.R_slice HO_8.out
           subst eo66
           go_wp2_with (first | ((with_reducible refine gate_builtin (b := .append) (xs := #[.tmp 65, .tmp 67]) rfl ?_); at_builtin; refine Kd.S_append (Kd.slice 2 (Kd.int .i64)) w.heap.size rfl (.tmp 65) (.tmp 67) 23 22 (.slice none 0 0) 24 rfl Try.underlying23 info22 rfl (by decide) (by omega) u735001 x735001_2 x8_3 [.slice Ao66 x8_3.length co66] (fun k_ => some k_ ≠ (u735000 : Value).ownBlock) (fun k_ => some k_ = (.slice Ao66 x8_3.length co66 : Value).ownBlock) rfl rfl ?aP (fun k_ hk_ => ((Kd.R_mono (ok' := fun k_ => ((fun k_ => some k_ ≠ (u735000 : Value).ownBlock)) k_ ∧ some k_ ≠ (u735001 : Value).ownBlock) (Kd.R_apart' (HO_8.out) (Kd.S_typed HO_735001.out) (by decide)) (fun k_ hk => ⟨hk.1, hk.2⟩))).1 k_ hk_.symm) ?aF ?aO (Below.refl _ _) ?aS ?aL ?_; (case aP => exact Kd.M_row (Kd.R_mono (Kd.R_tight rfl (Kd.R_mono (ok' := fun k_ => ((fun k_ => some k_ ≠ (u735000 : Value).ownBlock)) k_ ∧ some k_ ≠ (u735001 : Value).ownBlock) (Kd.R_apart' (HO_8.out) (Kd.S_typed HO_735001.out) (by decide)) (fun k_ hk => ⟨hk.1, hk.2⟩))) (fun _ h_ => h_))); (case aF => exact (fun k_ hk => Kd.fresh' (Kd.R_lt (kr_ HO_735000)) k_ hk)); (case aO => exact (by (with_reducible repeat (first | apply Kd.S_alloc | apply Kd.S_drewN | apply Kd.S_drew)); exact Kd.S_mono HO_735001.out (fun k_ hk => ⟨hk.2, fun e_ => hk.1 e_⟩))); (case aS => exact (keep_size (w := w) (g := g) (row := none) (by repeat (first | (with_reducible first | exact HK.out | apply KeepBut.set_ | apply keep_drewN | apply keep_drew | apply keep_alloc | refine keep_far ?_ GW727.out _ | refine keep_far ?_ GW734.out _) | exact HK.out)))); (case aL => have := LMc61.out; omega); intro v772 w65 ho hb hg hat; rw [← Ny771.out] at ho; have n0_ := Aside0.mk (Kd.R_over' (kr_ HO_735000) (Kd.S_typed (by (with_reducible repeat (first | apply Kd.S_alloc | apply Kd.S_drewN | apply Kd.S_drew)); exact HO_735001.out)) (by decide) hg); have n1_ := Aside0.mk (blk_grown (g := gb727) (o := .cells #[.slice none 0 0, .slice none 0 0] 28 (0, 0)) (bk_ BK727) hg (Kd.S_ne HO_735001.out BK727.out (by decide))); have n2_ := Aside0.mk (blk_grown (g := gb734) (o := .cells #[u735000, u735001] 28 (0, 0)) (bk_ BK734) hg (Kd.S_ne HO_735001.out BK734.out (by decide))); have n3_ := Aside0.mk (IsS92.grown (by repeat (first | (with_reducible first | exact HI0.out | apply IsS92.alloc | apply IsS92.drewN | apply IsS92.drew | apply IsS92.set_1 | apply IsS92.set_2 | refine IsS92.far ?_ NB0_727.out _ | refine IsS92.far ?_ NB0_734.out _) | exact HI0.out)) hg (IsS92.own_neS HI0.out HO_735001.out (by decide))); have n4_ := Aside0.mk (below_weaken (by repeat (first | (with_reducible first | exact HB.out | apply below_alloc | apply pw_below_drewN | apply below_drew1 | refine below_set ?_ (IsS92.ge HI0.out) | refine below_set ?_ GE727.out | refine below_set ?_ GE734.out) | exact HB.out)) HL.out hb); have n5_ := Aside0.mk (KeepBut.trans (by repeat (first | (with_reducible first | exact HK.out | apply KeepBut.set_ | apply keep_drewN | apply keep_drew | apply keep_alloc | refine keep_far ?_ GW727.out _ | refine keep_far ?_ GW734.out _) | exact HK.out)) (KeepBut.of_grown hg g) (Kd.S_base2 HO_735001.out)); have n6_ := Aside0.mk (ho); clear HO_735000; clear BK727; clear BK734; clear HI0; clear HB; clear HK; clear HO_735001; clear HO_8; have HO_735000 := n0_; have BK727 := n1_; have BK734 := n2_; have HI0 := n3_; have HB := n4_; have HK := n5_; have HO773 := n6_; clear n0_ n1_ n2_ n3_ n4_ n5_ n6_; clear ho hb hg hat; obtain ⟨Ao67, co67, eo67⟩ := Kd.S_slice HO773.out; subst eo67; have hcz68_0 : w65.cell? ⟨gb734, 0, none⟩ = some (u735000) := (blk_cell BK734.out 0).trans rfl; have hcz68_1 : w65.cell? ⟨gb734, 1, none⟩ = some (u735001) := (blk_cell BK734.out 1).trans rfl; have hfz68_0 := blk_frozen BK734.out 0; have hfz68_1 := blk_frozen BK734.out 1))
           go_roundg k3
           case measure => have := HK1.out; have := HK2.out; have := HK3.out; omega
           case rel => exact ⟨(wrap64 (x7_2 - 1)), (x1001_3), (x1002_3), (y771), (.slice Ao67 y771.length co67), (by first | rfl | (simp; done) | (simp [*]; done)), H', ⟨by have := HK1.out; have := HK2.out; have := HK3.out; omega⟩, ⟨by (with_reducible repeat (first | apply Kd.R_alloc | apply Kd.R_drewN | apply Kd.R_drew)); exact Kd.R_mono (Kd.R_far (p := ⟨gb734, 1, none⟩) (Kd.R_types HO_735000.out BK734.out (by decide)) (fun _ hk => hk.2) (.slice Ao67 y771.length co67)) (fun _ hk => trivial)⟩, ⟨by (with_reducible repeat (first | apply Kd.S_alloc | apply Kd.S_drewN | apply Kd.S_drew)); exact Kd.S_mono (Kd.S_far (p := ⟨gb734, 1, none⟩) (Kd.S_types HO773.out BK734.out (by decide)) (fun _ hk => hk.2) (.slice Ao67 y771.length co67)) (fun _ hk => hk.1)⟩, ⟨by (with_reducible repeat (first | refine blk_drewN ?_ _ | refine blk_drew ?_ | refine blk_alloc ?_ _)); refine blk_far ?_ NB727_734.out _; (with_reducible repeat (first | refine blk_drewN ?_ _ | refine blk_drew ?_ | refine blk_alloc ?_ _)); exact BK727.out⟩, ⟨by (with_reducible repeat (first | refine blk_drewN ?_ _ | refine blk_drew ?_ | refine blk_alloc ?_ _)); refine blk_put (cs := #[u735000, u735001]) ?_ 1 _ rfl; (with_reducible repeat (first | refine blk_drewN ?_ _ | refine blk_drew ?_ | refine blk_alloc ?_ _)); exact BK734.out⟩, ⟨by repeat (first | (with_reducible first | exact HI0.out | apply IsS92.alloc | apply IsS92.drewN | apply IsS92.drew | apply IsS92.set_1 | apply IsS92.set_2 | refine IsS92.far ?_ NB0_727.out _ | refine IsS92.far ?_ NB0_734.out _) | exact HI0.out)⟩, ⟨by repeat (first | (with_reducible first | exact HK.out | apply KeepBut.set_ | apply keep_drewN | apply keep_drew | apply keep_alloc | refine keep_far ?_ GW727.out _ | refine keep_far ?_ GW734.out _) | exact HK.out)⟩, ⟨by repeat (first | (with_reducible first | exact HB.out | apply below_alloc | apply pw_below_drewN | apply below_drew1 | refine below_set ?_ (IsS92.ge HI0.out) | refine below_set ?_ GE727.out | refine below_set ?_ GE734.out) | exact HB.out)⟩⟩
          ·rw [if_neg c61] at H
           exact absurd H (by simp)
      ·rw [if_neg c48] at H
       have c48b0 : decide (0 < x7_2) = false := decide_eq_false c48
       clear c48
       simp only [Option.some.injEq, Prod.mk.injEq] at H
       obtain ⟨rfl, rfl, rfl, rfl⟩ := H
       have hnb69 := NB734_727.out
       have hnc69 := NB727_734.out
       have hnb70 := NB734_0.out
       have hnc70 := NB0_734.out
       have hcz71_0 : wr.cell? ⟨gb734, 0, none⟩ = some (u735000) := (blk_cell BK734.out 0).trans rfl
       have hcz71_1 : wr.cell? ⟨gb734, 1, none⟩ = some (u735001) := (blk_cell BK734.out 1).trans rfl
       have hfz71_0 := blk_frozen BK734.out 0
       have hfz71_1 := blk_frozen BK734.out 1
       obtain ⟨Ao72, co72, eo72⟩ := Kd.R_slice HO_735000.out
       subst eo72
       have hnb73 := NB727_0.out
       have hnc73 := NB0_727.out
       have hcz74_0 : wr.cell? ⟨gb727, 0, none⟩ = some (.slice none 0 0) := (blk_cell BK727.out 0).trans rfl
       have hcz74_1 : wr.cell? ⟨gb727, 1, none⟩ = some (.slice none 0 0) := (blk_cell BK727.out 1).trans rfl
       have hfz74_0 := blk_frozen BK727.out 0
       have hfz74_1 := blk_frozen BK727.out 1
       obtain ⟨Ao75, co75, eo75⟩ := Kd.S_slice HO_735001.out
       subst eo75
       go_wp2
       refine bodyPost_ret (results_cell_row rfl _ _ gb727 28 #[.slice Ao72 x735000_1.length co72, .slice Ao75 x735001_2.length co75] (0, 0) _ rfl (by (with_reducible repeat (first | refine blk_drewN ?_ _ | refine blk_drew ?_ | refine blk_alloc ?_ _)); refine blk_put (cs := #[.slice Ao72 x735000_1.length co72, .slice none 0 0]) ?_ 1 _ rfl; (with_reducible repeat (first | refine blk_drewN ?_ _ | refine blk_drew ?_ | refine blk_alloc ?_ _)); refine blk_put (cs := #[.slice none 0 0, .slice none 0 0]) ?_ 0 _ rfl; (with_reducible repeat (first | refine blk_drewN ?_ _ | refine blk_drew ?_ | refine blk_alloc ?_ _)); exact BK727.out) Try.underlying28 rfl (by kernel_rfl)) rfl ?_
       exact ⟨_, _, ew_, by (with_reducible repeat (first | apply Kd.R_alloc | apply Kd.R_drewN | apply Kd.R_drew)); exact Kd.R_mono (Kd.R_far (p := ⟨gb727, 1, none⟩) (Kd.R_far (p := ⟨gb727, 0, none⟩) (Kd.R_types HO_735000.out BK727.out (by decide)) (fun _ hk => hk.2) (.slice Ao72 x735000_1.length co72)) (fun _ hk => hk.2) (.slice Ao75 x735001_2.length co75)) (fun _ hk => trivial), by (with_reducible repeat (first | apply Kd.S_alloc | apply Kd.S_drewN | apply Kd.S_drew)); exact Kd.S_mono (Kd.S_far (p := ⟨gb727, 1, none⟩) (Kd.S_far (p := ⟨gb727, 0, none⟩) (Kd.S_types HO_735001.out BK727.out (by decide)) (fun _ hk => hk.2) (.slice Ao72 x735000_1.length co72)) (fun _ hk => hk.2) (.slice Ao75 x735001_2.length co75)) (fun _ hk => hk.1), by repeat (first | (with_reducible first | exact HI0.out | apply IsS92.alloc | apply IsS92.drewN | apply IsS92.drew | apply IsS92.set_1 | apply IsS92.set_2 | refine IsS92.far ?_ NB0_727.out _ | refine IsS92.far ?_ NB0_734.out _) | exact HI0.out), by repeat (first | (with_reducible first | exact HB.out | apply below_alloc | apply pw_below_drewN | apply below_drew1 | refine below_set ?_ (IsS92.ge HI0.out) | refine below_set ?_ GE727.out | refine below_set ?_ GE734.out) | exact HB.out), by repeat (first | (with_reducible first | exact HK.out | apply KeepBut.set_ | apply keep_drewN | apply keep_drew | apply keep_alloc | refine keep_far ?_ GW727.out _ | refine keep_far ?_ GW734.out _) | exact HK.out)⟩

/-! ### spec_A2Deck: function 44 -/
def spec_A2Deck.l0 : Nat → List Int → Int → List Int → Int → Int → List Int → List (List Int) → Option (List Int × (List (List Int)) × ByteArray)
 | 0, _, _, _, _, _, _, _ => none
 | k + 1, x6, x7, x779000, x779001, x779002, x788000, x788001 => if x7 < (x788000.length : Int) then ((spec_l00Src_pick.f x779000 x779001 x779002 3).bind fun bt791 => (if 0 ≤ bt791.1 then (if bt791.1 < 3 then (if x6.length < 140737488355328 then (spec_A2Deck.l0 k (x6 ++ [bt (⟨#[70, 70, 76]⟩ : ByteArray) bt791.1]) (wrap64 (x7 + 1)) x779000 bt791.2.1 bt791.2.2 x788000 x788001) else (none)) else (none)) else (none))) else (some (x788000, x788001, strOfNums x6))
def spec_A2Deck.f (k : Nat) (l0 : List Int) : Option (List Int × (List (List Int)) × ByteArray) := (spec_l00From.f l0).bind fun bt775 => ((spec_l20Draw.f k bt775.1 bt775.2.1 bt775.2.2).bind fun bt779 => (spec_A2Deck.l0 k (([] : List Int)) 0 bt775.1 bt779.2.2.1 bt779.2.2.2 bt779.1 bt779.2.1))
set_option maxHeartbeats 8000000 in
set_option maxRecDepth 100000 in
theorem spec_A2Deck.calls (k : Nat) (A0 : Option Addr) (c0 : Nat) (l0 : List Int) (r1 : List Int) (r2 : List (List Int)) (r3 : ByteArray) (w : World) (hr0 : Kd.C (Kd.int .u8) w A0 l0.length l0) (hc0 : l0.length ≤ c0) (h : spec_A2Deck.f k l0 = some (r1, r2, r3)) :
  Calls Try.prog 44 #[.slice A0 l0.length c0] w fun e w' => ∃ v0_ v1_ : Value, e = .returned (.tuple #[.agg #[v0_, v1_], .string r3]) ∧ Kd.R (Kd.int .i64) 2 w' w.heap.size (fun _ => True) v0_ r1 ∧ Kd.S (Kd.slice 2 (Kd.int .i64)) 22 w' w.heap.size (fun k_ => some k_ ≠ (v0_ : Value).ownBlock) v1_ r2 ∧ Below w.heap.size w w' := by
 have hu28 := Try.underlying28
 have HR0 := Aside0.mk hr0
 have HC0 := Aside0.mk hc0
 clear hr0 hc0
 have HB := Aside0.mk (Below.refl w.heap.size w)
 have H : ((spec_l00From.f l0).bind fun bt775 => ((spec_l20Draw.f k bt775.1 bt775.2.1 bt775.2.2).bind fun bt779 => (spec_A2Deck.l0 k (([] : List Int)) 0 bt775.1 bt779.2.2.1 bt779.2.2.2 bt779.1 bt779.2.1))) = some (r1, r2, r3) := h
 clear h
 replace H := Option.bind_eq_some_iff.mp H
 obtain ⟨⟨t775, t776, t777⟩, A20, H⟩ := H
 replace H : ((spec_l20Draw.f k t775 t776 t777).bind fun bt779 => (spec_A2Deck.l0 k (([] : List Int)) 0 t775 bt779.2.2.1 bt779.2.2.2 bt779.1 bt779.2.1)) = some (r1, r2, r3) := H
 have A2 := Aside0.mk A20
 clear A20
 replace H := Option.bind_eq_some_iff.mp H
 obtain ⟨⟨t779, t782, t785, t786⟩, A30, H⟩ := H
 replace H : (spec_A2Deck.l0 k (([] : List Int)) 0 t775 t785 t786 t779 t782) = some (r1, r2, r3) := H
 have A3 := Aside0.mk A30
 clear A30
 obtain ⟨y788, hy788⟩ : ∃ y_ : List Int, y_ = (([] : List Int)) := ⟨_, rfl⟩
 replace H : (spec_A2Deck.l0 k y788 0 t775 t785 t786 t779 t782) = some (r1, r2, r3) := by first | (rw [hy788]; with_reducible exact H) | (have H2_ := (Option.bind_some _ _).symm.trans H; rw [hy788]; with_reducible exact H2_) | (have H2_ := (Option.bind_some _ _).symm.trans H; with_reducible exact H2_) | with_reducible exact H | (rw [hy788]; exact H) | exact H
 have Ny788 := Aside0.mk hy788
 clear hy788
 have H' := Aside0.mk H
 clear H
 go_enter Try.func44, Try.ntmps44
 go_wp2_with (first | ((with_reducible refine gate_dst (N := 2) rfl ?_); refine box_event ?hg (N := 2) ?hd (cs := #[.slice none 0 0, .slice none 0 0]) (t := 28) ?hr ?_; (case hd => rfl); (case hg => rfl); (case hr => first | (go_simp; done) | (go_simp; rfl)); intro gb774 hg w4 hbox hb; have n0_ := Aside0.mk (below_step hb_ hb); have n1_ := Aside0.mk (hbox); have n2_ := Aside0.mk ((by rw [hg]; exact (below_size hb_) : w.heap.size ≤ gb774)); have n3_ := Aside0.mk ((by rw [hg]; exact (below_size hb_) : w.heap.size ≤ gb774)); clear HB; have HB := n0_; have BK774 := n1_; have GW774 := n2_; have GE774 := n3_; clear n0_ n1_ n2_ n3_; clear hb hbox hg) | ((with_reducible refine gate_callee (f := 73) rfl ?_); refine goesL_ (some 9) rfl rfl Try.func73 (by kernel_rfl) rfl #[.slice A0 l0.length c0] rfl ln_ ?_; (with_reducible refine (spec_l00From.calls _ _ l0 t775 t776 t777 w _ ?side1 ?side2 ?side3 A2.out).mono ?_); (case side1 => repeat (first | (with_reducible first | exact HB.out | apply below_alloc | apply pw_below_drewN | apply below_drew1 | refine below_set ?_ GE774.out) | exact HB.out)); (case side2 => exact HR0.out); (case side3 => exact HC0.out); rintro e w5 ⟨g778, rfl, hi, hb, hb2⟩; refine ⟨_, rfl, ?_⟩; have n0_ := Aside0.mk (blk_below (g := gb774) (o := .cells #[.slice none 0 0, .slice none 0 0] 28 (0, 0)) (bk_ BK774) hb2); have n1_ := Aside0.mk (hb); have n2_ := Aside0.mk (hi); have n3_ := Aside0.mk (IsS92.ne_blk hi (blk_below (g := gb774) (o := .cells #[.slice none 0 0, .slice none 0 0] 28 (0, 0)) (bk_ BK774) hb2) (by decide)); have n4_ := Aside0.mk (Ne.symm (IsS92.ne_blk hi (blk_below (g := gb774) (o := .cells #[.slice none 0 0, .slice none 0 0] 28 (0, 0)) (bk_ BK774) hb2) (by decide))); clear BK774; clear HB; have BK774 := n0_; have HB := n1_; have HI778 := n2_; have NB778_774 := n3_; have NB774_778 := n4_; clear n0_ n1_ n2_ n3_ n4_; (try clear hb); (try clear hb2); (try clear hk); (try clear hi)) | ((with_reducible refine gate_callee (f := 74) rfl ?_); refine goesL_ (some 11) rfl rfl Try.func74 (by kernel_rfl) rfl #[.pointer (some ⟨g778, 0, none⟩)] rfl ln_ ?_; (with_reducible refine (spec_l20Draw.calls k g778 t775 t776 t777 t779 t782 t785 t786 w _ ?side1 ?side2 A3.out).mono ?_); (case side1 => repeat (first | (with_reducible first | exact HI778.out | apply IsS92.alloc | apply IsS92.drewN | apply IsS92.drew | apply IsS92.set_1 | apply IsS92.set_2 | refine IsS92.far ?_ NB778_774.out _) | exact HI778.out)); (case side2 => repeat (first | (with_reducible first | exact HB.out | apply below_alloc | apply pw_below_drewN | apply below_drew1 | refine below_set ?_ (IsS92.ge HI778.out) | refine below_set ?_ GE774.out) | exact HB.out)); rintro e w6 ⟨v780, v783, rfl, ho0, ho1, hi, hb, hk⟩; refine ⟨_, rfl, ?_⟩; have n0_ := Aside0.mk (KeepBut.blk hk (g' := gb774) (o := .cells #[.slice none 0 0, .slice none 0 0] 28 (0, 0)) (bk_ BK774) NB774_778.out (by simp)); have n1_ := Aside0.mk (Kd.R_lower ho0 (below_size (by repeat (first | (with_reducible first | exact HB.out | apply below_alloc | apply pw_below_drewN | apply below_drew1 | refine below_set ?_ (IsS92.ge HI778.out) | refine below_set ?_ GE774.out) | exact HB.out)))); have n2_ := Aside0.mk (Kd.S_lower ho1 (below_size (by repeat (first | (with_reducible first | exact HB.out | apply below_alloc | apply pw_below_drewN | apply below_drew1 | refine below_set ?_ (IsS92.ge HI778.out) | refine below_set ?_ GE774.out) | exact HB.out)))); have n3_ := Aside0.mk (hb); have n4_ := Aside0.mk (hi); clear BK774; clear HB; clear HI778; have BK774 := n0_; have HO781 := n1_; have HO784 := n2_; have HB := n3_; have HI778 := n4_; clear n0_ n1_ n2_ n3_ n4_; (try clear hb); (try clear hb2); (try clear hk); (try clear hi); (try clear ho0); (try clear ho1)) | ((with_reducible refine gate_dst (N := 5) rfl ?_); refine box_event ?hg (N := 5) ?hd (cs := #[.slice none 0 0, .slice none 0 0]) (t := 28) ?hr ?_; (case hd => rfl); (case hg => rfl); (case hr => first | (go_simp; done) | (go_simp; rfl)); intro gb787 hg w7 hbox hb; have n0_ := Aside0.mk (Kd.R_below (kr_ HO781) hb); have n1_ := Aside0.mk (Kd.S_below (by (with_reducible repeat (first | apply Kd.S_alloc | apply Kd.S_drewN | apply Kd.S_drew)); exact HO784.out) hb); have n2_ := Aside0.mk (blk_below (g := gb774) (o := .cells #[.slice none 0 0, .slice none 0 0] 28 (0, 0)) (bk_ BK774) hb); have n3_ := Aside0.mk (IsS92.below (by repeat (first | (with_reducible first | exact HI778.out | apply IsS92.alloc | apply IsS92.drewN | apply IsS92.drew | apply IsS92.set_1 | apply IsS92.set_2 | refine IsS92.far ?_ NB778_774.out _) | exact HI778.out)) hb); have n4_ := Aside0.mk (below_step (by repeat (first | (with_reducible first | exact HB.out | apply below_alloc | apply pw_below_drewN | apply below_drew1 | refine below_set ?_ (IsS92.ge HI778.out) | refine below_set ?_ GE774.out) | exact HB.out)) hb); have n5_ := Aside0.mk (hbox); have n6_ := Aside0.mk ((by rw [hg]; exact (below_size (by repeat (first | (with_reducible first | exact HB.out | apply below_alloc | apply pw_below_drewN | apply below_drew1 | refine below_set ?_ (IsS92.ge HI778.out) | refine below_set ?_ GE774.out) | exact HB.out))) : w.heap.size ≤ gb787)); have n7_ := Aside0.mk ((by rw [hg]; exact (below_size (by repeat (first | (with_reducible first | exact HB.out | apply below_alloc | apply pw_below_drewN | apply below_drew1 | refine below_set ?_ (IsS92.ge HI778.out) | refine below_set ?_ GE774.out) | exact HB.out))) : w.heap.size ≤ gb787)); have n8_ := Aside0.mk ((by rw [hg]; exact Nat.ne_of_lt (blk_lt (g := gb774) (o := .cells #[.slice none 0 0, .slice none 0 0] 28 (0, 0)) (bk_ BK774)) : gb774 ≠ gb787)); have n9_ := Aside0.mk ((by rw [hg]; exact Nat.ne_of_gt (blk_lt (g := gb774) (o := .cells #[.slice none 0 0, .slice none 0 0] 28 (0, 0)) (bk_ BK774)) : gb787 ≠ gb774)); have n10_ := Aside0.mk ((by rw [hg]; exact Nat.ne_of_lt (IsS92.lt (show IsS92 w _ g778 t775 t785 t786 from by repeat (first | (with_reducible first | exact HI778.out | apply IsS92.alloc | apply IsS92.drewN | apply IsS92.drew | apply IsS92.set_1 | apply IsS92.set_2 | refine IsS92.far ?_ NB778_774.out _) | exact HI778.out))) : g778 ≠ gb787)); have n11_ := Aside0.mk ((by rw [hg]; exact Nat.ne_of_gt (IsS92.lt (show IsS92 w _ g778 t775 t785 t786 from by repeat (first | (with_reducible first | exact HI778.out | apply IsS92.alloc | apply IsS92.drewN | apply IsS92.drew | apply IsS92.set_1 | apply IsS92.set_2 | refine IsS92.far ?_ NB778_774.out _) | exact HI778.out))) : gb787 ≠ g778)); clear HO781; clear HO784; clear BK774; clear HI778; clear HB; have HO781 := n0_; have HO784 := n1_; have BK774 := n2_; have HI778 := n3_; have HB := n4_; have BK787 := n5_; have GW787 := n6_; have GE787 := n7_; have NB774_787 := n8_; have NB787_774 := n9_; have NB778_787 := n10_; have NB787_778 := n11_; clear n0_ n1_ n2_ n3_ n4_ n5_ n6_ n7_ n8_ n9_ n10_ n11_; clear hb hbox hg; obtain ⟨Ao8, co8, eo8⟩ := Kd.R_slice HO781.out; subst eo8; have hnb9 := NB787_774.out; have hnc9 := NB774_787.out; have hnb10 := NB787_778.out; have hnc10 := NB778_787.out; have hcz11_0 : w7.cell? ⟨gb787, 0, none⟩ = some (.slice none 0 0) := (blk_cell BK787.out 0).trans rfl; have hcz11_1 : w7.cell? ⟨gb787, 1, none⟩ = some (.slice none 0 0) := (blk_cell BK787.out 1).trans rfl; have hfz11_0 := blk_frozen BK787.out 0; have hfz11_1 := blk_frozen BK787.out 1; obtain ⟨Ao12, co12, eo12⟩ := Kd.S_slice HO784.out; subst eo12) | ((with_reducible refine gate_dst (N := 12) rfl ?_); refine Kd.R_lit (Kd.int .u8) _ 5 ?hg (N := 12) ?hd (xs := ([] : List Int)) (inner := []) (ok := fun _ => True) (okp := fun _ => True) ?hr ?hp (fun _ hk => hk) trivial (Below.refl _ _) (Nat.le_refl _) (by simp) ?_; (case hd => rfl); (case hg => rfl); (case hr => first | (go_simp; done) | (go_simp; rfl)); (case hp => exact (Reps.none _ _)); intro v789 w13 ho14 hb hg_ hnew_; clear hg_ hnew_; (first | rw [← Ny788.out] at ho14 | (simp only [Int.reduceToNat] at ho14; rw [← Ny788.out] at ho14)); have n0_ := Aside0.mk (Kd.R_below (by (with_reducible repeat (first | apply Kd.R_alloc | apply Kd.R_drewN | apply Kd.R_drew)); exact (Kd.R_mono (Kd.R_far (p := ⟨gb787, 1, none⟩) (Kd.R_far (p := ⟨gb787, 0, none⟩) (Kd.R_types HO781.out BK787.out (by decide)) (fun _ hk => hk.2) (.slice Ao8 t779.length co8)) (fun _ hk => hk.2) (.slice Ao12 t782.length co12)) (fun _ h_ => h_.1))) hb); have n1_ := Aside0.mk (Kd.S_below (by (with_reducible repeat (first | apply Kd.S_alloc | apply Kd.S_drewN | apply Kd.S_drew)); exact (Kd.S_mono (Kd.S_far (p := ⟨gb787, 1, none⟩) (Kd.S_far (p := ⟨gb787, 0, none⟩) (Kd.S_types HO784.out BK787.out (by decide)) (fun _ hk => hk.2) (.slice Ao8 t779.length co8)) (fun _ hk => hk.2) (.slice Ao12 t782.length co12)) (fun _ h_ => h_.1))) hb); have n2_ := Aside0.mk (Kd.R_lower ho14 (below_size (by repeat (first | (with_reducible first | exact HB.out | apply below_alloc | apply pw_below_drewN | apply below_drew1 | refine below_set ?_ (IsS92.ge HI778.out) | refine below_set ?_ GE774.out | refine below_set ?_ GE787.out) | exact HB.out)))); have n3_ := Aside0.mk (blk_below (g := gb774) (o := .cells #[.slice none 0 0, .slice none 0 0] 28 (0, 0)) (by (with_reducible repeat (first | refine blk_drewN ?_ _ | refine blk_drew ?_ | refine blk_alloc ?_ _)); refine blk_far ?_ NB774_787.out _; (with_reducible repeat (first | refine blk_drewN ?_ _ | refine blk_drew ?_ | refine blk_alloc ?_ _)); refine blk_far ?_ NB774_787.out _; (with_reducible repeat (first | refine blk_drewN ?_ _ | refine blk_drew ?_ | refine blk_alloc ?_ _)); exact BK774.out) hb); have n4_ := Aside0.mk (IsS92.below (show IsS92 w ((w7.setCell ⟨gb787, 0, none⟩ (.slice Ao8 t779.length co8)).setCell ⟨gb787, 1, none⟩ (.slice Ao12 t782.length co12)) g778 t775 t785 t786 from by repeat (first | (with_reducible first | exact HI778.out | apply IsS92.alloc | apply IsS92.drewN | apply IsS92.drew | apply IsS92.set_1 | apply IsS92.set_2 | refine IsS92.far ?_ NB778_774.out _ | refine IsS92.far ?_ NB778_787.out _) | exact HI778.out)) hb); have n5_ := Aside0.mk (blk_below (g := gb787) (o := .cells #[.slice Ao8 t779.length co8, .slice Ao12 t782.length co12] 28 (0, 0)) (by (with_reducible repeat (first | refine blk_drewN ?_ _ | refine blk_drew ?_ | refine blk_alloc ?_ _)); refine blk_put (cs := #[.slice Ao8 t779.length co8, .slice none 0 0]) ?_ 1 _ rfl; (with_reducible repeat (first | refine blk_drewN ?_ _ | refine blk_drew ?_ | refine blk_alloc ?_ _)); refine blk_put (cs := #[.slice none 0 0, .slice none 0 0]) ?_ 0 _ rfl; (with_reducible repeat (first | refine blk_drewN ?_ _ | refine blk_drew ?_ | refine blk_alloc ?_ _)); exact BK787.out) hb); have n6_ := Aside0.mk (below_step (by repeat (first | (with_reducible first | exact HB.out | apply below_alloc | apply pw_below_drewN | apply below_drew1 | refine below_set ?_ (IsS92.ge HI778.out) | refine below_set ?_ GE774.out | refine below_set ?_ GE787.out) | exact HB.out)) hb); clear HO781; clear HO784; clear BK774; clear HI778; clear BK787; clear HB; have HO781 := n0_; have HO784 := n1_; have HO790 := n2_; have BK774 := n3_; have HI778 := n4_; have BK787 := n5_; have HB := n6_; clear n0_ n1_ n2_ n3_ n4_ n5_ n6_; clear hb ho14))
 go_loopg [6, 7] k (fun kq v6 v7 w' => ∃ (x6_1 : List Int) (x7_1 : Int) (x779001_1 : Int) (x779002_1 : Int), v7 = .int .i64 x7_1 ∧ Aside0 (spec_A2Deck.l0 kq x6_1 x7_1 t775 x779001_1 x779002_1 t779 t782 = some (r1, r2, r3)) ∧ Aside0 (kq ≤ k) ∧ Aside0 (Kd.R (Kd.int .u8) 5 w' w.heap.size (fun _ => True) v6 x6_1) ∧ Aside0 (Kd.R (Kd.int .i64) 2 w' w.heap.size (fun _ => True) (.slice Ao8 t779.length co8) t779) ∧ Aside0 (Kd.S (Kd.slice 2 (Kd.int .i64)) 22 w' w.heap.size (fun k_ => some k_ ≠ ((.slice Ao8 t779.length co8) : Value).ownBlock) (.slice Ao12 t782.length co12) t782) ∧ Aside0 (w'.heap[gb774]? = some (.cells #[(.slice none 0 0), (.slice none 0 0)] 28 (0, 0))) ∧ Aside0 (w'.heap[gb787]? = some (.cells #[(.slice Ao8 t779.length co8), (.slice Ao12 t782.length co12)] 28 (0, 0))) ∧ Aside0 (IsS92 w w' g778 t775 x779001_1 x779002_1) ∧ Aside0 (Below w.heap.size w w'))
 case atStart => exact ⟨(y788), (0), (t785), (t786), (by first | rfl | (simp; done) | (simp [*]; done)), H', ⟨Nat.le_refl _⟩, ⟨by (with_reducible repeat (first | apply Kd.R_alloc | apply Kd.R_drewN | apply Kd.R_drew)); exact HO790.out⟩, ⟨by (with_reducible repeat (first | apply Kd.R_alloc | apply Kd.R_drewN | apply Kd.R_drew)); exact HO781.out⟩, ⟨by (with_reducible repeat (first | apply Kd.S_alloc | apply Kd.S_drewN | apply Kd.S_drew)); exact HO784.out⟩, ⟨by (with_reducible repeat (first | refine blk_drewN ?_ _ | refine blk_drew ?_ | refine blk_alloc ?_ _)); exact BK774.out⟩, ⟨by (with_reducible repeat (first | refine blk_drewN ?_ _ | refine blk_drew ?_ | refine blk_alloc ?_ _)); exact BK787.out⟩, ⟨by repeat (first | (with_reducible first | exact HI778.out | apply IsS92.alloc | apply IsS92.drewN | apply IsS92.drew | apply IsS92.set_1 | apply IsS92.set_2 | refine IsS92.far ?_ NB778_774.out _ | refine IsS92.far ?_ NB778_787.out _) | exact HI778.out)⟩, ⟨by repeat (first | (with_reducible first | exact HB.out | apply below_alloc | apply pw_below_drewN | apply below_drew1 | refine below_set ?_ (IsS92.ge HI778.out) | refine below_set ?_ GE774.out | refine below_set ?_ GE787.out) | exact HB.out)⟩⟩
 case round =>
  clear H'
  try clear c1
  try clear p2
  try clear c4
  try clear c7
  try clear c9
  try clear c10
  try clear hcz11_0
  try clear hcz11_1
  try clear hfz11_0
  try clear hfz11_1
  obtain ⟨x6_1, x7_1, x779001_1, x779002_1, rfl, HA, HK1, HO_6, HO_788000, HO_788001, BK774, BK787, HI778, HB⟩ := hrel
  cases gk with
  | zero => exact absurd HA.out (by simp [spec_A2Deck.l0])
  | succ k1 =>
   have H := HA.out
   clear HA
   simp only [spec_A2Deck.l0] at H
   by_cases c15 : x7_1 < (t779.length : Int)
   ·rw [if_pos c15] at H
    have c15b0 : decide (x7_1 < (t779.length : Int)) = true := decide_eq_true c15
    clear c15
    replace H := Option.bind_eq_some_iff.mp H
    obtain ⟨⟨t791, t792, t793⟩, A160, H⟩ := H
    replace H : (if 0 ≤ t791 then (if t791 < 3 then (if x6_1.length < 140737488355328 then (spec_A2Deck.l0 k1 (x6_1 ++ [bt (⟨#[70, 70, 76]⟩ : ByteArray) t791]) (wrap64 (x7_1 + 1)) t775 t792 t793 t779 t782) else (none)) else (none)) else (none)) = some (r1, r2, r3) := H
    have A16 := Aside0.mk A160
    clear A160
    by_cases c17 : 0 ≤ t791
    ·rw [if_pos c17] at H
     have c17b0 : decide (0 ≤ t791) = true := decide_eq_true c17
     clear c17
     by_cases c18 : t791 < 3
     ·rw [if_pos c18] at H
      have c18b0 : decide (t791 < 3) = true := decide_eq_true c18
      clear c18
      by_cases c20 : x6_1.length < 140737488355328
      ·rw [if_pos c20] at H
       have LMc20 := Aside0.mk c20
       clear c20
       obtain ⟨y794, hy794⟩ : ∃ y_ : List Int, y_ = (x6_1 ++ [bt (⟨#[70, 70, 76]⟩ : ByteArray) t791]) := ⟨_, rfl⟩
       replace H : (spec_A2Deck.l0 k1 y794 (wrap64 (x7_1 + 1)) t775 t792 t793 t779 t782) = some (r1, r2, r3) := by first | (rw [hy794]; with_reducible exact H) | (have H2_ := (Option.bind_some _ _).symm.trans H; rw [hy794]; with_reducible exact H2_) | (have H2_ := (Option.bind_some _ _).symm.trans H; with_reducible exact H2_) | with_reducible exact H | (rw [hy794]; exact H) | exact H
       have Ny794 := Aside0.mk hy794
       clear hy794
       have H' := Aside0.mk H
       clear H
       have hnb21 := NB787_774.out
       have hnc21 := NB774_787.out
       have hnb22 := NB787_778.out
       have hnc22 := NB778_787.out
       have hcz23_0 : wr.cell? ⟨gb787, 0, none⟩ = some (.slice Ao8 t779.length co8) := (blk_cell BK787.out 0).trans rfl
       have hcz23_1 : wr.cell? ⟨gb787, 1, none⟩ = some (.slice Ao12 t782.length co12) := (blk_cell BK787.out 1).trans rfl
       have hfz23_0 := blk_frozen BK787.out 0
       have hfz23_1 := blk_frozen BK787.out 1
       go_wp2_with (first | ((with_reducible refine gate_callee (f := 75) rfl ?_); refine goesL_ (some 22) rfl rfl Try.func75 (by kernel_rfl) rfl #[.pointer (some ⟨g778, 0, none⟩), .int .i64 3] rfl ln_ ?_; (with_reducible refine (spec_l00Src_pick.calls g778 t775 x779001_1 x779002_1 3 t791 t792 t793 w _ ?side1 ?side2 A16.out).mono ?_); (case side1 => repeat (first | (with_reducible first | exact HI778.out | apply IsS92.alloc | apply IsS92.drewN | apply IsS92.drew | apply IsS92.set_1 | apply IsS92.set_2 | refine IsS92.far ?_ NB778_774.out _ | refine IsS92.far ?_ NB778_787.out _) | exact HI778.out)); (case side2 => repeat (first | (with_reducible first | exact HB.out | apply below_alloc | apply pw_below_drewN | apply below_drew1 | refine below_set ?_ (IsS92.ge HI778.out) | refine below_set ?_ GE774.out | refine below_set ?_ GE787.out) | exact HB.out)); rintro e w24 ⟨rfl, hi, hb, hk⟩; refine ⟨_, rfl, ?_⟩; have n0_ := Aside0.mk (Kd.R_mono (Kd.R_keep (IsS92.apart (show IsS92 w _ g778 t775 x779001_1 x779002_1 from by repeat (first | (with_reducible first | exact HI778.out | apply IsS92.alloc | apply IsS92.drewN | apply IsS92.drew | apply IsS92.set_1 | apply IsS92.set_2 | refine IsS92.far ?_ NB778_774.out _ | refine IsS92.far ?_ NB778_787.out _) | exact HI778.out)) (kr_ HO_6) (by decide)) hk (fun _ h => h.2)) (fun _ h => h.1)); have n1_ := Aside0.mk (Kd.R_mono (Kd.R_keep (IsS92.apart (show IsS92 w _ g778 t775 x779001_1 x779002_1 from by repeat (first | (with_reducible first | exact HI778.out | apply IsS92.alloc | apply IsS92.drewN | apply IsS92.drew | apply IsS92.set_1 | apply IsS92.set_2 | refine IsS92.far ?_ NB778_774.out _ | refine IsS92.far ?_ NB778_787.out _) | exact HI778.out)) (kr_ HO_788000) (by decide)) hk (fun _ h => h.2)) (fun _ h => h.1)); have n2_ := Aside0.mk (Kd.S_mono (Kd.S_keep (IsS92.apartS (show IsS92 w _ g778 t775 x779001_1 x779002_1 from by repeat (first | (with_reducible first | exact HI778.out | apply IsS92.alloc | apply IsS92.drewN | apply IsS92.drew | apply IsS92.set_1 | apply IsS92.set_2 | refine IsS92.far ?_ NB778_774.out _ | refine IsS92.far ?_ NB778_787.out _) | exact HI778.out)) (by (with_reducible repeat (first | apply Kd.S_alloc | apply Kd.S_drewN | apply Kd.S_drew)); exact HO_788001.out) (by decide)) hk (fun _ h => h.2)) (fun _ h => h.1)); have n3_ := Aside0.mk (KeepBut.blk hk (g' := gb774) (o := .cells #[.slice none 0 0, .slice none 0 0] 28 (0, 0)) (bk_ BK774) NB774_778.out (by simp)); have n4_ := Aside0.mk (KeepBut.blk hk (g' := gb787) (o := .cells #[.slice Ao8 t779.length co8, .slice Ao12 t782.length co12] 28 (0, 0)) (bk_ BK787) NB787_778.out (by simp)); have n5_ := Aside0.mk (hb); have n6_ := Aside0.mk (hi); clear HO_6; clear HO_788000; clear HO_788001; clear BK774; clear BK787; clear HB; clear HI778; have HO_6 := n0_; have HO_788000 := n1_; have HO_788001 := n2_; have BK774 := n3_; have BK787 := n4_; have HB := n5_; have HI778 := n6_; clear n0_ n1_ n2_ n3_ n4_ n5_ n6_; (try clear hb); (try clear hb2); (try clear hk); (try clear hi); have p19 : 0 ≤ (t791 : Int) := od_; have q19 : t791 < (3 : Int) := od_; have hx19 := bt_at (⟨#[70, 70, 76]⟩ : ByteArray) t791; replace p19 := eq_true p19; replace q19 := eq_true q19) | ((with_reducible refine gate_builtin (b := .append) (xs := #[.tmp 20, .tmp 24]) rfl ?_); at_builtin; refine Kd.R_append (Kd.int .u8) (w0 := w) w.heap.size rfl (.tmp 20) (.tmp 24) 49 5 (.int .u8 0) 1 rfl Try.underlying49 info5 rfl (by decide) (by omega) u6 x6_1 (bt (⟨#[70, 70, 76]⟩ : ByteArray) t791) [.int .u8 (bt (⟨#[70, 70, 76]⟩ : ByteArray) t791)] (fun _ => True) (fun _ => False) rfl rfl ?aP (fun _ hk => hk.elim) ?aF ?aO ?aB ?aS ?aL ?_; (case aP => exact rfl); (case aB => exact (by repeat (first | (with_reducible first | exact HB.out | apply below_alloc | apply pw_below_drewN | apply below_drew1 | refine below_set ?_ (IsS92.ge HI778.out) | refine below_set ?_ GE774.out | refine below_set ?_ GE787.out) | exact HB.out))); (case aF => exact (fun _ _ => trivial)); (case aO => exact (kr_ HO_6)); (case aS => exact (below_size (by repeat (first | (with_reducible first | exact HB.out | apply below_alloc | apply pw_below_drewN | apply below_drew1 | refine below_set ?_ (IsS92.ge HI778.out) | refine below_set ?_ GE774.out | refine below_set ?_ GE787.out) | exact HB.out)))); (case aL => have := LMc20.out; omega); intro v795 w25 ho hb hg hat; rw [← Ny794.out] at ho; have n0_ := Aside0.mk (Kd.R_over' (kr_ HO_788000) (Kd.R_typed (kr_ HO_6)) (by decide) hg); have n1_ := Aside0.mk (Kd.S_over' (by (with_reducible repeat (first | apply Kd.S_alloc | apply Kd.S_drewN | apply Kd.S_drew)); exact HO_788001.out) (Kd.R_typed (kr_ HO_6)) (by decide) hg); have n2_ := Aside0.mk (blk_grown (g := gb774) (o := .cells #[.slice none 0 0, .slice none 0 0] 28 (0, 0)) (bk_ BK774) hg (Kd.R_ne HO_6.out BK774.out (by decide))); have n3_ := Aside0.mk (blk_grown (g := gb787) (o := .cells #[.slice Ao8 t779.length co8, .slice Ao12 t782.length co12] 28 (0, 0)) (bk_ BK787) hg (Kd.R_ne HO_6.out BK787.out (by decide))); have n4_ := Aside0.mk (IsS92.grown (by repeat (first | (with_reducible first | exact HI778.out | apply IsS92.alloc | apply IsS92.drewN | apply IsS92.drew | apply IsS92.set_1 | apply IsS92.set_2 | refine IsS92.far ?_ NB778_774.out _ | refine IsS92.far ?_ NB778_787.out _) | exact HI778.out)) hg (IsS92.own_ne HI778.out HO_6.out (by decide))); have n5_ := Aside0.mk (hb); have n6_ := Aside0.mk (ho); clear HO_788000; clear HO_788001; clear BK774; clear BK787; clear HI778; clear HB; clear HO_6; have HO_788000 := n0_; have HO_788001 := n1_; have BK774 := n2_; have BK787 := n3_; have HI778 := n4_; have HB := n5_; have HO796 := n6_; clear n0_ n1_ n2_ n3_ n4_ n5_ n6_; clear ho hb hg hat))
       go_roundg k1
       case measure => have := HK1.out; omega
       case rel => exact ⟨(y794), (wrap64 (x7_1 + 1)), (t792), (t793), (by first | rfl | (simp; done) | (simp [*]; done)), H', ⟨by have := HK1.out; omega⟩, ⟨by (with_reducible repeat (first | apply Kd.R_alloc | apply Kd.R_drewN | apply Kd.R_drew)); exact HO796.out⟩, ⟨by (with_reducible repeat (first | apply Kd.R_alloc | apply Kd.R_drewN | apply Kd.R_drew)); exact HO_788000.out⟩, ⟨by (with_reducible repeat (first | apply Kd.S_alloc | apply Kd.S_drewN | apply Kd.S_drew)); exact HO_788001.out⟩, ⟨by (with_reducible repeat (first | refine blk_drewN ?_ _ | refine blk_drew ?_ | refine blk_alloc ?_ _)); exact BK774.out⟩, ⟨by (with_reducible repeat (first | refine blk_drewN ?_ _ | refine blk_drew ?_ | refine blk_alloc ?_ _)); exact BK787.out⟩, ⟨by repeat (first | (with_reducible first | exact HI778.out | apply IsS92.alloc | apply IsS92.drewN | apply IsS92.drew | apply IsS92.set_1 | apply IsS92.set_2 | refine IsS92.far ?_ NB778_774.out _ | refine IsS92.far ?_ NB778_787.out _) | exact HI778.out)⟩, ⟨by repeat (first | (with_reducible first | exact HB.out | apply below_alloc | apply pw_below_drewN | apply below_drew1 | refine below_set ?_ (IsS92.ge HI778.out) | refine below_set ?_ GE774.out | refine below_set ?_ GE787.out) | exact HB.out)⟩⟩
      ·rw [if_neg c20] at H
       exact absurd H (by simp)
     ·rw [if_neg c18] at H
      exact absurd H (by simp)
    ·rw [if_neg c17] at H
     exact absurd H (by simp)
   ·rw [if_neg c15] at H
    have c15b0 : decide (x7_1 < (t779.length : Int)) = false := decide_eq_false c15
    clear c15
    simp only [Option.some.injEq, Prod.mk.injEq] at H
    obtain ⟨rfl, rfl, rfl⟩ := H
    have hnb26 := NB787_774.out
    have hnc26 := NB774_787.out
    have hnb27 := NB787_778.out
    have hnc27 := NB778_787.out
    have hcz28_0 : wr.cell? ⟨gb787, 0, none⟩ = some (.slice Ao8 t779.length co8) := (blk_cell BK787.out 0).trans rfl
    have hcz28_1 : wr.cell? ⟨gb787, 1, none⟩ = some (.slice Ao12 t782.length co12) := (blk_cell BK787.out 1).trans rfl
    have hfz28_0 := blk_frozen BK787.out 0
    have hfz28_1 := blk_frozen BK787.out 1
    try go_wp2
    have n0_ := Aside0.mk (Kd.R_drew HO_6.out)
    have n1_ := Aside0.mk (Kd.R_drew HO_788000.out)
    have n2_ := Aside0.mk (Kd.S_drew HO_788001.out)
    have n3_ := Aside0.mk (blk_drew BK774.out)
    have n4_ := Aside0.mk (blk_drew BK787.out)
    have n5_ := Aside0.mk (IsS92.drew HI778.out)
    have n6_ := Aside0.mk (below_drew1 HB.out)
    clear HO_6
    clear HO_788000
    clear HO_788001
    clear BK774
    clear BK787
    clear HI778
    clear HB
    have HO_6 := n0_
    have HO_788000 := n1_
    have HO_788001 := n2_
    have BK774 := n3_
    have BK787 := n4_
    have HI778 := n5_
    have HB := n6_
    clear n0_ n1_ n2_ n3_ n4_ n5_ n6_
    have hcv30 := own_string (P := Try.prog) Try.underlying49 Try.underlying5 Try.underlying9 (Kd.own_of_R HO_6.out)
    refine start_ (n := 5) (S := fun w' => w'.cell? ⟨gb787, 0, none⟩ = some (.slice Ao8 t779.length co8) ∧ w'.cell? ⟨gb787, 1, none⟩ = some (.slice Ao12 t782.length co12) ∧ (convert 49 9 u6).run Try.prog w' = .ok (.string (strOfNums x6_1)) w') (ds := []) #[F_,F_,F_,F_,F_] (by kernel_rfl) rfl rfl ⟨(blk_cell BK787.out 0).trans rfl, (blk_cell BK787.out 1).trans rfl, hcv30⟩ (fun hHeld => ?_)
    generalize wr.drew = w29 at HO_6 HO_788000 HO_788001 BK774 BK787 HI778 HB hHeld ⊢
    refine pure_ (i := 1) (N := some 27) (v := ?_) (a' := ?_) #[F_,T_,F_,F_,F_] rfl rfl (by kernel_rfl) (fun _ _ _ h => h) (Or.inl ⟨by rfl, ?_⟩) ?_ ?_
    rotate_left
    ·intro w'
     go_simp
     with_reducible rfl
    rotate_left
    ·simp only [Act.put, sT_, s0_, sS_, i64_w, i32_w]
     rfl
    refine take_ (i := 2) (N := some 28) (v := ?_) (a' := ?_) #[F_,T_,T_,F_,F_] rfl rfl (by kernel_rfl) (fun _ _ _ h => h) (Or.inl ⟨by rfl, ?_⟩) hHeld ?_ ?_
    rotate_left
    ·rintro w' ⟨s0, s1, s2⟩
     go_simp
     with_reducible rfl
    rotate_left
    ·simp only [Act.put, sT_, s0_, sS_, i64_w, i32_w]
     rfl
    refine take_ (i := 0) (N := some 26) (v := ?_) (a' := ?_) #[T_,T_,T_,F_,F_] rfl rfl (by kernel_rfl) (fun _ _ _ h => h) (Or.inl ⟨by rfl, ?_⟩) hHeld ?_ ?_
    rotate_left
    ·rintro w' ⟨s0, s1, s2⟩
     go_simp
     with_reducible rfl
    rotate_left
    ·simp only [Act.put, sT_, s0_, sS_, i64_w, i32_w]
     rfl
    refine one_ (i := 3) (N := none) #[T_,T_,T_,T_,F_] rfl rfl (by kernel_rfl) (by decide) (fun K hK => ?_)
    have hs31 : w29.cell? ⟨gb774, 0, none⟩ = some (.slice none 0 0) := (blk_cell BK774.out 0).trans rfl
    have hfs31 := blk_frozen BK774.out 0
    have hns31_1 := NB787_774.out
    have hms31_1 := NB774_787.out
    have hs32 : w29.cell? ⟨gb774, 1, none⟩ = some (.slice none 0 0) := (blk_cell BK774.out 1).trans rfl
    have hfs32 := blk_frozen BK774.out 1
    have hns32_1 := NB787_774.out
    have hms32_1 := NB774_787.out
    refine skip_ (w1 := ?_) (by rfl) rfl ?_ ?_
    rotate_left
    ·go_simp
     rfl
    have B1_ := Aside0.mk (blk_put (cs := #[.slice none 0 0, .slice none 0 0]) BK774.out 0 (.slice Ao8 t779.length co8) rfl)
    have B2_ := Aside0.mk (blk_put B1_.out 1 (.slice Ao12 t782.length co12) rfl)
    refine hK.out _ _ ⟨((cell_far (p := ⟨gb774, _, none⟩) NB787_774.out _).trans (((cell_far (p := ⟨gb774, _, none⟩) NB787_774.out _).trans (hHeld.1)))), ((cell_far (p := ⟨gb774, _, none⟩) NB787_774.out _).trans (((cell_far (p := ⟨gb774, _, none⟩) NB787_774.out _).trans (hHeld.2.1)))), own_string (P := Try.prog) Try.underlying49 Try.underlying5 Try.underlying9 (Kd.own_of_R (Kd.R_set (Kd.R_set HO_6.out BK774.out (by decide) 0 (.slice Ao8 t779.length co8)) B1_.out (by decide) 1 (.slice Ao12 t782.length co12)))⟩ (fun hHeld => ?_)
    clear hK K
    refine pure_ (i := 4) (N := some 3) (v := ?_) (a' := ?_) #[T_,T_,T_,T_,T_] rfl rfl (by kernel_rfl) (fun _ _ _ h => h) (Or.inl ⟨by rfl, ?_⟩) ?_ ?_
    rotate_left
    ·intro w'
     go_simp
     with_reducible rfl
    rotate_left
    ·simp only [Act.put, sT_, s0_, sS_, i64_w, i32_w]
     rfl
    refine done_ (by kernel_rfl) ?_
    try go_wp2
    refine bodyPost_ret (results_ct rfl _ _ gb774 28 #[.slice Ao8 t779.length co8, .slice Ao12 t782.length co12] (0, 0) _ rfl (B2_.out) Try.underlying28 rfl (by kernel_rfl)) rfl ?_
    exact ⟨_, _, ew_, by (with_reducible repeat (first | apply Kd.R_alloc | apply Kd.R_drewN | apply Kd.R_drew)); exact Kd.R_set (Kd.R_set HO_788000.out BK774.out (by decide) 0 (.slice Ao8 t779.length co8)) B1_.out (by decide) 1 (.slice Ao12 t782.length co12), by (with_reducible repeat (first | apply Kd.S_alloc | apply Kd.S_drewN | apply Kd.S_drew)); exact Kd.S_set (Kd.S_set HO_788001.out BK774.out (by decide) 0 (.slice Ao8 t779.length co8)) B1_.out (by decide) 1 (.slice Ao12 t782.length co12), by repeat (first | (with_reducible first | exact HB.out | apply below_alloc | apply pw_below_drewN | apply below_drew1 | refine below_set ?_ (IsS92.ge HI778.out) | refine below_set ?_ GE774.out | refine below_set ?_ GE787.out) | exact HB.out)⟩

/-! ### laws_a2Rises: function 45 -/
def laws_a2Rises.l0 : Nat → List Int → Int → Int → Option (Bool)
 | 0, _, _, _ => none
 | k + 1, x0, x1, x5 => if x5 < (x0.length : Int) then (if 0 ≤ x5 then (if (rd x0 x5) < 0 then (some false) else (if (rd x0 x5) ≥ x1 then (some false) else (if x5 > 0 then (if 0 ≤ (wrap64 (x5 - 1)) then (if (wrap64 (x5 - 1)) < (x0.length : Int) then (if (rd x0 (wrap64 (x5 - 1))) ≥ (rd x0 x5) then (some false) else (laws_a2Rises.l0 k x0 x1 (wrap64 (x5 + 1)))) else (none)) else (none)) else (laws_a2Rises.l0 k x0 x1 (wrap64 (x5 + 1)))))) else (none)) else (some true)
def laws_a2Rises.f (k : Nat) (l0 : List Int) (a1 : Int) : Option (Bool) := laws_a2Rises.l0 k l0 a1 0
set_option maxHeartbeats 8000000 in
set_option maxRecDepth 100000 in
theorem laws_a2Rises.calls (k : Nat) (A0 : Option Addr) (c0 : Nat) (l0 : List Int) (a1 : Int) (r : Bool) (w : World) (hr0 : Kd.C (Kd.int .i64) w A0 l0.length l0) (hc0 : l0.length ≤ c0) (h : laws_a2Rises.f k l0 a1 = some r) :
  Calls Try.prog 45 #[.slice A0 l0.length c0, .int .i64 a1] w fun e w' => e = .returned (.bool r) ∧ Drawn0 w w' := by
 have HR0 := Aside0.mk hr0
 have HC0 := Aside0.mk hc0
 clear hr0 hc0
 have H : (laws_a2Rises.l0 k l0 a1 0) = some r := h
 clear h
 have H' := Aside0.mk H
 clear H
 go_enter Try.func45, Try.ntmps45
 go_wp2
 repeat (go_quiet (fail); try go_wp2)
 go_loopg [5] k (fun kq v5 w' => ∃ (x5_1 : Int), v5 = .int .i64 x5_1 ∧ Aside0 (laws_a2Rises.l0 kq l0 a1 x5_1 = some r) ∧ Aside0 (kq ≤ k) ∧ Drawn0 w w')
 case atStart => exact ⟨(0), (by first | rfl | (simp; done) | (simp [*]; done)), H', ⟨Nat.le_refl _⟩, by repeat (first | exact Drawn0.refl _ | apply Drawn0.step)⟩
 case round =>
  clear H'
  try clear p2
  obtain ⟨x5_1, rfl, HA, HK1, ⟨m1, rfl⟩⟩ := hrel
  cases gk with
  | zero => exact absurd HA.out (by simp [laws_a2Rises.l0])
  | succ k1 =>
   have H := HA.out
   clear HA
   simp only [laws_a2Rises.l0] at H
   by_cases c3 : x5_1 < (l0.length : Int)
   ·rw [if_pos c3] at H
    have c3b0 : decide (x5_1 < (l0.length : Int)) = true := decide_eq_true c3
    clear c3
    by_cases c4 : 0 ≤ x5_1
    ·rw [if_pos c4] at H
     have c4b0 : decide (0 ≤ x5_1) = true := decide_eq_true c4
     clear c4
     by_cases c5 : (rd l0 x5_1) < 0
     ·rw [if_pos c5] at H
      have c5b0 : decide ((rd l0 x5_1) < 0) = true := decide_eq_true c5
      clear c5
      obtain rfl := Option.some.inj H
      have p797 : 0 ≤ (x5_1 : Int) := od_
      have q797 : x5_1 < (l0.length : Int) := od_
      obtain ⟨ad797, e797, hx797_0⟩ := Kd.at_int HR0.out x5_1 p797 q797
      cases e797
      replace p797 := eq_true p797
      replace q797 := eq_true q797
      go_wp2
      repeat (go_quiet (fail); try go_wp2)
      go_ret
      exact ⟨by first | rfl | (simp; done) | (simp [*]; done), by repeat (first | exact Drawn0.refl _ | apply Drawn0.step)⟩
     ·rw [if_neg c5] at H
      have c5b0 : decide ((rd l0 x5_1) < 0) = false := decide_eq_false c5
      clear c5
      by_cases c6 : (rd l0 x5_1) ≥ a1
      ·rw [if_pos c6] at H
       have c6b0 : decide (a1 ≤ (rd l0 x5_1)) = true := decide_eq_true c6
       clear c6
       obtain rfl := Option.some.inj H
       have p797 : 0 ≤ (x5_1 : Int) := od_
       have q797 : x5_1 < (l0.length : Int) := od_
       obtain ⟨ad797, e797, hx797_0⟩ := Kd.at_int HR0.out x5_1 p797 q797
       cases e797
       replace p797 := eq_true p797
       replace q797 := eq_true q797
       have p798 : 0 ≤ (x5_1 : Int) := od_
       have q798 : x5_1 < (l0.length : Int) := od_
       obtain ⟨ad798, e798, hx798_0⟩ := Kd.at_int HR0.out x5_1 p798 q798
       obtain rfl : ad797 = ad798 := (by injection e798)
       replace p798 := eq_true p798
       replace q798 := eq_true q798
       go_wp2
       repeat (go_quiet (fail); try go_wp2)
       go_ret
       exact ⟨by first | rfl | (simp; done) | (simp [*]; done), by repeat (first | exact Drawn0.refl _ | apply Drawn0.step)⟩
      ·rw [if_neg c6] at H
       have c6b0 : decide (a1 ≤ (rd l0 x5_1)) = false := decide_eq_false c6
       clear c6
       by_cases c7 : x5_1 > 0
       ·rw [if_pos c7] at H
        have c7b0 : decide (0 < x5_1) = true := decide_eq_true c7
        clear c7
        obtain ⟨ji8, hji8⟩ : ∃ j_ : Int, (wrap64 (x5_1 - 1)) = j_ := ⟨_, rfl⟩
        replace H : (if 0 ≤ (ji8) then (if (ji8) < (l0.length : Int) then (if (rd l0 (ji8)) ≥ (rd l0 x5_1) then (some false) else (laws_a2Rises.l0 k1 l0 a1 (wrap64 (x5_1 + 1)))) else (none)) else (none)) = some r := by first | (rw [hji8] at H; exact H) | (simp only [hji8] at H ⊢; exact H)
        have hji8w : (IntKind.i64.wrap (x5_1 - 1)) = ji8 := (i64_w _).trans hji8
        by_cases c9 : 0 ≤ (ji8)
        ·rw [if_pos c9] at H
         have c9b0 : decide (0 ≤ (ji8)) = true := decide_eq_true c9
         clear c9
         by_cases c10 : (ji8) < (l0.length : Int)
         ·rw [if_pos c10] at H
          have c10b0 : decide ((ji8) < (l0.length : Int)) = true := decide_eq_true c10
          clear c10
          by_cases c11 : (rd l0 (ji8)) ≥ (rd l0 x5_1)
          ·rw [if_pos c11] at H
           have c11b0 : decide ((rd l0 x5_1) ≤ (rd l0 (ji8))) = true := decide_eq_true c11
           clear c11
           obtain rfl := Option.some.inj H
           have p797 : 0 ≤ (x5_1 : Int) := od_
           have q797 : x5_1 < (l0.length : Int) := od_
           obtain ⟨ad797, e797, hx797_0⟩ := Kd.at_int HR0.out x5_1 p797 q797
           cases e797
           replace p797 := eq_true p797
           replace q797 := eq_true q797
           have p798 : 0 ≤ (x5_1 : Int) := od_
           have q798 : x5_1 < (l0.length : Int) := od_
           obtain ⟨ad798, e798, hx798_0⟩ := Kd.at_int HR0.out x5_1 p798 q798
           obtain rfl : ad797 = ad798 := (by injection e798)
           replace p798 := eq_true p798
           replace q798 := eq_true q798
           have p799 : 0 ≤ ((ji8) : Int) := od_
           have q799 : (ji8) < (l0.length : Int) := od_
           obtain ⟨ad799, e799, hx799_0⟩ := Kd.at_int HR0.out (ji8) p799 q799
           obtain rfl : ad797 = ad799 := (by injection e799)
           replace p799 := eq_true p799
           replace q799 := eq_true q799
           have p800 : 0 ≤ (x5_1 : Int) := od_
           have q800 : x5_1 < (l0.length : Int) := od_
           obtain ⟨ad800, e800, hx800_0⟩ := Kd.at_int HR0.out x5_1 p800 q800
           obtain rfl : ad797 = ad800 := (by injection e800)
           replace p800 := eq_true p800
           replace q800 := eq_true q800
           go_wp2
           repeat (go_quiet (fail); try go_wp2)
           go_ret
           exact ⟨by first | rfl | (simp; done) | (simp only [← hji8] <;> (first | rfl | simp)) | (simp [*]; done), by repeat (first | exact Drawn0.refl _ | apply Drawn0.step)⟩
          ·rw [if_neg c11] at H
           have c11b0 : decide ((rd l0 x5_1) ≤ (rd l0 (ji8))) = false := decide_eq_false c11
           clear c11
           have H' := Aside0.mk H
           clear H
           have p797 : 0 ≤ (x5_1 : Int) := od_
           have q797 : x5_1 < (l0.length : Int) := od_
           obtain ⟨ad797, e797, hx797_0⟩ := Kd.at_int HR0.out x5_1 p797 q797
           cases e797
           replace p797 := eq_true p797
           replace q797 := eq_true q797
           have p798 : 0 ≤ (x5_1 : Int) := od_
           have q798 : x5_1 < (l0.length : Int) := od_
           obtain ⟨ad798, e798, hx798_0⟩ := Kd.at_int HR0.out x5_1 p798 q798
           obtain rfl : ad797 = ad798 := (by injection e798)
           replace p798 := eq_true p798
           replace q798 := eq_true q798
           have p799 : 0 ≤ ((ji8) : Int) := od_
           have q799 : (ji8) < (l0.length : Int) := od_
           obtain ⟨ad799, e799, hx799_0⟩ := Kd.at_int HR0.out (ji8) p799 q799
           obtain rfl : ad797 = ad799 := (by injection e799)
           replace p799 := eq_true p799
           replace q799 := eq_true q799
           have p800 : 0 ≤ (x5_1 : Int) := od_
           have q800 : x5_1 < (l0.length : Int) := od_
           obtain ⟨ad800, e800, hx800_0⟩ := Kd.at_int HR0.out x5_1 p800 q800
           obtain rfl : ad797 = ad800 := (by injection e800)
           replace p800 := eq_true p800
           replace q800 := eq_true q800
           go_wp2
           repeat (go_quiet (fail); try go_wp2)
           go_roundg k1
           case measure => have := HK1.out; omega
           case rel => exact ⟨(wrap64 (x5_1 + 1)), (by first | rfl | (simp; done) | (simp [*]; done)), H', ⟨by have := HK1.out; omega⟩, by repeat (first | exact Drawn0.refl _ | apply Drawn0.step)⟩
         ·rw [if_neg c10] at H
          exact absurd H (by simp)
        ·rw [if_neg c9] at H
         exact absurd H (by simp)
       ·rw [if_neg c7] at H
        have c7b0 : decide (0 < x5_1) = false := decide_eq_false c7
        clear c7
        have H' := Aside0.mk H
        clear H
        have p797 : 0 ≤ (x5_1 : Int) := od_
        have q797 : x5_1 < (l0.length : Int) := od_
        obtain ⟨ad797, e797, hx797_0⟩ := Kd.at_int HR0.out x5_1 p797 q797
        cases e797
        replace p797 := eq_true p797
        replace q797 := eq_true q797
        have p798 : 0 ≤ (x5_1 : Int) := od_
        have q798 : x5_1 < (l0.length : Int) := od_
        obtain ⟨ad798, e798, hx798_0⟩ := Kd.at_int HR0.out x5_1 p798 q798
        obtain rfl : ad797 = ad798 := (by injection e798)
        replace p798 := eq_true p798
        replace q798 := eq_true q798
        go_wp2
        repeat (go_quiet (fail); try go_wp2)
        go_roundg k1
        case measure => have := HK1.out; omega
        case rel => exact ⟨(wrap64 (x5_1 + 1)), (by first | rfl | (simp; done) | (simp [*]; done)), H', ⟨by have := HK1.out; omega⟩, by repeat (first | exact Drawn0.refl _ | apply Drawn0.step)⟩
    ·rw [if_neg c4] at H
     exact absurd H (by simp)
   ·rw [if_neg c3] at H
    have c3b0 : decide (x5_1 < (l0.length : Int)) = false := decide_eq_false c3
    clear c3
    obtain rfl := Option.some.inj H
    go_wp2
    repeat (go_quiet (fail); try go_wp2)
    go_ret
    exact ⟨by first | rfl | (simp; done) | (simp [*]; done), by repeat (first | exact Drawn0.refl _ | apply Drawn0.step)⟩

end Go.Proofs.Ytfkiamccipoioaa.P
end
