-- Written by gprint.py (own program, over the printer of the kit) out of the translation. Lean checks it.
import Derived.Test.YtdbigcfpinpnpaaPx0
import Derived.Test.YtdbigcfpinpnpaaPx2
import Derived.Test.YtdbigcfpinpnpaaPx4
import Derived.Test.YtdbigcfpinpnpaaPx10
import Derived.Test.YtdbigcfpinpnpaaPx11
import Derived.Test.YtdbigcfpinpnpaaPx14
import Derived.Test.YtdbigcfpinpnpaaPx23
import Derived.Test.YtdbigcfpinpnpaaWPk
namespace Go.Proofs.Ytdbigcfpinpnpaa.P
open Go.RowKit Go.Proofs.YtdbigcfpinpnpaaW.PrintWords Go.Proofs.YtdbigcfpinpnpaaW.PrintLast Go.Proofs.YtdbigcfpinpnpaaW.PrintMore Go.Proofs.YtdbigcfpinpnpaaW.Pk
open Bool renaming true → T_, false → F_
open List renaming setIfInBounds_toArray → sT_, set_cons_zero → s0_, set_cons_succ → sS_
attribute [local go_sem] max2_int min2_int max_two min_two max_three min_three max_four min_four   -- for this text's walks alone
set_option linter.unusedVariables false
set_option linter.unusedSimpArgs false

/-! ### spec_l00Gcd: function 89 -/
def spec_l00Gcd.l0 : Nat → Int → Int → Option (Int)
 | 0, _, _ => none
 | k + 1, x0, x1 => if x1 = 0 then (some x0) else (spec_l00Gcd.l0 k x1 (Int.tmod x0 x1))
def spec_l00Gcd.f (k : Nat) (a0 : Int) (a1 : Int) : Option (Int) := spec_l00Gcd.l0 k a0 a1
theorem spec_l00Gcd.mono_l : ∀ k, (∀ y0 y1, LeO (spec_l00Gcd.l0 k y0 y1) (spec_l00Gcd.l0 (k + 1) y0 y1))
 | 0 => fun _ _ r h => by simp [spec_l00Gcd.l0] at h
 | k + 1 => by
  have ih0 := spec_l00Gcd.mono_l k
  ·intro y0 y1
   unfold spec_l00Gcd.l0
   repeat' first
   | (with_reducible exact ih0 _ _)
   | (with_reducible exact LeO.refl _)
   | (with_reducible exact LeO.none _)
   | (with_reducible refine LeO.ite ?_ ?_)
   | (with_reducible refine LeO.bind ?_ (fun _ => ?_))
   | exact ih0 _ _
   | exact LeO.none _
   | refine LeO.ite ?_ ?_
   | refine LeO.bind ?_ (fun _ => ?_)
theorem spec_l00Gcd.mono : ∀ a0 a1 k, LeO (spec_l00Gcd.f k a0 a1) (spec_l00Gcd.f (k + 1) a0 a1) := by
 intro a0 a1 k
 have ih0 := spec_l00Gcd.mono_l k
 unfold spec_l00Gcd.f
 repeat' first
   | (with_reducible exact ih0 _ _)
   | (with_reducible exact LeO.refl _)
   | (with_reducible exact LeO.none _)
   | (with_reducible refine LeO.ite ?_ ?_)
   | (with_reducible refine LeO.bind ?_ (fun _ => ?_))
   | exact ih0 _ _
   | exact LeO.none _
   | refine LeO.ite ?_ ?_
   | refine LeO.bind ?_ (fun _ => ?_)
set_option maxHeartbeats 8000000 in
set_option maxRecDepth 100000 in
theorem spec_l00Gcd.calls (k : Nat) (a0 : Int) (a1 : Int) (r : Int) (w : World) (h : spec_l00Gcd.f k a0 a1 = some r) :
  Calls Try.prog 89 #[.int .i64 a0, .int .i64 a1] w fun e w' => e = .returned (.int .i64 r) ∧ Drawn0 w w' := by
 have H : (spec_l00Gcd.l0 k a0 a1) = some r := h
 clear h
 have H' := Aside0.mk H
 clear H
 go_enter Try.func89, Try.ntmps89
 go_wp2
 go_loopg [0, 1] k (fun kq v0 v1 w' => ∃ (x0_1 : Int) (x1_1 : Int), v0 = .int .i64 x0_1 ∧ v1 = .int .i64 x1_1 ∧ Aside0 (spec_l00Gcd.l0 kq x0_1 x1_1 = some r) ∧ Aside0 (kq ≤ k) ∧ Drawn0 w w')
 case atStart => exact ⟨(a0), (a1), (by first | rfl | (simp; done) | (simp [*]; done)), (by first | rfl | (simp; done) | (simp [*]; done)), H', ⟨Nat.le_refl _⟩, by repeat (first | exact Drawn0.refl _ | apply Drawn0.step)⟩
 case round =>
  clear H'
  try clear p2
  obtain ⟨x0_1, x1_1, rfl, rfl, HA, HK1, ⟨m1, rfl⟩⟩ := hrel
  cases gk with
  | zero => exact absurd HA.out (by simp [spec_l00Gcd.l0])
  | succ k1 =>
   have H := HA.out
   clear HA
   simp only [spec_l00Gcd.l0] at H
   by_cases c3 : x1_1 = 0
   ·rw [if_pos c3] at H
    have c3b0 : (x1_1 == 0) = true := beq_iff_eq.mpr c3
    have c3b1 : (x1_1 != 0) = false := bne_eq_false_iff_eq.mpr c3
    clear c3
    obtain rfl := Option.some.inj H
    go_wp2
    go_ret
    exact ⟨by first | rfl | (simp; done) | (simp [*]; done), by repeat (first | exact Drawn0.refl _ | apply Drawn0.step)⟩
   ·rw [if_neg c3] at H
    have c3b0 : (x1_1 == 0) = false := beq_eq_false_iff_ne.mpr c3
    have c3b1 : (x1_1 != 0) = true := bne_iff_ne.mpr c3
    have H' := Aside0.mk H
    clear H
    go_wp2
    go_roundg k1
    case measure => have := HK1.out; omega
    case rel => exact ⟨(x1_1), (Int.tmod x0_1 x1_1), (by first | rfl | (simp; done) | (simp [*]; done)), (by first | rfl | (simp; done) | (simp [*]; done)), H', ⟨by have := HK1.out; omega⟩, by repeat (first | exact Drawn0.refl _ | apply Drawn0.step)⟩

/-! ### spec_l00Size: function 90 -/
def spec_l00Size.f (a0 : Int) : Option (Int) := if a0 < 0 then (some (wrap64 (-a0))) else (some a0)
set_option maxHeartbeats 8000000 in
set_option maxRecDepth 100000 in
theorem spec_l00Size.calls (a0 : Int) (r : Int) (w : World) (h : spec_l00Size.f a0 = some r) :
  Calls Try.prog 90 #[.int .i64 a0] w fun e w' => e = .returned (.int .i64 r) ∧ Drawn0 w w' := by
 have H : (if a0 < 0 then (some (wrap64 (-a0))) else (some a0)) = some r := h
 clear h
 by_cases c2 : a0 < 0
 ·rw [if_pos c2] at H
  have c2b0 : decide (a0 < 0) = true := decide_eq_true c2
  clear c2
  obtain rfl := Option.some.inj H
  go_enter Try.func90, Try.ntmps90
  go_wp2
  go_ret
  exact ⟨by first | rfl | (simp; done) | (simp [*]; done), by repeat (first | exact Drawn0.refl _ | apply Drawn0.step)⟩
 ·rw [if_neg c2] at H
  have c2b0 : decide (a0 < 0) = false := decide_eq_false c2
  clear c2
  obtain rfl := Option.some.inj H
  go_enter Try.func90, Try.ntmps90
  go_wp2
  go_ret
  exact ⟨by first | rfl | (simp; done) | (simp [*]; done), by repeat (first | exact Drawn0.refl _ | apply Drawn0.step)⟩

/-! ### spec_l01Make: function 80 -/
def spec_l01Make.f (k : Nat) (a0 : Int) (a1 : Int) : Option (Int × Int) := (spec_l00Size.f a0).bind fun t753 => ((spec_l00Gcd.f k t753 a1).bind fun t754 => (if t754 = 0 then (none) else (some (wrap64 (Int.tdiv a0 t754), wrap64 (Int.tdiv a1 t754)))))
theorem spec_l01Make.mono : ∀ a0 a1 k, LeO (spec_l01Make.f k a0 a1) (spec_l01Make.f (k + 1) a0 a1) := by
 intro a0 a1 k
 unfold spec_l01Make.f
 repeat' first
   | (with_reducible exact spec_l00Gcd.mono _ _ _)
   | (with_reducible exact LeO.refl _)
   | (with_reducible exact LeO.none _)
   | (with_reducible refine LeO.ite ?_ ?_)
   | (with_reducible refine LeO.bind ?_ (fun _ => ?_))
   | exact spec_l00Gcd.mono _ _ _
   | exact LeO.none _
   | refine LeO.ite ?_ ?_
   | refine LeO.bind ?_ (fun _ => ?_)
def spec_l01Make.T2 : Bool × List (List Nat × List Nat) := (true, [([], []), ([], []), ([0, 1], [0, 1]), ([], []), ([], []), ([3, 4], [3, 4]), ([2, 5], [2, 5]), ([6, 0, 1, 2, 3, 4, 5, 6], [6])])
def spec_l01Make.B2 : List Nat := [0, 0, 3, 0, 0, 24, 63, 127]
theorem spec_l01Make.tab2 : rtab .any (opsOf Try.f80 2) = spec_l01Make.T2 := by kernel_rfl
theorem spec_l01Make.bits2 : waitsOk spec_l01Make.T2.2 spec_l01Make.B2 = true := by kernel_rfl
set_option maxHeartbeats 8000000 in
set_option maxRecDepth 100000 in
theorem spec_l01Make.calls (k : Nat) (a0 : Int) (a1 : Int) (r1 : Int) (r2 : Int) (w : World) (h : spec_l01Make.f k a0 a1 = some (r1, r2)) :
  Calls Try.prog 80 #[.int .i64 a0, .int .i64 a1] w fun e w' => e = .returned (.agg #[.int .i64 r1, .int .i64 r2]) ∧ Below w.heap.size w w' := by
 have hu64 := Try.underlying64
 have HB := Aside0.mk (Below.refl w.heap.size w)
 have H : ((spec_l00Size.f a0).bind fun t753 => ((spec_l00Gcd.f k t753 a1).bind fun t754 => (if t754 = 0 then (none) else (some (wrap64 (Int.tdiv a0 t754), wrap64 (Int.tdiv a1 t754)))))) = some (r1, r2) := h
 clear h
 replace H := Option.bind_eq_some_iff.mp H
 obtain ⟨t753, A30, H⟩ := H
 replace H : ((spec_l00Gcd.f k t753 a1).bind fun t754 => (if t754 = 0 then (none) else (some (wrap64 (Int.tdiv a0 t754), wrap64 (Int.tdiv a1 t754))))) = some (r1, r2) := H
 have A3 := Aside0.mk A30
 clear A30
 replace H := Option.bind_eq_some_iff.mp H
 obtain ⟨t754, A40, H⟩ := H
 replace H : (if t754 = 0 then (none) else (some (wrap64 (Int.tdiv a0 t754), wrap64 (Int.tdiv a1 t754)))) = some (r1, r2) := H
 have A4 := Aside0.mk A40
 clear A40
 by_cases c5 : t754 = 0
 ·rw [if_pos c5] at H
  exact absurd H (by simp)
 ·rw [if_neg c5] at H
  have c5b0 : (t754 == 0) = false := beq_eq_false_iff_ne.mpr c5
  have c5b1 : (t754 != 0) = true := bne_iff_ne.mpr c5
  simp only [Option.some.injEq, Prod.mk.injEq] at H
  obtain ⟨rfl, rfl⟩ := H
  go_enter Try.func80, Try.ntmps80
  try go_wp2_with (first | ((with_reducible refine gate_dst (N := 4) rfl ?_); refine box_event ?hg (N := 4) ?hd (cs := #[.int .i64 0, .int .i64 0]) (t := 64) ?hr ?_; (case hd => rfl); (case hg => rfl); (case hr => first | (go_simp; done) | (go_simp; rfl)); intro gb752 hg w6 hbox hb; have n0_ := Aside0.mk (below_step hb_ hb); have n1_ := Aside0.mk (hbox); have n2_ := Aside0.mk ((by rw [hg]; exact (below_size hb_) : w.heap.size ≤ gb752)); have n3_ := Aside0.mk ((by rw [hg]; exact (below_size hb_) : w.heap.size ≤ gb752)); clear HB; have HB := n0_; have BK752 := n1_; have GW752 := n2_; have GE752 := n3_; clear n0_ n1_ n2_ n3_; clear hb hbox hg) | ((with_reducible refine gate_callee (f := 90) rfl ?_); refine goesL_ (some 7) rfl rfl Try.func90 (by kernel_rfl) rfl #[.int .i64 a0] rfl ln_ ?_; (with_reducible refine (spec_l00Size.calls a0 t753 _ A3.out).mono ?_); rintro e w' ⟨rfl, ⟨nd, rfl⟩⟩; refine ⟨_, rfl, ?_⟩; (try (rw [drewN_self w6]; generalize hq_ : World.drewN w6 _ = w6; have n0_ : Aside0 (w6.heap[gb752]? = some (.cells #[.int .i64 0, .int .i64 0] 64 (0, 0))) := ⟨by rw [← hq_]; exact (bk_ BK752)⟩; have n1_ : Aside0 (Below w.heap.size w w6) := ⟨by rw [← hq_]; exact (hg_ GE752)⟩; clear BK752 HB hq_; have BK752 := n0_; have HB := n1_; clear n0_ n1_))) | ((with_reducible refine gate_callee (f := 89) rfl ?_); refine goesL_ (some 9) rfl rfl Try.func89 (by kernel_rfl) rfl #[.int .i64 t753, .int .i64 a1] rfl ln_ ?_; (with_reducible refine (spec_l00Gcd.calls k t753 a1 t754 _ A4.out).mono ?_); rintro e w' ⟨rfl, ⟨nd, rfl⟩⟩; refine ⟨_, rfl, ?_⟩; (try (rw [drewN_self w6]; generalize hq_ : World.drewN w6 _ = w6; have n0_ : Aside0 (w6.heap[gb752]? = some (.cells #[.int .i64 0, .int .i64 0] 64 (0, 0))) := ⟨by rw [← hq_]; exact (bk_ BK752)⟩; have n1_ : Aside0 (Below w.heap.size w w6) := ⟨by rw [← hq_]; exact (hg_ GE752)⟩; clear BK752 HB hq_; have BK752 := n0_; have HB := n1_; clear n0_ n1_))))
  have n0_ := Aside0.mk (blk_drew BK752.out)
  have n1_ := Aside0.mk (below_drew1 HB.out)
  clear BK752
  clear HB
  have BK752 := n0_
  have HB := n1_
  clear n0_ n1_
  refine start_ (n := 8) (S := fun w' => True) (ds := []) #[F_,F_,F_,F_,F_,F_,F_,F_] (by kernel_rfl) rfl rfl trivial (fun hHeld => ?_); refine with_tabW spec_l01Make.tab2 spec_l01Make.bits2 (fun HT_ HW_ => ?_)
  generalize w6.drew = w7 at BK752 HB hHeld ⊢
  refine pu (i := 0) (N := some 10) #[T_,F_,F_,F_,F_,F_,F_,F_] HT_ ?_
  refine pu (i := 1) (N := some 11) #[T_,T_,F_,F_,F_,F_,F_,F_] HT_ ?_
  refine pu (i := 2) (N := some 12) #[T_,T_,T_,F_,F_,F_,F_,F_] HT_ ?_
  refine pu (i := 3) (N := some 13) #[T_,T_,T_,T_,F_,F_,F_,F_] HT_ ?_
  refine pu (i := 4) (N := some 14) #[T_,T_,T_,T_,T_,F_,F_,F_] HT_ ?_
  refine pu (i := 5) (N := some 15) #[T_,T_,T_,T_,T_,T_,F_,F_] HT_ ?_
  refine pu (i := 6) (N := some 16) #[T_,T_,T_,T_,T_,T_,T_,F_] HT_ ?_
  refine one_ (i := 7) (N := none) #[T_,T_,T_,T_,T_,T_,T_,T_] rfl rfl (one_of HT_.out (by kernel_rfl)) (by decide) (fun K hK => ?_)
  have hs8 : w7.cell? ⟨gb752, 0, none⟩ = some (.int .i64 0) := (blk_cell BK752.out 0).trans rfl
  have hfs8 := blk_frozen BK752.out 0
  have hs9 : w7.cell? ⟨gb752, 1, none⟩ = some (.int .i64 0) := (blk_cell BK752.out 1).trans rfl
  have hfs9 := blk_frozen BK752.out 1
  refine skip_ (w1 := ?_) (by rfl) rfl ?_ ?_
  rotate_left
  ·go_simp
   rfl
  refine hK.out _ _ trivial (fun hHeld => ?_)
  clear hK K
  refine done_ (done_of HT_.out (by kernel_rfl)) ?_
  try go_wp2
  refine bodyPost_ret (results_cell_row rfl _ _ gb752 64 #[.int .i64 (wrap64 (Int.tdiv a0 t754)), .int .i64 (wrap64 (Int.tdiv a1 t754))] (0, 0) _ rfl (by (with_reducible repeat (first | refine blk_drewN ?_ _ | refine blk_drew ?_ | refine blk_alloc ?_ _)); refine blk_put (cs := #[.int .i64 (wrap64 (Int.tdiv a0 t754)), .int .i64 0]) ?_ 1 _ rfl; (with_reducible repeat (first | refine blk_drewN ?_ _ | refine blk_drew ?_ | refine blk_alloc ?_ _)); refine blk_put (cs := #[.int .i64 0, .int .i64 0]) ?_ 0 _ rfl; (with_reducible repeat (first | refine blk_drewN ?_ _ | refine blk_drew ?_ | refine blk_alloc ?_ _)); exact BK752.out) Try.underlying64 rfl (by kernel_rfl)) rfl ?_
  exact ⟨ew_, (hg_ GE752)⟩

/-! ### spec_RateFound: function 48 -/
def spec_RateFound.f (k : Nat) (l0 : List (S73)) (l1 : List (S53)) (a2 : ByteArray) : Option (Int × Int × Int) := (spec_l21Named.f k l0 l1 a2).bind fun bt756 => (if bt756.2 = 0 then ((spec_l21Found.f k l1 a2).bind fun bt758 => (if bt758.2 = 0 then (some (0, 0, 6)) else ((spec_l01Make.f k bt758.1 bt758.2).bind fun bt760 => (some (bt760.1, bt760.2, 0))))) else (some (0, 0, bt756.2)))
theorem spec_RateFound.mono : ∀ a0 a1 a2 k, LeO (spec_RateFound.f k a0 a1 a2) (spec_RateFound.f (k + 1) a0 a1 a2) := by
 intro a0 a1 a2 k
 unfold spec_RateFound.f
 repeat' first
   | (with_reducible exact spec_l01Make.mono _ _ _)
   | (with_reducible exact spec_l21Found.mono _ _ _)
   | (with_reducible exact spec_l21Named.mono _ _ _ _)
   | (with_reducible exact LeO.refl _)
   | (with_reducible exact LeO.none _)
   | (with_reducible refine LeO.ite ?_ ?_)
   | (with_reducible refine LeO.bind ?_ (fun _ => ?_))
   | exact spec_l01Make.mono _ _ _
   | exact spec_l21Found.mono _ _ _
   | exact spec_l21Named.mono _ _ _ _
   | exact LeO.none _
   | refine LeO.ite ?_ ?_
   | refine LeO.bind ?_ (fun _ => ?_)
set_option maxHeartbeats 8000000 in
set_option maxRecDepth 100000 in
theorem spec_RateFound.calls (k : Nat) (A0 : Option Addr) (c0 : Nat) (l0 : List (S73)) (A1 : Option Addr) (c1 : Nat) (l1 : List (S53)) (a2 : ByteArray) (r1 : Int) (r2 : Int) (r3 : Int) (w : World) (hr0 : Kd.C k73 w A0 l0.length l0) (hc0 : l0.length ≤ c0) (hr1 : Kd.C k53 w A1 l1.length l1) (hc1 : l1.length ≤ c1) (h : spec_RateFound.f k l0 l1 a2 = some (r1, r2, r3)) :
  Calls Try.prog 48 #[.slice A0 l0.length c0, .slice A1 l1.length c1, .string a2] w fun e w' => e = .returned (.tuple #[.agg #[.int .i64 r1, .int .i64 r2], .int .i64 r3]) ∧ Below w.heap.size w w' := by
 have hu64 := Try.underlying64
 have HR0 := Aside0.mk hr0
 have HC0 := Aside0.mk hc0
 clear hr0 hc0
 have HR1 := Aside0.mk hr1
 have HC1 := Aside0.mk hc1
 clear hr1 hc1
 have HB := Aside0.mk (Below.refl w.heap.size w)
 have H : ((spec_l21Named.f k l0 l1 a2).bind fun bt756 => (if bt756.2 = 0 then ((spec_l21Found.f k l1 a2).bind fun bt758 => (if bt758.2 = 0 then (some (0, 0, 6)) else ((spec_l01Make.f k bt758.1 bt758.2).bind fun bt760 => (some (bt760.1, bt760.2, 0))))) else (some (0, 0, bt756.2)))) = some (r1, r2, r3) := h
 clear h
 replace H := Option.bind_eq_some_iff.mp H
 obtain ⟨⟨t756, t757⟩, A40, H⟩ := H
 replace H : (if t757 = 0 then ((spec_l21Found.f k l1 a2).bind fun bt758 => (if bt758.2 = 0 then (some (0, 0, 6)) else ((spec_l01Make.f k bt758.1 bt758.2).bind fun bt760 => (some (bt760.1, bt760.2, 0))))) else (some (0, 0, t757))) = some (r1, r2, r3) := H
 have A4 := Aside0.mk A40
 clear A40
 by_cases c5 : t757 = 0
 ·rw [if_pos c5] at H
  have c5b0 : (t757 == 0) = true := beq_iff_eq.mpr c5
  have c5b1 : (t757 != 0) = false := bne_eq_false_iff_eq.mpr c5
  clear c5
  replace H := Option.bind_eq_some_iff.mp H
  obtain ⟨⟨t758, t759⟩, A60, H⟩ := H
  replace H : (if t759 = 0 then (some (0, 0, 6)) else ((spec_l01Make.f k t758 t759).bind fun bt760 => (some (bt760.1, bt760.2, 0)))) = some (r1, r2, r3) := H
  have A6 := Aside0.mk A60
  clear A60
  by_cases c7 : t759 = 0
  ·rw [if_pos c7] at H
   have c7b0 : (t759 == 0) = true := beq_iff_eq.mpr c7
   have c7b1 : (t759 != 0) = false := bne_eq_false_iff_eq.mpr c7
   clear c7
   simp only [Option.some.injEq, Prod.mk.injEq] at H
   obtain ⟨rfl, rfl, rfl⟩ := H
   go_enter Try.func48, Try.ntmps48
   go_wp2_with (first | ((with_reducible refine gate_dst (N := 6) rfl ?_); refine box_event ?hg (N := 6) ?hd (cs := #[.int .i64 0, .int .i64 0]) (t := 64) ?hr ?_; (case hd => rfl); (case hg => rfl); (case hr => first | (go_simp; done) | (go_simp; rfl)); intro gb755 hg w8 hbox hb; have n0_ := Aside0.mk (below_step hb_ hb); have n1_ := Aside0.mk (hbox); have n2_ := Aside0.mk ((by rw [hg]; exact (below_size hb_) : w.heap.size ≤ gb755)); have n3_ := Aside0.mk ((by rw [hg]; exact (below_size hb_) : w.heap.size ≤ gb755)); clear HB; have HB := n0_; have BK755 := n1_; have GW755 := n2_; have GE755 := n3_; clear n0_ n1_ n2_ n3_; clear hb hbox hg) | ((with_reducible refine gate_callee (f := 69) rfl ?_); refine goesL_ (some 16) rfl rfl Try.func69 (by kernel_rfl) rfl #[.slice A0 l0.length c0, .slice A1 l1.length c1, .string a2] rfl ln_ ?_; (with_reducible refine (spec_l21Named.calls k _ _ l0 _ _ l1 a2 t756 t757 _ ?side1 ?side2 ?side3 ?side4 A4.out).mono ?_); (case side1 => exact kc_ (Kd.C_below HR0.out HB.out)); (case side2 => exact HC0.out); (case side3 => exact kc_ (Kd.C_below HR1.out HB.out)); (case side4 => exact HC1.out); rintro e w9 ⟨rfl, hb⟩; refine ⟨_, rfl, ?_⟩; have n0_ := Aside0.mk (blk_below (g := gb755) (o := .cells #[.int .i64 0, .int .i64 0] 64 (0, 0)) (bk_ BK755) hb); have n1_ := Aside0.mk (below_step (hg_ GE755) hb); clear BK755; clear HB; have BK755 := n0_; have HB := n1_; clear n0_ n1_; (try clear hb); (try clear hb2); (try clear hk); (try clear hi)) | ((with_reducible refine gate_callee (f := 79) rfl ?_); refine goesL_ (some 26) rfl rfl Try.func79 (by kernel_rfl) rfl #[.slice A1 l1.length c1, .string a2] rfl ln_ ?_; (with_reducible refine (spec_l21Found.calls k _ _ l1 a2 t758 t759 _ ?side1 ?side2 A6.out).mono ?_); (case side1 => exact kc_ (Kd.C_below HR1.out HB.out)); (case side2 => exact HC1.out); rintro e w10 ⟨rfl, hb⟩; refine ⟨_, rfl, ?_⟩; have n0_ := Aside0.mk (blk_below (g := gb755) (o := .cells #[.int .i64 0, .int .i64 0] 64 (0, 0)) (bk_ BK755) hb); have n1_ := Aside0.mk (below_step (hg_ GE755) hb); clear BK755; clear HB; have BK755 := n0_; have HB := n1_; clear n0_ n1_; (try clear hb); (try clear hb2); (try clear hk); (try clear hi); have hcz11_0 : w10.cell? ⟨gb755, 0, none⟩ = some (.int .i64 0) := (blk_cell BK755.out 0).trans rfl; have hcz11_1 : w10.cell? ⟨gb755, 1, none⟩ = some (.int .i64 0) := (blk_cell BK755.out 1).trans rfl; have hfz11_0 := blk_frozen BK755.out 0; have hfz11_1 := blk_frozen BK755.out 1))
   refine bodyPost_ret (results_ct rfl _ _ gb755 64 #[.int .i64 0, .int .i64 0] (0, 0) _ rfl (by (with_reducible repeat (first | refine blk_drewN ?_ _ | refine blk_drew ?_ | refine blk_alloc ?_ _)); refine blk_put (cs := #[.int .i64 0, .int .i64 0]) ?_ 1 _ rfl; (with_reducible repeat (first | refine blk_drewN ?_ _ | refine blk_drew ?_ | refine blk_alloc ?_ _)); refine blk_put (cs := #[.int .i64 0, .int .i64 0]) ?_ 0 _ rfl; (with_reducible repeat (first | refine blk_drewN ?_ _ | refine blk_drew ?_ | refine blk_alloc ?_ _)); exact BK755.out) Try.underlying64 rfl (by kernel_rfl)) rfl ?_
   exact ⟨ew_, (hg_ GE755)⟩
  ·rw [if_neg c7] at H
   have c7b0 : (t759 == 0) = false := beq_eq_false_iff_ne.mpr c7
   have c7b1 : (t759 != 0) = true := bne_iff_ne.mpr c7
   replace H := Option.bind_eq_some_iff.mp H
   obtain ⟨⟨t760, t761⟩, A120, H⟩ := H
   replace H : (some (t760, t761, 0)) = some (r1, r2, r3) := H
   have A12 := Aside0.mk A120
   clear A120
   simp only [Option.some.injEq, Prod.mk.injEq] at H
   obtain ⟨rfl, rfl, rfl⟩ := H
   go_enter Try.func48, Try.ntmps48
   go_wp2_with (first | ((with_reducible refine gate_dst (N := 6) rfl ?_); refine box_event ?hg (N := 6) ?hd (cs := #[.int .i64 0, .int .i64 0]) (t := 64) ?hr ?_; (case hd => rfl); (case hg => rfl); (case hr => first | (go_simp; done) | (go_simp; rfl)); intro gb755 hg w13 hbox hb; have n0_ := Aside0.mk (below_step hb_ hb); have n1_ := Aside0.mk (hbox); have n2_ := Aside0.mk ((by rw [hg]; exact (below_size hb_) : w.heap.size ≤ gb755)); have n3_ := Aside0.mk ((by rw [hg]; exact (below_size hb_) : w.heap.size ≤ gb755)); clear HB; have HB := n0_; have BK755 := n1_; have GW755 := n2_; have GE755 := n3_; clear n0_ n1_ n2_ n3_; clear hb hbox hg) | ((with_reducible refine gate_callee (f := 69) rfl ?_); refine goesL_ (some 16) rfl rfl Try.func69 (by kernel_rfl) rfl #[.slice A0 l0.length c0, .slice A1 l1.length c1, .string a2] rfl ln_ ?_; (with_reducible refine (spec_l21Named.calls k _ _ l0 _ _ l1 a2 t756 t757 _ ?side1 ?side2 ?side3 ?side4 A4.out).mono ?_); (case side1 => exact kc_ (Kd.C_below HR0.out HB.out)); (case side2 => exact HC0.out); (case side3 => exact kc_ (Kd.C_below HR1.out HB.out)); (case side4 => exact HC1.out); rintro e w14 ⟨rfl, hb⟩; refine ⟨_, rfl, ?_⟩; have n0_ := Aside0.mk (blk_below (g := gb755) (o := .cells #[.int .i64 0, .int .i64 0] 64 (0, 0)) (bk_ BK755) hb); have n1_ := Aside0.mk (below_step (hg_ GE755) hb); clear BK755; clear HB; have BK755 := n0_; have HB := n1_; clear n0_ n1_; (try clear hb); (try clear hb2); (try clear hk); (try clear hi)) | ((with_reducible refine gate_callee (f := 79) rfl ?_); refine goesL_ (some 26) rfl rfl Try.func79 (by kernel_rfl) rfl #[.slice A1 l1.length c1, .string a2] rfl ln_ ?_; (with_reducible refine (spec_l21Found.calls k _ _ l1 a2 t758 t759 _ ?side1 ?side2 A6.out).mono ?_); (case side1 => exact kc_ (Kd.C_below HR1.out HB.out)); (case side2 => exact HC1.out); rintro e w15 ⟨rfl, hb⟩; refine ⟨_, rfl, ?_⟩; have n0_ := Aside0.mk (blk_below (g := gb755) (o := .cells #[.int .i64 0, .int .i64 0] 64 (0, 0)) (bk_ BK755) hb); have n1_ := Aside0.mk (below_step (hg_ GE755) hb); clear BK755; clear HB; have BK755 := n0_; have HB := n1_; clear n0_ n1_; (try clear hb); (try clear hb2); (try clear hk); (try clear hi)) | ((with_reducible refine gate_callee (f := 80) rfl ?_); refine goesL_ (some 34) rfl rfl Try.func80 (by kernel_rfl) rfl #[.int .i64 t758, .int .i64 t759] rfl ln_ ?_; (with_reducible refine (spec_l01Make.calls k t758 t759 t760 t761 _ A12.out).mono ?_); rintro e w16 ⟨rfl, hb⟩; refine ⟨_, rfl, ?_⟩; have n0_ := Aside0.mk (blk_below (g := gb755) (o := .cells #[.int .i64 0, .int .i64 0] 64 (0, 0)) (bk_ BK755) hb); have n1_ := Aside0.mk (below_step (hg_ GE755) hb); clear BK755; clear HB; have BK755 := n0_; have HB := n1_; clear n0_ n1_; (try clear hb); (try clear hb2); (try clear hk); (try clear hi); have hcz17_0 : w16.cell? ⟨gb755, 0, none⟩ = some (.int .i64 0) := (blk_cell BK755.out 0).trans rfl; have hcz17_1 : w16.cell? ⟨gb755, 1, none⟩ = some (.int .i64 0) := (blk_cell BK755.out 1).trans rfl; have hfz17_0 := blk_frozen BK755.out 0; have hfz17_1 := blk_frozen BK755.out 1))
   refine bodyPost_ret (results_ct rfl _ _ gb755 64 #[.int .i64 t760, .int .i64 t761] (0, 0) _ rfl (by (with_reducible repeat (first | refine blk_drewN ?_ _ | refine blk_drew ?_ | refine blk_alloc ?_ _)); refine blk_put (cs := #[.int .i64 t760, .int .i64 0]) ?_ 1 _ rfl; (with_reducible repeat (first | refine blk_drewN ?_ _ | refine blk_drew ?_ | refine blk_alloc ?_ _)); refine blk_put (cs := #[.int .i64 0, .int .i64 0]) ?_ 0 _ rfl; (with_reducible repeat (first | refine blk_drewN ?_ _ | refine blk_drew ?_ | refine blk_alloc ?_ _)); exact BK755.out) Try.underlying64 rfl (by kernel_rfl)) rfl ?_
   exact ⟨ew_, (hg_ GE755)⟩
 ·rw [if_neg c5] at H
  have c5b0 : (t757 == 0) = false := beq_eq_false_iff_ne.mpr c5
  have c5b1 : (t757 != 0) = true := bne_iff_ne.mpr c5
  simp only [Option.some.injEq, Prod.mk.injEq] at H
  obtain ⟨rfl, rfl, rfl⟩ := H
  go_enter Try.func48, Try.ntmps48
  go_wp2_with (first | ((with_reducible refine gate_dst (N := 6) rfl ?_); refine box_event ?hg (N := 6) ?hd (cs := #[.int .i64 0, .int .i64 0]) (t := 64) ?hr ?_; (case hd => rfl); (case hg => rfl); (case hr => first | (go_simp; done) | (go_simp; rfl)); intro gb755 hg w18 hbox hb; have n0_ := Aside0.mk (below_step hb_ hb); have n1_ := Aside0.mk (hbox); have n2_ := Aside0.mk ((by rw [hg]; exact (below_size hb_) : w.heap.size ≤ gb755)); have n3_ := Aside0.mk ((by rw [hg]; exact (below_size hb_) : w.heap.size ≤ gb755)); clear HB; have HB := n0_; have BK755 := n1_; have GW755 := n2_; have GE755 := n3_; clear n0_ n1_ n2_ n3_; clear hb hbox hg) | ((with_reducible refine gate_callee (f := 69) rfl ?_); refine goesL_ (some 16) rfl rfl Try.func69 (by kernel_rfl) rfl #[.slice A0 l0.length c0, .slice A1 l1.length c1, .string a2] rfl ln_ ?_; (with_reducible refine (spec_l21Named.calls k _ _ l0 _ _ l1 a2 t756 t757 _ ?side1 ?side2 ?side3 ?side4 A4.out).mono ?_); (case side1 => exact kc_ (Kd.C_below HR0.out HB.out)); (case side2 => exact HC0.out); (case side3 => exact kc_ (Kd.C_below HR1.out HB.out)); (case side4 => exact HC1.out); rintro e w19 ⟨rfl, hb⟩; refine ⟨_, rfl, ?_⟩; have n0_ := Aside0.mk (blk_below (g := gb755) (o := .cells #[.int .i64 0, .int .i64 0] 64 (0, 0)) (bk_ BK755) hb); have n1_ := Aside0.mk (below_step (hg_ GE755) hb); clear BK755; clear HB; have BK755 := n0_; have HB := n1_; clear n0_ n1_; (try clear hb); (try clear hb2); (try clear hk); (try clear hi); have hcz20_0 : w19.cell? ⟨gb755, 0, none⟩ = some (.int .i64 0) := (blk_cell BK755.out 0).trans rfl; have hcz20_1 : w19.cell? ⟨gb755, 1, none⟩ = some (.int .i64 0) := (blk_cell BK755.out 1).trans rfl; have hfz20_0 := blk_frozen BK755.out 0; have hfz20_1 := blk_frozen BK755.out 1))
  refine bodyPost_ret (results_ct rfl _ _ gb755 64 #[.int .i64 0, .int .i64 0] (0, 0) _ rfl (by (with_reducible repeat (first | refine blk_drewN ?_ _ | refine blk_drew ?_ | refine blk_alloc ?_ _)); refine blk_put (cs := #[.int .i64 0, .int .i64 0]) ?_ 1 _ rfl; (with_reducible repeat (first | refine blk_drewN ?_ _ | refine blk_drew ?_ | refine blk_alloc ?_ _)); refine blk_put (cs := #[.int .i64 0, .int .i64 0]) ?_ 0 _ rfl; (with_reducible repeat (first | refine blk_drewN ?_ _ | refine blk_drew ?_ | refine blk_alloc ?_ _)); exact BK755.out) Try.underlying64 rfl (by kernel_rfl)) rfl ?_
  exact ⟨ew_, (hg_ GE755)⟩

/-! ### impl_gcd: function 91 -/
mutual
def impl_gcd.j0 : Nat → Int → Int → Option (Int)
 | 0, _, _ => none
 | k + 1, x0, x1 => impl_gcd.l0 k x0 x1
def impl_gcd.l0 : Nat → Int → Int → Option (Int)
 | 0, _, _ => none
 | k + 1, x0, x1 => if x1 = 0 then (some x0) else (impl_gcd.l0 k x1 (Int.tmod x0 x1))
end
def impl_gcd.f (k : Nat) (a0 : Int) (a1 : Int) : Option (Int) := if a0 < 0 then (impl_gcd.j0 k (wrap64 (-a0)) a1) else (impl_gcd.j0 k a0 a1)
theorem impl_gcd.mono_l : ∀ k, (∀ y0 y1, LeO (impl_gcd.j0 k y0 y1) (impl_gcd.j0 (k + 1) y0 y1)) ∧ (∀ y0 y1, LeO (impl_gcd.l0 k y0 y1) (impl_gcd.l0 (k + 1) y0 y1))
 | 0 => ⟨fun _ _ r h => by simp [impl_gcd.j0] at h, fun _ _ r h => by simp [impl_gcd.l0] at h⟩
 | k + 1 => by
  obtain ⟨ih0, ih1⟩ := impl_gcd.mono_l k
  refine ⟨?_, ?_⟩
  ·intro y0 y1
   unfold impl_gcd.j0
   repeat' first
   | (with_reducible exact ih0 _ _)
   | (with_reducible exact ih1 _ _)
   | (with_reducible exact LeO.refl _)
   | (with_reducible exact LeO.none _)
   | (with_reducible refine LeO.ite ?_ ?_)
   | (with_reducible refine LeO.bind ?_ (fun _ => ?_))
   | exact ih0 _ _
   | exact ih1 _ _
   | exact LeO.none _
   | refine LeO.ite ?_ ?_
   | refine LeO.bind ?_ (fun _ => ?_)
  ·intro y0 y1
   unfold impl_gcd.l0
   repeat' first
   | (with_reducible exact ih0 _ _)
   | (with_reducible exact ih1 _ _)
   | (with_reducible exact LeO.refl _)
   | (with_reducible exact LeO.none _)
   | (with_reducible refine LeO.ite ?_ ?_)
   | (with_reducible refine LeO.bind ?_ (fun _ => ?_))
   | exact ih0 _ _
   | exact ih1 _ _
   | exact LeO.none _
   | refine LeO.ite ?_ ?_
   | refine LeO.bind ?_ (fun _ => ?_)
theorem impl_gcd.mono : ∀ a0 a1 k, LeO (impl_gcd.f k a0 a1) (impl_gcd.f (k + 1) a0 a1) := by
 intro a0 a1 k
 obtain ⟨ih0, ih1⟩ := impl_gcd.mono_l k
 unfold impl_gcd.f
 repeat' first
   | (with_reducible exact ih0 _ _)
   | (with_reducible exact ih1 _ _)
   | (with_reducible exact LeO.refl _)
   | (with_reducible exact LeO.none _)
   | (with_reducible refine LeO.ite ?_ ?_)
   | (with_reducible refine LeO.bind ?_ (fun _ => ?_))
   | exact ih0 _ _
   | exact ih1 _ _
   | exact LeO.none _
   | refine LeO.ite ?_ ?_
   | refine LeO.bind ?_ (fun _ => ?_)
set_option maxHeartbeats 8000000 in
set_option maxRecDepth 100000 in
theorem impl_gcd.calls (k : Nat) (a0 : Int) (a1 : Int) (r : Int) (w : World) (h : impl_gcd.f k a0 a1 = some r) :
  Calls Try.prog 91 #[.int .i64 a0, .int .i64 a1] w fun e w' => e = .returned (.int .i64 r) ∧ Drawn0 w w' := by
 have H : (if a0 < 0 then (impl_gcd.j0 k (wrap64 (-a0)) a1) else (impl_gcd.j0 k a0 a1)) = some r := h
 clear h
 have HC3 := Aside0.mk H
 clear H
 go_enter Try.func91, Try.ntmps91
 go_upto_if 6 with (fail)
 repeat (go_quiet (fail); go_upto_if 6 with (fail))
 go_cut [0] (fun v0 wc => ∃ (kq : Nat) (x0_2 : Int), v0 = .int .i64 x0_2 ∧ Aside0 (impl_gcd.j0 kq x0_2 a1 = some r) ∧ Aside0 (kq ≤ k) ∧ Drawn0 w wc)
 case first =>
  have H := HC3.out
  clear HC3
  by_cases c4 : a0 < 0
  ·rw [if_pos c4] at H
   have c4b0 : decide (a0 < 0) = true := decide_eq_true c4
   clear c4
   (first | rw [c4b0] | (simp only [i64_w, i32_w]; rw [c4b0]) | skip)
   have H' := Aside0.mk H
   clear H
   go_wp2
   repeat (go_quiet (fail); try go_wp2)
   go_meet
   case rel => exact ⟨_, (wrap64 (-a0)), (by first | rfl | (simp; done) | (simp [*]; done)), H', ⟨by first | omega | exact Nat.le_refl _⟩, by repeat (first | exact Drawn0.refl _ | apply Drawn0.step)⟩
  ·rw [if_neg c4] at H
   have c4b0 : decide (a0 < 0) = false := decide_eq_false c4
   clear c4
   (first | rw [c4b0] | (simp only [i64_w, i32_w]; rw [c4b0]) | skip)
   have H' := Aside0.mk H
   clear H
   go_wp2
   repeat (go_quiet (fail); try go_wp2)
   go_meet
   case rel => exact ⟨_, (a0), (by first | rfl | (simp; done) | (simp [*]; done)), H', ⟨by first | omega | exact Nat.le_refl _⟩, by repeat (first | exact Drawn0.refl _ | apply Drawn0.step)⟩
 case rest =>
  clear HC3
  try clear p2
  try clear c4
  try clear c4b0
  obtain ⟨kq, x0_2, rfl, HA, HJ2, ⟨mc2, rfl⟩⟩ := hcut
  cases kq with
  | zero => exact absurd HA.out (by simp [impl_gcd.j0])
  | succ kj2 =>
   have H := HA.out
   clear HA
   simp only [impl_gcd.j0] at H
   have H' := Aside0.mk H
   clear H
   go_wp2
   repeat (go_quiet (fail); try go_wp2)
   go_loopg [0, 1] kj2 (fun kq v0 v1 w' => ∃ (x0_2 : Int) (x1_2 : Int), v0 = .int .i64 x0_2 ∧ v1 = .int .i64 x1_2 ∧ Aside0 (impl_gcd.l0 kq x0_2 x1_2 = some r) ∧ Aside0 (kq ≤ kj2) ∧ Drawn0 w w')
   case atStart => exact ⟨(x0_2), (a1), (by first | rfl | (simp; done) | (simp [*]; done)), (by first | rfl | (simp; done) | (simp [*]; done)), H', ⟨Nat.le_refl _⟩, by repeat (first | exact Drawn0.refl _ | apply Drawn0.step)⟩
   case round =>
    clear H'
    try clear c2
    try clear p2
    try clear c4
    try clear c4b0
    try clear p2
    obtain ⟨x0_2, x1_2, rfl, rfl, HA, HK2, ⟨m2, rfl⟩⟩ := hrel
    cases gk with
    | zero => exact absurd HA.out (by simp [impl_gcd.l0])
    | succ k2 =>
     have H := HA.out
     clear HA
     simp only [impl_gcd.l0] at H
     by_cases c5 : x1_2 = 0
     ·rw [if_pos c5] at H
      have c5b0 : (x1_2 == 0) = true := beq_iff_eq.mpr c5
      have c5b1 : (x1_2 != 0) = false := bne_eq_false_iff_eq.mpr c5
      clear c5
      obtain rfl := Option.some.inj H
      go_wp2
      repeat (go_quiet (fail); try go_wp2)
      go_ret
      exact ⟨by first | rfl | (simp; done) | (simp [*]; done), by repeat (first | exact Drawn0.refl _ | apply Drawn0.step)⟩
     ·rw [if_neg c5] at H
      have c5b0 : (x1_2 == 0) = false := beq_eq_false_iff_ne.mpr c5
      have c5b1 : (x1_2 != 0) = true := bne_iff_ne.mpr c5
      have H' := Aside0.mk H
      clear H
      go_wp2
      repeat (go_quiet (fail); try go_wp2)
      go_roundg k2
      case measure => have := HJ2.out; have := HK2.out; omega
      case rel => exact ⟨(x1_2), (Int.tmod x0_2 x1_2), (by first | rfl | (simp; done) | (simp [*]; done)), (by first | rfl | (simp; done) | (simp [*]; done)), H', ⟨by have := HJ2.out; have := HK2.out; omega⟩, by repeat (first | exact Drawn0.refl _ | apply Drawn0.step)⟩

/-! ### impl_fraction: function 82 -/
def impl_fraction.f (k : Nat) (a0 : Int) (a1 : Int) : Option (Int × Int) := if a1 < 0 then ((impl_gcd.f k (wrap64 (-a0)) (wrap64 (-a1))).bind fun t767 => (if t767 = 0 then (none) else (some (wrap64 (Int.tdiv (wrap64 (-a0)) t767), wrap64 (Int.tdiv (wrap64 (-a1)) t767))))) else ((impl_gcd.f k a0 a1).bind fun t768 => (if t768 = 0 then (none) else (some (wrap64 (Int.tdiv a0 t768), wrap64 (Int.tdiv a1 t768)))))
theorem impl_fraction.mono : ∀ a0 a1 k, LeO (impl_fraction.f k a0 a1) (impl_fraction.f (k + 1) a0 a1) := by
 intro a0 a1 k
 unfold impl_fraction.f
 repeat' first
   | (with_reducible exact impl_gcd.mono _ _ _)
   | (with_reducible exact LeO.refl _)
   | (with_reducible exact LeO.none _)
   | (with_reducible refine LeO.ite ?_ ?_)
   | (with_reducible refine LeO.bind ?_ (fun _ => ?_))
   | exact impl_gcd.mono _ _ _
   | exact LeO.none _
   | refine LeO.ite ?_ ?_
   | refine LeO.bind ?_ (fun _ => ?_)
def impl_fraction.T4 : Bool × List (List Nat × List Nat) := (true, [([], []), ([], []), ([0, 1], [0, 1]), ([], []), ([], []), ([3, 4], [3, 4]), ([2, 5], [2, 5]), ([6, 0, 1, 2, 3, 4, 5, 6], [6])])
def impl_fraction.B4 : List Nat := [0, 0, 3, 0, 0, 24, 63, 127]
theorem impl_fraction.tab4 : rtab .any (opsOf Try.f82 4) = impl_fraction.T4 := by kernel_rfl
theorem impl_fraction.bits4 : waitsOk impl_fraction.T4.2 impl_fraction.B4 = true := by kernel_rfl
set_option maxHeartbeats 8000000 in
set_option maxRecDepth 100000 in
theorem impl_fraction.calls (k : Nat) (a0 : Int) (a1 : Int) (r1 : Int) (r2 : Int) (w : World) (h : impl_fraction.f k a0 a1 = some (r1, r2)) :
  Calls Try.prog 82 #[.int .i64 a0, .int .i64 a1] w fun e w' => e = .returned (.agg #[.int .i64 r1, .int .i64 r2]) ∧ Below w.heap.size w w' := by
 have hu64 := Try.underlying64
 have HB := Aside0.mk (Below.refl w.heap.size w)
 have H : (if a1 < 0 then ((impl_gcd.f k (wrap64 (-a0)) (wrap64 (-a1))).bind fun t767 => (if t767 = 0 then (none) else (some (wrap64 (Int.tdiv (wrap64 (-a0)) t767), wrap64 (Int.tdiv (wrap64 (-a1)) t767))))) else ((impl_gcd.f k a0 a1).bind fun t768 => (if t768 = 0 then (none) else (some (wrap64 (Int.tdiv a0 t768), wrap64 (Int.tdiv a1 t768)))))) = some (r1, r2) := h
 clear h
 by_cases c3 : a1 < 0
 ·rw [if_pos c3] at H
  have c3b0 : decide (a1 < 0) = true := decide_eq_true c3
  clear c3
  replace H := Option.bind_eq_some_iff.mp H
  obtain ⟨t767, A40, H⟩ := H
  replace H : (if t767 = 0 then (none) else (some (wrap64 (Int.tdiv (wrap64 (-a0)) t767), wrap64 (Int.tdiv (wrap64 (-a1)) t767)))) = some (r1, r2) := H
  have A4 := Aside0.mk A40
  clear A40
  by_cases c5 : t767 = 0
  ·rw [if_pos c5] at H
   exact absurd H (by simp)
  ·rw [if_neg c5] at H
   have c5b0 : (t767 == 0) = false := beq_eq_false_iff_ne.mpr c5
   have c5b1 : (t767 != 0) = true := bne_iff_ne.mpr c5
   simp only [Option.some.injEq, Prod.mk.injEq] at H
   obtain ⟨rfl, rfl⟩ := H
   go_enter Try.func82, Try.ntmps82
   try go_wp2_with (first | ((with_reducible refine gate_dst (N := 4) rfl ?_); refine box_event ?hg (N := 4) ?hd (cs := #[.int .i64 0, .int .i64 0]) (t := 64) ?hr ?_; (case hd => rfl); (case hg => rfl); (case hr => first | (go_simp; done) | (go_simp; rfl)); intro gb766 hg w6 hbox hb; have n0_ := Aside0.mk (below_step hb_ hb); have n1_ := Aside0.mk (hbox); have n2_ := Aside0.mk ((by rw [hg]; exact (below_size hb_) : w.heap.size ≤ gb766)); have n3_ := Aside0.mk ((by rw [hg]; exact (below_size hb_) : w.heap.size ≤ gb766)); clear HB; have HB := n0_; have BK766 := n1_; have GW766 := n2_; have GE766 := n3_; clear n0_ n1_ n2_ n3_; clear hb hbox hg) | ((with_reducible refine gate_callee (f := 91) rfl ?_); refine goesL_ (some 14) rfl rfl Try.func91 (by kernel_rfl) rfl #[.int .i64 (wrap64 (-a0)), .int .i64 (wrap64 (-a1))] rfl ln_ ?_; (with_reducible refine (impl_gcd.calls k (wrap64 (-a0)) (wrap64 (-a1)) t767 _ A4.out).mono ?_); rintro e w' ⟨rfl, ⟨nd, rfl⟩⟩; refine ⟨_, rfl, ?_⟩; (try (rw [drewN_self w6]; generalize hq_ : World.drewN w6 _ = w6; have n0_ : Aside0 (w6.heap[gb766]? = some (.cells #[.int .i64 0, .int .i64 0] 64 (0, 0))) := ⟨by rw [← hq_]; exact (bk_ BK766)⟩; have n1_ : Aside0 (Below w.heap.size w w6) := ⟨by rw [← hq_]; exact (hg_ GE766)⟩; clear BK766 HB hq_; have BK766 := n0_; have HB := n1_; clear n0_ n1_))))
   have n0_ := Aside0.mk (blk_drew BK766.out)
   have n1_ := Aside0.mk (below_drew1 HB.out)
   clear BK766
   clear HB
   have BK766 := n0_
   have HB := n1_
   clear n0_ n1_
   refine start_ (n := 8) (S := fun w' => True) (ds := []) #[F_,F_,F_,F_,F_,F_,F_,F_] (by kernel_rfl) rfl rfl trivial (fun hHeld => ?_); refine with_tabW impl_fraction.tab4 impl_fraction.bits4 (fun HT_ HW_ => ?_)
   generalize w6.drew = w7 at BK766 HB hHeld ⊢
   refine pu (i := 0) (N := some 15) #[T_,F_,F_,F_,F_,F_,F_,F_] HT_ ?_
   refine pu (i := 1) (N := some 16) #[T_,T_,F_,F_,F_,F_,F_,F_] HT_ ?_
   refine pu (i := 2) (N := some 17) #[T_,T_,T_,F_,F_,F_,F_,F_] HT_ ?_
   refine pu (i := 3) (N := some 18) #[T_,T_,T_,T_,F_,F_,F_,F_] HT_ ?_
   refine pu (i := 4) (N := some 19) #[T_,T_,T_,T_,T_,F_,F_,F_] HT_ ?_
   refine pu (i := 5) (N := some 20) #[T_,T_,T_,T_,T_,T_,F_,F_] HT_ ?_
   refine pu (i := 6) (N := some 21) #[T_,T_,T_,T_,T_,T_,T_,F_] HT_ ?_
   refine one_ (i := 7) (N := none) #[T_,T_,T_,T_,T_,T_,T_,T_] rfl rfl (one_of HT_.out (by kernel_rfl)) (by decide) (fun K hK => ?_)
   have hs8 : w7.cell? ⟨gb766, 0, none⟩ = some (.int .i64 0) := (blk_cell BK766.out 0).trans rfl
   have hfs8 := blk_frozen BK766.out 0
   have hs9 : w7.cell? ⟨gb766, 1, none⟩ = some (.int .i64 0) := (blk_cell BK766.out 1).trans rfl
   have hfs9 := blk_frozen BK766.out 1
   refine skip_ (w1 := ?_) (by rfl) rfl ?_ ?_
   rotate_left
   ·go_simp
    rfl
   refine hK.out _ _ trivial (fun hHeld => ?_)
   clear hK K
   refine done_ (done_of HT_.out (by kernel_rfl)) ?_
   try go_wp2
   refine bodyPost_ret (results_cell_row rfl _ _ gb766 64 #[.int .i64 (wrap64 (Int.tdiv (wrap64 (-a0)) t767)), .int .i64 (wrap64 (Int.tdiv (wrap64 (-a1)) t767))] (0, 0) _ rfl (by (with_reducible repeat (first | refine blk_drewN ?_ _ | refine blk_drew ?_ | refine blk_alloc ?_ _)); refine blk_put (cs := #[.int .i64 (wrap64 (Int.tdiv (wrap64 (-a0)) t767)), .int .i64 0]) ?_ 1 _ rfl; (with_reducible repeat (first | refine blk_drewN ?_ _ | refine blk_drew ?_ | refine blk_alloc ?_ _)); refine blk_put (cs := #[.int .i64 0, .int .i64 0]) ?_ 0 _ rfl; (with_reducible repeat (first | refine blk_drewN ?_ _ | refine blk_drew ?_ | refine blk_alloc ?_ _)); exact BK766.out) Try.underlying64 rfl (by kernel_rfl)) rfl ?_
   exact ⟨ew_, (hg_ GE766)⟩
 ·rw [if_neg c3] at H
  have c3b0 : decide (a1 < 0) = false := decide_eq_false c3
  clear c3
  replace H := Option.bind_eq_some_iff.mp H
  obtain ⟨t768, A100, H⟩ := H
  replace H : (if t768 = 0 then (none) else (some (wrap64 (Int.tdiv a0 t768), wrap64 (Int.tdiv a1 t768)))) = some (r1, r2) := H
  have A10 := Aside0.mk A100
  clear A100
  by_cases c11 : t768 = 0
  ·rw [if_pos c11] at H
   exact absurd H (by simp)
  ·rw [if_neg c11] at H
   have c11b0 : (t768 == 0) = false := beq_eq_false_iff_ne.mpr c11
   have c11b1 : (t768 != 0) = true := bne_iff_ne.mpr c11
   simp only [Option.some.injEq, Prod.mk.injEq] at H
   obtain ⟨rfl, rfl⟩ := H
   go_enter Try.func82, Try.ntmps82
   try go_wp2_with (first | ((with_reducible refine gate_dst (N := 4) rfl ?_); refine box_event ?hg (N := 4) ?hd (cs := #[.int .i64 0, .int .i64 0]) (t := 64) ?hr ?_; (case hd => rfl); (case hg => rfl); (case hr => first | (go_simp; done) | (go_simp; rfl)); intro gb766 hg w12 hbox hb; have n0_ := Aside0.mk (below_step hb_ hb); have n1_ := Aside0.mk (hbox); have n2_ := Aside0.mk ((by rw [hg]; exact (below_size hb_) : w.heap.size ≤ gb766)); have n3_ := Aside0.mk ((by rw [hg]; exact (below_size hb_) : w.heap.size ≤ gb766)); clear HB; have HB := n0_; have BK766 := n1_; have GW766 := n2_; have GE766 := n3_; clear n0_ n1_ n2_ n3_; clear hb hbox hg) | ((with_reducible refine gate_callee (f := 91) rfl ?_); refine goesL_ (some 14) rfl rfl Try.func91 (by kernel_rfl) rfl #[.int .i64 a0, .int .i64 a1] rfl ln_ ?_; (with_reducible refine (impl_gcd.calls k a0 a1 t768 _ A10.out).mono ?_); rintro e w' ⟨rfl, ⟨nd, rfl⟩⟩; refine ⟨_, rfl, ?_⟩; (try (rw [drewN_self w12]; generalize hq_ : World.drewN w12 _ = w12; have n0_ : Aside0 (w12.heap[gb766]? = some (.cells #[.int .i64 0, .int .i64 0] 64 (0, 0))) := ⟨by rw [← hq_]; exact (bk_ BK766)⟩; have n1_ : Aside0 (Below w.heap.size w w12) := ⟨by rw [← hq_]; exact (hg_ GE766)⟩; clear BK766 HB hq_; have BK766 := n0_; have HB := n1_; clear n0_ n1_))))
   have n0_ := Aside0.mk (blk_drew BK766.out)
   have n1_ := Aside0.mk (below_drew1 HB.out)
   clear BK766
   clear HB
   have BK766 := n0_
   have HB := n1_
   clear n0_ n1_
   refine start_ (n := 8) (S := fun w' => True) (ds := []) #[F_,F_,F_,F_,F_,F_,F_,F_] (by kernel_rfl) rfl rfl trivial (fun hHeld => ?_); refine with_tabW impl_fraction.tab4 impl_fraction.bits4 (fun HT_ HW_ => ?_)
   generalize w12.drew = w13 at BK766 HB hHeld ⊢
   refine pu (i := 0) (N := some 15) #[T_,F_,F_,F_,F_,F_,F_,F_] HT_ ?_
   refine pu (i := 1) (N := some 16) #[T_,T_,F_,F_,F_,F_,F_,F_] HT_ ?_
   refine pu (i := 2) (N := some 17) #[T_,T_,T_,F_,F_,F_,F_,F_] HT_ ?_
   refine pu (i := 3) (N := some 18) #[T_,T_,T_,T_,F_,F_,F_,F_] HT_ ?_
   refine pu (i := 4) (N := some 19) #[T_,T_,T_,T_,T_,F_,F_,F_] HT_ ?_
   refine pu (i := 5) (N := some 20) #[T_,T_,T_,T_,T_,T_,F_,F_] HT_ ?_
   refine pu (i := 6) (N := some 21) #[T_,T_,T_,T_,T_,T_,T_,F_] HT_ ?_
   refine one_ (i := 7) (N := none) #[T_,T_,T_,T_,T_,T_,T_,T_] rfl rfl (one_of HT_.out (by kernel_rfl)) (by decide) (fun K hK => ?_)
   have hs14 : w13.cell? ⟨gb766, 0, none⟩ = some (.int .i64 0) := (blk_cell BK766.out 0).trans rfl
   have hfs14 := blk_frozen BK766.out 0
   have hs15 : w13.cell? ⟨gb766, 1, none⟩ = some (.int .i64 0) := (blk_cell BK766.out 1).trans rfl
   have hfs15 := blk_frozen BK766.out 1
   refine skip_ (w1 := ?_) (by rfl) rfl ?_ ?_
   rotate_left
   ·go_simp
    rfl
   refine hK.out _ _ trivial (fun hHeld => ?_)
   clear hK K
   refine done_ (done_of HT_.out (by kernel_rfl)) ?_
   try go_wp2
   refine bodyPost_ret (results_cell_row rfl _ _ gb766 64 #[.int .i64 (wrap64 (Int.tdiv a0 t768)), .int .i64 (wrap64 (Int.tdiv a1 t768))] (0, 0) _ rfl (by (with_reducible repeat (first | refine blk_drewN ?_ _ | refine blk_drew ?_ | refine blk_alloc ?_ _)); refine blk_put (cs := #[.int .i64 (wrap64 (Int.tdiv a0 t768)), .int .i64 0]) ?_ 1 _ rfl; (with_reducible repeat (first | refine blk_drewN ?_ _ | refine blk_drew ?_ | refine blk_alloc ?_ _)); refine blk_put (cs := #[.int .i64 0, .int .i64 0]) ?_ 0 _ rfl; (with_reducible repeat (first | refine blk_drewN ?_ _ | refine blk_drew ?_ | refine blk_alloc ?_ _)); exact BK766.out) Try.underlying64 rfl (by kernel_rfl)) rfl ?_
   exact ⟨ew_, (hg_ GE766)⟩

/-! ### impl_RateFound: function 49 -/
def impl_RateFound.f (k : Nat) (l0 : List (S73)) (l1 : List (S53)) (a2 : ByteArray) : Option (Int × Int × Int) := (impl_gearCode.f k l0 l1 0).bind fun t770 => (if t770 = 0 then ((impl_gearNamed.f l0 a2).bind fun t771 => (if t771 < 0 then (some (0, 0, 3)) else ((impl_checksOf.f k l1 a2).bind fun t772 => (if (t772.length : Int) < 2 then (some (0, 0, 6)) else ((impl_foundOf.f t772).bind fun bt775 => ((impl_fraction.f k bt775.1 bt775.2).bind fun bt777 => (some (bt777.1, bt777.2, 0)))))))) else (some (0, 0, t770)))
theorem impl_RateFound.mono : ∀ a0 a1 a2 k, LeO (impl_RateFound.f k a0 a1 a2) (impl_RateFound.f (k + 1) a0 a1 a2) := by
 intro a0 a1 a2 k
 unfold impl_RateFound.f
 repeat' first
   | (with_reducible exact impl_checksOf.mono _ _ _)
   | (with_reducible exact impl_fraction.mono _ _ _)
   | (with_reducible exact impl_gearCode.mono _ _ _ _)
   | (with_reducible exact LeO.refl _)
   | (with_reducible exact LeO.none _)
   | (with_reducible refine LeO.ite ?_ ?_)
   | (with_reducible refine LeO.bind ?_ (fun _ => ?_))
   | exact impl_checksOf.mono _ _ _
   | exact impl_fraction.mono _ _ _
   | exact impl_gearCode.mono _ _ _ _
   | exact LeO.none _
   | refine LeO.ite ?_ ?_
   | refine LeO.bind ?_ (fun _ => ?_)
set_option maxHeartbeats 8000000 in
set_option maxRecDepth 100000 in
theorem impl_RateFound.calls (k : Nat) (A0 : Option Addr) (c0 : Nat) (l0 : List (S73)) (A1 : Option Addr) (c1 : Nat) (l1 : List (S53)) (a2 : ByteArray) (r1 : Int) (r2 : Int) (r3 : Int) (w : World) (hr0 : Kd.C k73 w A0 l0.length l0) (hc0 : l0.length ≤ c0) (hr1 : Kd.C k53 w A1 l1.length l1) (hc1 : l1.length ≤ c1) (h : impl_RateFound.f k l0 l1 a2 = some (r1, r2, r3)) :
  Calls Try.prog 49 #[.slice A0 l0.length c0, .slice A1 l1.length c1, .string a2] w fun e w' => e = .returned (.tuple #[.agg #[.int .i64 r1, .int .i64 r2], .int .i64 r3]) ∧ Below w.heap.size w w' := by
 have hu64 := Try.underlying64
 have HR0 := Aside0.mk hr0
 have HC0 := Aside0.mk hc0
 clear hr0 hc0
 have HR1 := Aside0.mk hr1
 have HC1 := Aside0.mk hc1
 clear hr1 hc1
 have HB := Aside0.mk (Below.refl w.heap.size w)
 have H : ((impl_gearCode.f k l0 l1 0).bind fun t770 => (if t770 = 0 then ((impl_gearNamed.f l0 a2).bind fun t771 => (if t771 < 0 then (some (0, 0, 3)) else ((impl_checksOf.f k l1 a2).bind fun t772 => (if (t772.length : Int) < 2 then (some (0, 0, 6)) else ((impl_foundOf.f t772).bind fun bt775 => ((impl_fraction.f k bt775.1 bt775.2).bind fun bt777 => (some (bt777.1, bt777.2, 0)))))))) else (some (0, 0, t770)))) = some (r1, r2, r3) := h
 clear h
 replace H := Option.bind_eq_some_iff.mp H
 obtain ⟨t770, A40, H⟩ := H
 replace H : (if t770 = 0 then ((impl_gearNamed.f l0 a2).bind fun t771 => (if t771 < 0 then (some (0, 0, 3)) else ((impl_checksOf.f k l1 a2).bind fun t772 => (if (t772.length : Int) < 2 then (some (0, 0, 6)) else ((impl_foundOf.f t772).bind fun bt775 => ((impl_fraction.f k bt775.1 bt775.2).bind fun bt777 => (some (bt777.1, bt777.2, 0)))))))) else (some (0, 0, t770))) = some (r1, r2, r3) := H
 have A4 := Aside0.mk A40
 clear A40
 by_cases c5 : t770 = 0
 ·rw [if_pos c5] at H
  have c5b0 : (t770 == 0) = true := beq_iff_eq.mpr c5
  have c5b1 : (t770 != 0) = false := bne_eq_false_iff_eq.mpr c5
  clear c5
  replace H := Option.bind_eq_some_iff.mp H
  obtain ⟨t771, A60, H⟩ := H
  replace H : (if t771 < 0 then (some (0, 0, 3)) else ((impl_checksOf.f k l1 a2).bind fun t772 => (if (t772.length : Int) < 2 then (some (0, 0, 6)) else ((impl_foundOf.f t772).bind fun bt775 => ((impl_fraction.f k bt775.1 bt775.2).bind fun bt777 => (some (bt777.1, bt777.2, 0))))))) = some (r1, r2, r3) := H
  have A6 := Aside0.mk A60
  clear A60
  by_cases c7 : t771 < 0
  ·rw [if_pos c7] at H
   have c7b0 : decide (t771 < 0) = true := decide_eq_true c7
   clear c7
   simp only [Option.some.injEq, Prod.mk.injEq] at H
   obtain ⟨rfl, rfl, rfl⟩ := H
   go_enter Try.func49, Try.ntmps49
   go_wp2_with (first | ((with_reducible refine gate_dst (N := 6) rfl ?_); refine box_event ?hg (N := 6) ?hd (cs := #[.int .i64 0, .int .i64 0]) (t := 64) ?hr ?_; (case hd => rfl); (case hg => rfl); (case hr => first | (go_simp; done) | (go_simp; rfl)); intro gb769 hg w8 hbox hb; have n0_ := Aside0.mk (below_step hb_ hb); have n1_ := Aside0.mk (hbox); have n2_ := Aside0.mk ((by rw [hg]; exact (below_size hb_) : w.heap.size ≤ gb769)); have n3_ := Aside0.mk ((by rw [hg]; exact (below_size hb_) : w.heap.size ≤ gb769)); clear HB; have HB := n0_; have BK769 := n1_; have GW769 := n2_; have GE769 := n3_; clear n0_ n1_ n2_ n3_; clear hb hbox hg) | ((with_reducible refine gate_callee (f := 71) rfl ?_); refine goesL_ (some 14) rfl rfl Try.func71 (by kernel_rfl) rfl #[.slice A0 l0.length c0, .slice A1 l1.length c1, .int .i64 0] rfl ln_ ?_; (with_reducible refine (impl_gearCode.calls k _ _ l0 _ _ l1 0 t770 _ ?side1 ?side2 ?side3 ?side4 A4.out).mono ?_); (case side1 => exact kc_ (Kd.C_below HR0.out HB.out)); (case side2 => exact HC0.out); (case side3 => exact kc_ (Kd.C_below HR1.out HB.out)); (case side4 => exact HC1.out); rintro e w9 ⟨rfl, hb⟩; refine ⟨_, rfl, ?_⟩; have n0_ := Aside0.mk (blk_below (g := gb769) (o := .cells #[.int .i64 0, .int .i64 0] 64 (0, 0)) (bk_ BK769) hb); have n1_ := Aside0.mk (below_step (hg_ GE769) hb); clear BK769; clear HB; have BK769 := n0_; have HB := n1_; clear n0_ n1_; (try clear hb); (try clear hb2); (try clear hk); (try clear hi)) | ((with_reducible refine gate_callee (f := 61) rfl ?_); refine goesL_ (some 21) rfl rfl Try.func61 (by kernel_rfl) rfl #[.slice A0 l0.length c0, .string a2] rfl ln_ ?_; (with_reducible refine (impl_gearNamed.calls _ _ l0 a2 t771 _ ?side1 ?side2 A6.out).mono ?_); (case side1 => exact kc_ (Kd.C_below HR0.out HB.out)); (case side2 => exact HC0.out); rintro e w10 ⟨rfl, hb⟩; refine ⟨_, rfl, ?_⟩; have n0_ := Aside0.mk (blk_below (g := gb769) (o := .cells #[.int .i64 0, .int .i64 0] 64 (0, 0)) (bk_ BK769) hb); have n1_ := Aside0.mk (below_step (hg_ GE769) hb); clear BK769; clear HB; have BK769 := n0_; have HB := n1_; clear n0_ n1_; (try clear hb); (try clear hb2); (try clear hk); (try clear hi); have hcz11_0 : w10.cell? ⟨gb769, 0, none⟩ = some (.int .i64 0) := (blk_cell BK769.out 0).trans rfl; have hcz11_1 : w10.cell? ⟨gb769, 1, none⟩ = some (.int .i64 0) := (blk_cell BK769.out 1).trans rfl; have hfz11_0 := blk_frozen BK769.out 0; have hfz11_1 := blk_frozen BK769.out 1))
   refine bodyPost_ret (results_ct rfl _ _ gb769 64 #[.int .i64 0, .int .i64 0] (0, 0) _ rfl (by (with_reducible repeat (first | refine blk_drewN ?_ _ | refine blk_drew ?_ | refine blk_alloc ?_ _)); refine blk_put (cs := #[.int .i64 0, .int .i64 0]) ?_ 1 _ rfl; (with_reducible repeat (first | refine blk_drewN ?_ _ | refine blk_drew ?_ | refine blk_alloc ?_ _)); refine blk_put (cs := #[.int .i64 0, .int .i64 0]) ?_ 0 _ rfl; (with_reducible repeat (first | refine blk_drewN ?_ _ | refine blk_drew ?_ | refine blk_alloc ?_ _)); exact BK769.out) Try.underlying64 rfl (by kernel_rfl)) rfl ?_
   exact ⟨ew_, (hg_ GE769)⟩
  ·rw [if_neg c7] at H
   have c7b0 : decide (t771 < 0) = false := decide_eq_false c7
   clear c7
   replace H := Option.bind_eq_some_iff.mp H
   obtain ⟨t772, A120, H⟩ := H
   replace H : (if (t772.length : Int) < 2 then (some (0, 0, 6)) else ((impl_foundOf.f t772).bind fun bt775 => ((impl_fraction.f k bt775.1 bt775.2).bind fun bt777 => (some (bt777.1, bt777.2, 0))))) = some (r1, r2, r3) := H
   have A12 := Aside0.mk A120
   clear A120
   by_cases c13 : (t772.length : Int) < 2
   ·rw [if_pos c13] at H
    have c13b0 : decide ((t772.length : Int) < 2) = true := decide_eq_true c13
    have c13b1 : decide (t772.length < 2) = true := decide_eq_true (by omega)
    clear c13
    simp only [Option.some.injEq, Prod.mk.injEq] at H
    obtain ⟨rfl, rfl, rfl⟩ := H
    go_enter Try.func49, Try.ntmps49
    go_wp2_with (first | ((with_reducible refine gate_dst (N := 6) rfl ?_); refine box_event ?hg (N := 6) ?hd (cs := #[.int .i64 0, .int .i64 0]) (t := 64) ?hr ?_; (case hd => rfl); (case hg => rfl); (case hr => first | (go_simp; done) | (go_simp; rfl)); intro gb769 hg w14 hbox hb; have n0_ := Aside0.mk (below_step hb_ hb); have n1_ := Aside0.mk (hbox); have n2_ := Aside0.mk ((by rw [hg]; exact (below_size hb_) : w.heap.size ≤ gb769)); have n3_ := Aside0.mk ((by rw [hg]; exact (below_size hb_) : w.heap.size ≤ gb769)); clear HB; have HB := n0_; have BK769 := n1_; have GW769 := n2_; have GE769 := n3_; clear n0_ n1_ n2_ n3_; clear hb hbox hg) | ((with_reducible refine gate_callee (f := 71) rfl ?_); refine goesL_ (some 14) rfl rfl Try.func71 (by kernel_rfl) rfl #[.slice A0 l0.length c0, .slice A1 l1.length c1, .int .i64 0] rfl ln_ ?_; (with_reducible refine (impl_gearCode.calls k _ _ l0 _ _ l1 0 t770 _ ?side1 ?side2 ?side3 ?side4 A4.out).mono ?_); (case side1 => exact kc_ (Kd.C_below HR0.out HB.out)); (case side2 => exact HC0.out); (case side3 => exact kc_ (Kd.C_below HR1.out HB.out)); (case side4 => exact HC1.out); rintro e w15 ⟨rfl, hb⟩; refine ⟨_, rfl, ?_⟩; have n0_ := Aside0.mk (blk_below (g := gb769) (o := .cells #[.int .i64 0, .int .i64 0] 64 (0, 0)) (bk_ BK769) hb); have n1_ := Aside0.mk (below_step (hg_ GE769) hb); clear BK769; clear HB; have BK769 := n0_; have HB := n1_; clear n0_ n1_; (try clear hb); (try clear hb2); (try clear hk); (try clear hi)) | ((with_reducible refine gate_callee (f := 61) rfl ?_); refine goesL_ (some 21) rfl rfl Try.func61 (by kernel_rfl) rfl #[.slice A0 l0.length c0, .string a2] rfl ln_ ?_; (with_reducible refine (impl_gearNamed.calls _ _ l0 a2 t771 _ ?side1 ?side2 A6.out).mono ?_); (case side1 => exact kc_ (Kd.C_below HR0.out HB.out)); (case side2 => exact HC0.out); rintro e w16 ⟨rfl, hb⟩; refine ⟨_, rfl, ?_⟩; have n0_ := Aside0.mk (blk_below (g := gb769) (o := .cells #[.int .i64 0, .int .i64 0] 64 (0, 0)) (bk_ BK769) hb); have n1_ := Aside0.mk (below_step (hg_ GE769) hb); clear BK769; clear HB; have BK769 := n0_; have HB := n1_; clear n0_ n1_; (try clear hb); (try clear hb2); (try clear hk); (try clear hi)) | ((with_reducible refine gate_callee (f := 78) rfl ?_); refine goesL_ (some 26) rfl rfl Try.func78 (by kernel_rfl) rfl #[.slice A1 l1.length c1, .string a2] rfl ln_ ?_; (with_reducible refine (impl_checksOf.calls k _ _ l1 a2 t772 _ ?side1 ?side2 A12.out).mono ?_); (case side1 => exact kc_ (Kd.C_below HR1.out HB.out)); (case side2 => exact HC1.out); rintro e w17 ⟨v773, rfl, ho0, hb⟩; refine ⟨_, rfl, ?_⟩; have n0_ := Aside0.mk (Kd.R_lower ho0 (below_size (hg_ GE769))); have n1_ := Aside0.mk (blk_below (g := gb769) (o := .cells #[.int .i64 0, .int .i64 0] 64 (0, 0)) (bk_ BK769) hb); have n2_ := Aside0.mk (below_step (hg_ GE769) hb); clear BK769; clear HB; have HO774 := n0_; have BK769 := n1_; have HB := n2_; clear n0_ n1_ n2_; (try clear hb); (try clear hb2); (try clear hk); (try clear hi); (try clear ho0); obtain ⟨Ao18, co18, eo18⟩ := Kd.R_slice HO774.out; subst eo18; have hcz19_0 : w17.cell? ⟨gb769, 0, none⟩ = some (.int .i64 0) := (blk_cell BK769.out 0).trans rfl; have hcz19_1 : w17.cell? ⟨gb769, 1, none⟩ = some (.int .i64 0) := (blk_cell BK769.out 1).trans rfl; have hfz19_0 := blk_frozen BK769.out 0; have hfz19_1 := blk_frozen BK769.out 1))
    refine bodyPost_ret (results_ct rfl _ _ gb769 64 #[.int .i64 0, .int .i64 0] (0, 0) _ rfl (by (with_reducible repeat (first | refine blk_drewN ?_ _ | refine blk_drew ?_ | refine blk_alloc ?_ _)); refine blk_put (cs := #[.int .i64 0, .int .i64 0]) ?_ 1 _ rfl; (with_reducible repeat (first | refine blk_drewN ?_ _ | refine blk_drew ?_ | refine blk_alloc ?_ _)); refine blk_put (cs := #[.int .i64 0, .int .i64 0]) ?_ 0 _ rfl; (with_reducible repeat (first | refine blk_drewN ?_ _ | refine blk_drew ?_ | refine blk_alloc ?_ _)); exact BK769.out) Try.underlying64 rfl (by kernel_rfl)) rfl ?_
    exact ⟨ew_, (hg_ GE769)⟩
   ·rw [if_neg c13] at H
    have c13b0 : decide ((t772.length : Int) < 2) = false := decide_eq_false c13
    have c13b1 : decide (t772.length < 2) = false := decide_eq_false (by omega)
    clear c13
    replace H := Option.bind_eq_some_iff.mp H
    obtain ⟨⟨t775, t776⟩, A200, H⟩ := H
    replace H : ((impl_fraction.f k t775 t776).bind fun bt777 => (some (bt777.1, bt777.2, 0))) = some (r1, r2, r3) := H
    have A20 := Aside0.mk A200
    clear A200
    replace H := Option.bind_eq_some_iff.mp H
    obtain ⟨⟨t777, t778⟩, A210, H⟩ := H
    replace H : (some (t777, t778, 0)) = some (r1, r2, r3) := H
    have A21 := Aside0.mk A210
    clear A210
    simp only [Option.some.injEq, Prod.mk.injEq] at H
    obtain ⟨rfl, rfl, rfl⟩ := H
    go_enter Try.func49, Try.ntmps49
    go_wp2_with (first | ((with_reducible refine gate_dst (N := 6) rfl ?_); refine box_event ?hg (N := 6) ?hd (cs := #[.int .i64 0, .int .i64 0]) (t := 64) ?hr ?_; (case hd => rfl); (case hg => rfl); (case hr => first | (go_simp; done) | (go_simp; rfl)); intro gb769 hg w22 hbox hb; have n0_ := Aside0.mk (below_step hb_ hb); have n1_ := Aside0.mk (hbox); have n2_ := Aside0.mk ((by rw [hg]; exact (below_size hb_) : w.heap.size ≤ gb769)); have n3_ := Aside0.mk ((by rw [hg]; exact (below_size hb_) : w.heap.size ≤ gb769)); clear HB; have HB := n0_; have BK769 := n1_; have GW769 := n2_; have GE769 := n3_; clear n0_ n1_ n2_ n3_; clear hb hbox hg) | ((with_reducible refine gate_callee (f := 71) rfl ?_); refine goesL_ (some 14) rfl rfl Try.func71 (by kernel_rfl) rfl #[.slice A0 l0.length c0, .slice A1 l1.length c1, .int .i64 0] rfl ln_ ?_; (with_reducible refine (impl_gearCode.calls k _ _ l0 _ _ l1 0 t770 _ ?side1 ?side2 ?side3 ?side4 A4.out).mono ?_); (case side1 => exact kc_ (Kd.C_below HR0.out HB.out)); (case side2 => exact HC0.out); (case side3 => exact kc_ (Kd.C_below HR1.out HB.out)); (case side4 => exact HC1.out); rintro e w23 ⟨rfl, hb⟩; refine ⟨_, rfl, ?_⟩; have n0_ := Aside0.mk (blk_below (g := gb769) (o := .cells #[.int .i64 0, .int .i64 0] 64 (0, 0)) (bk_ BK769) hb); have n1_ := Aside0.mk (below_step (hg_ GE769) hb); clear BK769; clear HB; have BK769 := n0_; have HB := n1_; clear n0_ n1_; (try clear hb); (try clear hb2); (try clear hk); (try clear hi)) | ((with_reducible refine gate_callee (f := 61) rfl ?_); refine goesL_ (some 21) rfl rfl Try.func61 (by kernel_rfl) rfl #[.slice A0 l0.length c0, .string a2] rfl ln_ ?_; (with_reducible refine (impl_gearNamed.calls _ _ l0 a2 t771 _ ?side1 ?side2 A6.out).mono ?_); (case side1 => exact kc_ (Kd.C_below HR0.out HB.out)); (case side2 => exact HC0.out); rintro e w24 ⟨rfl, hb⟩; refine ⟨_, rfl, ?_⟩; have n0_ := Aside0.mk (blk_below (g := gb769) (o := .cells #[.int .i64 0, .int .i64 0] 64 (0, 0)) (bk_ BK769) hb); have n1_ := Aside0.mk (below_step (hg_ GE769) hb); clear BK769; clear HB; have BK769 := n0_; have HB := n1_; clear n0_ n1_; (try clear hb); (try clear hb2); (try clear hk); (try clear hi)) | ((with_reducible refine gate_callee (f := 78) rfl ?_); refine goesL_ (some 26) rfl rfl Try.func78 (by kernel_rfl) rfl #[.slice A1 l1.length c1, .string a2] rfl ln_ ?_; (with_reducible refine (impl_checksOf.calls k _ _ l1 a2 t772 _ ?side1 ?side2 A12.out).mono ?_); (case side1 => exact kc_ (Kd.C_below HR1.out HB.out)); (case side2 => exact HC1.out); rintro e w25 ⟨v773, rfl, ho0, hb⟩; refine ⟨_, rfl, ?_⟩; have n0_ := Aside0.mk (Kd.R_lower ho0 (below_size (hg_ GE769))); have n1_ := Aside0.mk (blk_below (g := gb769) (o := .cells #[.int .i64 0, .int .i64 0] 64 (0, 0)) (bk_ BK769) hb); have n2_ := Aside0.mk (below_step (hg_ GE769) hb); clear BK769; clear HB; have HO774 := n0_; have BK769 := n1_; have HB := n2_; clear n0_ n1_ n2_; (try clear hb); (try clear hb2); (try clear hk); (try clear hi); (try clear ho0); obtain ⟨Ao26, co26, eo26⟩ := Kd.R_slice HO774.out; subst eo26) | ((with_reducible refine gate_callee (f := 81) rfl ?_); refine goesL_ (some 33) rfl rfl Try.func81 (by kernel_rfl) rfl #[.slice Ao26 t772.length co26] rfl ln_ ?_; (with_reducible refine (impl_foundOf.calls _ _ t772 t775 t776 _ ?side1 ?side2 A20.out).mono ?_); (case side1 => repeat (first | exact (Kd.R_reads' HO774.out).2.2 | (with_reducible refine Kd.C_alloc ?_ _) | (with_reducible refine Kd.C_drewN ?_ _) | (with_reducible refine Kd.C_drew ?_))); (case side2 => exact (Kd.R_reads' HO774.out).2.1); rintro e w27 ⟨rfl, hb⟩; refine ⟨_, rfl, ?_⟩; have n0_ := Aside0.mk (Kd.R_below (kr_ HO774) hb); have n1_ := Aside0.mk (blk_below (g := gb769) (o := .cells #[.int .i64 0, .int .i64 0] 64 (0, 0)) (bk_ BK769) hb); have n2_ := Aside0.mk (below_step (hg_ GE769) hb); clear HO774; clear BK769; clear HB; have HO774 := n0_; have BK769 := n1_; have HB := n2_; clear n0_ n1_ n2_; (try clear hb); (try clear hb2); (try clear hk); (try clear hi)) | ((with_reducible refine gate_callee (f := 82) rfl ?_); refine goesL_ (some 38) rfl rfl Try.func82 (by kernel_rfl) rfl #[.int .i64 t775, .int .i64 t776] rfl ln_ ?_; (with_reducible refine (impl_fraction.calls k t775 t776 t777 t778 _ A21.out).mono ?_); rintro e w28 ⟨rfl, hb⟩; refine ⟨_, rfl, ?_⟩; have n0_ := Aside0.mk (Kd.R_below (kr_ HO774) hb); have n1_ := Aside0.mk (blk_below (g := gb769) (o := .cells #[.int .i64 0, .int .i64 0] 64 (0, 0)) (bk_ BK769) hb); have n2_ := Aside0.mk (below_step (hg_ GE769) hb); clear HO774; clear BK769; clear HB; have HO774 := n0_; have BK769 := n1_; have HB := n2_; clear n0_ n1_ n2_; (try clear hb); (try clear hb2); (try clear hk); (try clear hi); have hcz29_0 : w28.cell? ⟨gb769, 0, none⟩ = some (.int .i64 0) := (blk_cell BK769.out 0).trans rfl; have hcz29_1 : w28.cell? ⟨gb769, 1, none⟩ = some (.int .i64 0) := (blk_cell BK769.out 1).trans rfl; have hfz29_0 := blk_frozen BK769.out 0; have hfz29_1 := blk_frozen BK769.out 1))
    refine bodyPost_ret (results_ct rfl _ _ gb769 64 #[.int .i64 t777, .int .i64 t778] (0, 0) _ rfl (by (with_reducible repeat (first | refine blk_drewN ?_ _ | refine blk_drew ?_ | refine blk_alloc ?_ _)); refine blk_put (cs := #[.int .i64 t777, .int .i64 0]) ?_ 1 _ rfl; (with_reducible repeat (first | refine blk_drewN ?_ _ | refine blk_drew ?_ | refine blk_alloc ?_ _)); refine blk_put (cs := #[.int .i64 0, .int .i64 0]) ?_ 0 _ rfl; (with_reducible repeat (first | refine blk_drewN ?_ _ | refine blk_drew ?_ | refine blk_alloc ?_ _)); exact BK769.out) Try.underlying64 rfl (by kernel_rfl)) rfl ?_
    exact ⟨ew_, (hg_ GE769)⟩
 ·rw [if_neg c5] at H
  have c5b0 : (t770 == 0) = false := beq_eq_false_iff_ne.mpr c5
  have c5b1 : (t770 != 0) = true := bne_iff_ne.mpr c5
  simp only [Option.some.injEq, Prod.mk.injEq] at H
  obtain ⟨rfl, rfl, rfl⟩ := H
  go_enter Try.func49, Try.ntmps49
  go_wp2_with (first | ((with_reducible refine gate_dst (N := 6) rfl ?_); refine box_event ?hg (N := 6) ?hd (cs := #[.int .i64 0, .int .i64 0]) (t := 64) ?hr ?_; (case hd => rfl); (case hg => rfl); (case hr => first | (go_simp; done) | (go_simp; rfl)); intro gb769 hg w30 hbox hb; have n0_ := Aside0.mk (below_step hb_ hb); have n1_ := Aside0.mk (hbox); have n2_ := Aside0.mk ((by rw [hg]; exact (below_size hb_) : w.heap.size ≤ gb769)); have n3_ := Aside0.mk ((by rw [hg]; exact (below_size hb_) : w.heap.size ≤ gb769)); clear HB; have HB := n0_; have BK769 := n1_; have GW769 := n2_; have GE769 := n3_; clear n0_ n1_ n2_ n3_; clear hb hbox hg) | ((with_reducible refine gate_callee (f := 71) rfl ?_); refine goesL_ (some 14) rfl rfl Try.func71 (by kernel_rfl) rfl #[.slice A0 l0.length c0, .slice A1 l1.length c1, .int .i64 0] rfl ln_ ?_; (with_reducible refine (impl_gearCode.calls k _ _ l0 _ _ l1 0 t770 _ ?side1 ?side2 ?side3 ?side4 A4.out).mono ?_); (case side1 => exact kc_ (Kd.C_below HR0.out HB.out)); (case side2 => exact HC0.out); (case side3 => exact kc_ (Kd.C_below HR1.out HB.out)); (case side4 => exact HC1.out); rintro e w31 ⟨rfl, hb⟩; refine ⟨_, rfl, ?_⟩; have n0_ := Aside0.mk (blk_below (g := gb769) (o := .cells #[.int .i64 0, .int .i64 0] 64 (0, 0)) (bk_ BK769) hb); have n1_ := Aside0.mk (below_step (hg_ GE769) hb); clear BK769; clear HB; have BK769 := n0_; have HB := n1_; clear n0_ n1_; (try clear hb); (try clear hb2); (try clear hk); (try clear hi); have hcz32_0 : w31.cell? ⟨gb769, 0, none⟩ = some (.int .i64 0) := (blk_cell BK769.out 0).trans rfl; have hcz32_1 : w31.cell? ⟨gb769, 1, none⟩ = some (.int .i64 0) := (blk_cell BK769.out 1).trans rfl; have hfz32_0 := blk_frozen BK769.out 0; have hfz32_1 := blk_frozen BK769.out 1))
  refine bodyPost_ret (results_ct rfl _ _ gb769 64 #[.int .i64 0, .int .i64 0] (0, 0) _ rfl (by (with_reducible repeat (first | refine blk_drewN ?_ _ | refine blk_drew ?_ | refine blk_alloc ?_ _)); refine blk_put (cs := #[.int .i64 0, .int .i64 0]) ?_ 1 _ rfl; (with_reducible repeat (first | refine blk_drewN ?_ _ | refine blk_drew ?_ | refine blk_alloc ?_ _)); refine blk_put (cs := #[.int .i64 0, .int .i64 0]) ?_ 0 _ rfl; (with_reducible repeat (first | refine blk_drewN ?_ _ | refine blk_drew ?_ | refine blk_alloc ?_ _)); exact BK769.out) Try.underlying64 rfl (by kernel_rfl)) rfl ?_
  exact ⟨ew_, (hg_ GE769)⟩

/-! ### laws_eqFraction: function 50 -/
def laws_eqFraction.f (a0_0 : Int) (a0_1 : Int) (a1_0 : Int) (a1_1 : Int) : Option (Bool) := if a0_0 = a1_0 then (if a0_1 = a1_1 then (some true) else (some false)) else (some false)
set_option maxHeartbeats 8000000 in
set_option maxRecDepth 100000 in
theorem laws_eqFraction.calls (a0_0 : Int) (a0_1 : Int) (a1_0 : Int) (a1_1 : Int) (r : Bool) (w : World) (h : laws_eqFraction.f a0_0 a0_1 a1_0 a1_1 = some r) :
  Calls Try.prog 50 #[.agg #[.int .i64 a0_0, .int .i64 a0_1], .agg #[.int .i64 a1_0, .int .i64 a1_1]] w fun e w' => e = .returned (.bool r) ∧ Below w.heap.size w w' := by
 have hu64 := Try.underlying64
 have HB := Aside0.mk (Below.refl w.heap.size w)
 have H : (if a0_0 = a1_0 then (if a0_1 = a1_1 then (some true) else (some false)) else (some false)) = some r := h
 clear h
 by_cases c3 : a0_0 = a1_0
 ·rw [if_pos c3] at H
  have c3b0 : (a0_0 == a1_0) = true := beq_iff_eq.mpr c3
  have c3b1 : (a0_0 != a1_0) = false := bne_eq_false_iff_eq.mpr c3
  clear c3
  by_cases c4 : a0_1 = a1_1
  ·rw [if_pos c4] at H
   have c4b0 : (a0_1 == a1_1) = true := beq_iff_eq.mpr c4
   have c4b1 : (a0_1 != a1_1) = false := bne_eq_false_iff_eq.mpr c4
   clear c4
   obtain rfl := Option.some.inj H
   go_enter Try.func50, Try.ntmps50
   go_wp2_with (first | ((with_reducible refine gate_dst (N := 2) rfl ?_); refine box_event ?hg (N := 2) ?hd (cs := #[.int .i64 a0_0, .int .i64 a0_1]) (t := 64) ?hr ?_; (case hd => rfl); (case hg => rfl); (case hr => first | (go_simp; done) | (go_simp; rfl)); intro gb779 hg w5 hbox hb; have n0_ := Aside0.mk (below_step hb_ hb); have n1_ := Aside0.mk (hbox); have n2_ := Aside0.mk ((by rw [hg]; exact (below_size hb_) : w.heap.size ≤ gb779)); have n3_ := Aside0.mk ((by rw [hg]; exact (below_size hb_) : w.heap.size ≤ gb779)); clear HB; have HB := n0_; have BK779 := n1_; have GW779 := n2_; have GE779 := n3_; clear n0_ n1_ n2_ n3_; clear hb hbox hg) | ((with_reducible refine gate_dst (N := 3) rfl ?_); refine box_event ?hg (N := 3) ?hd (cs := #[.int .i64 a1_0, .int .i64 a1_1]) (t := 64) ?hr ?_; (case hd => rfl); (case hg => rfl); (case hr => first | (go_simp; done) | (go_simp; rfl)); intro gb780 hg w6 hbox hb; have n0_ := Aside0.mk (blk_below (g := gb779) (o := .cells #[.int .i64 a0_0, .int .i64 a0_1] 64 (0, 0)) (bk_ BK779) hb); have n1_ := Aside0.mk (below_step (hg_ GE779) hb); have n2_ := Aside0.mk (hbox); have n3_ := Aside0.mk ((by rw [hg]; exact (below_size (hg_ GE779)) : w.heap.size ≤ gb780)); have n4_ := Aside0.mk ((by rw [hg]; exact (below_size (hg_ GE779)) : w.heap.size ≤ gb780)); have n5_ := Aside0.mk ((by rw [hg]; exact Nat.ne_of_lt (blk_lt (g := gb779) (o := .cells #[.int .i64 a0_0, .int .i64 a0_1] 64 (0, 0)) (bk_ BK779)) : gb779 ≠ gb780)); have n6_ := Aside0.mk ((by rw [hg]; exact Nat.ne_of_gt (blk_lt (g := gb779) (o := .cells #[.int .i64 a0_0, .int .i64 a0_1] 64 (0, 0)) (bk_ BK779)) : gb780 ≠ gb779)); clear BK779; clear HB; have BK779 := n0_; have HB := n1_; have BK780 := n2_; have GW780 := n3_; have GE780 := n4_; have NB779_780 := n5_; have NB780_779 := n6_; clear n0_ n1_ n2_ n3_ n4_ n5_ n6_; clear hb hbox hg; have hnb7 := NB779_780.out; have hnc7 := NB780_779.out; have hcz8_0 : w6.cell? ⟨gb779, 0, none⟩ = some (.int .i64 a0_0) := (blk_cell BK779.out 0).trans rfl; have hcz8_1 : w6.cell? ⟨gb779, 1, none⟩ = some (.int .i64 a0_1) := (blk_cell BK779.out 1).trans rfl; have hfz8_0 := blk_frozen BK779.out 0; have hfz8_1 := blk_frozen BK779.out 1; have hcz9_0 : w6.cell? ⟨gb780, 0, none⟩ = some (.int .i64 a1_0) := (blk_cell BK780.out 0).trans rfl; have hcz9_1 : w6.cell? ⟨gb780, 1, none⟩ = some (.int .i64 a1_1) := (blk_cell BK780.out 1).trans rfl; have hfz9_0 := blk_frozen BK780.out 0; have hfz9_1 := blk_frozen BK780.out 1))
   go_ret
   exact ⟨ew_, (hg2_ GE779 GE780)⟩
  ·rw [if_neg c4] at H
   have c4b0 : (a0_1 == a1_1) = false := beq_eq_false_iff_ne.mpr c4
   have c4b1 : (a0_1 != a1_1) = true := bne_iff_ne.mpr c4
   obtain rfl := Option.some.inj H
   go_enter Try.func50, Try.ntmps50
   go_wp2_with (first | ((with_reducible refine gate_dst (N := 2) rfl ?_); refine box_event ?hg (N := 2) ?hd (cs := #[.int .i64 a0_0, .int .i64 a0_1]) (t := 64) ?hr ?_; (case hd => rfl); (case hg => rfl); (case hr => first | (go_simp; done) | (go_simp; rfl)); intro gb779 hg w10 hbox hb; have n0_ := Aside0.mk (below_step hb_ hb); have n1_ := Aside0.mk (hbox); have n2_ := Aside0.mk ((by rw [hg]; exact (below_size hb_) : w.heap.size ≤ gb779)); have n3_ := Aside0.mk ((by rw [hg]; exact (below_size hb_) : w.heap.size ≤ gb779)); clear HB; have HB := n0_; have BK779 := n1_; have GW779 := n2_; have GE779 := n3_; clear n0_ n1_ n2_ n3_; clear hb hbox hg) | ((with_reducible refine gate_dst (N := 3) rfl ?_); refine box_event ?hg (N := 3) ?hd (cs := #[.int .i64 a1_0, .int .i64 a1_1]) (t := 64) ?hr ?_; (case hd => rfl); (case hg => rfl); (case hr => first | (go_simp; done) | (go_simp; rfl)); intro gb780 hg w11 hbox hb; have n0_ := Aside0.mk (blk_below (g := gb779) (o := .cells #[.int .i64 a0_0, .int .i64 a0_1] 64 (0, 0)) (bk_ BK779) hb); have n1_ := Aside0.mk (below_step (hg_ GE779) hb); have n2_ := Aside0.mk (hbox); have n3_ := Aside0.mk ((by rw [hg]; exact (below_size (hg_ GE779)) : w.heap.size ≤ gb780)); have n4_ := Aside0.mk ((by rw [hg]; exact (below_size (hg_ GE779)) : w.heap.size ≤ gb780)); have n5_ := Aside0.mk ((by rw [hg]; exact Nat.ne_of_lt (blk_lt (g := gb779) (o := .cells #[.int .i64 a0_0, .int .i64 a0_1] 64 (0, 0)) (bk_ BK779)) : gb779 ≠ gb780)); have n6_ := Aside0.mk ((by rw [hg]; exact Nat.ne_of_gt (blk_lt (g := gb779) (o := .cells #[.int .i64 a0_0, .int .i64 a0_1] 64 (0, 0)) (bk_ BK779)) : gb780 ≠ gb779)); clear BK779; clear HB; have BK779 := n0_; have HB := n1_; have BK780 := n2_; have GW780 := n3_; have GE780 := n4_; have NB779_780 := n5_; have NB780_779 := n6_; clear n0_ n1_ n2_ n3_ n4_ n5_ n6_; clear hb hbox hg; have hnb12 := NB779_780.out; have hnc12 := NB780_779.out; have hcz13_0 : w11.cell? ⟨gb779, 0, none⟩ = some (.int .i64 a0_0) := (blk_cell BK779.out 0).trans rfl; have hcz13_1 : w11.cell? ⟨gb779, 1, none⟩ = some (.int .i64 a0_1) := (blk_cell BK779.out 1).trans rfl; have hfz13_0 := blk_frozen BK779.out 0; have hfz13_1 := blk_frozen BK779.out 1; have hcz14_0 : w11.cell? ⟨gb780, 0, none⟩ = some (.int .i64 a1_0) := (blk_cell BK780.out 0).trans rfl; have hcz14_1 : w11.cell? ⟨gb780, 1, none⟩ = some (.int .i64 a1_1) := (blk_cell BK780.out 1).trans rfl; have hfz14_0 := blk_frozen BK780.out 0; have hfz14_1 := blk_frozen BK780.out 1))
   go_ret
   exact ⟨ew_, (hg2_ GE779 GE780)⟩
 ·rw [if_neg c3] at H
  have c3b0 : (a0_0 == a1_0) = false := beq_eq_false_iff_ne.mpr c3
  have c3b1 : (a0_0 != a1_0) = true := bne_iff_ne.mpr c3
  obtain rfl := Option.some.inj H
  go_enter Try.func50, Try.ntmps50
  go_wp2_with (first | ((with_reducible refine gate_dst (N := 2) rfl ?_); refine box_event ?hg (N := 2) ?hd (cs := #[.int .i64 a0_0, .int .i64 a0_1]) (t := 64) ?hr ?_; (case hd => rfl); (case hg => rfl); (case hr => first | (go_simp; done) | (go_simp; rfl)); intro gb779 hg w15 hbox hb; have n0_ := Aside0.mk (below_step hb_ hb); have n1_ := Aside0.mk (hbox); have n2_ := Aside0.mk ((by rw [hg]; exact (below_size hb_) : w.heap.size ≤ gb779)); have n3_ := Aside0.mk ((by rw [hg]; exact (below_size hb_) : w.heap.size ≤ gb779)); clear HB; have HB := n0_; have BK779 := n1_; have GW779 := n2_; have GE779 := n3_; clear n0_ n1_ n2_ n3_; clear hb hbox hg) | ((with_reducible refine gate_dst (N := 3) rfl ?_); refine box_event ?hg (N := 3) ?hd (cs := #[.int .i64 a1_0, .int .i64 a1_1]) (t := 64) ?hr ?_; (case hd => rfl); (case hg => rfl); (case hr => first | (go_simp; done) | (go_simp; rfl)); intro gb780 hg w16 hbox hb; have n0_ := Aside0.mk (blk_below (g := gb779) (o := .cells #[.int .i64 a0_0, .int .i64 a0_1] 64 (0, 0)) (bk_ BK779) hb); have n1_ := Aside0.mk (below_step (hg_ GE779) hb); have n2_ := Aside0.mk (hbox); have n3_ := Aside0.mk ((by rw [hg]; exact (below_size (hg_ GE779)) : w.heap.size ≤ gb780)); have n4_ := Aside0.mk ((by rw [hg]; exact (below_size (hg_ GE779)) : w.heap.size ≤ gb780)); have n5_ := Aside0.mk ((by rw [hg]; exact Nat.ne_of_lt (blk_lt (g := gb779) (o := .cells #[.int .i64 a0_0, .int .i64 a0_1] 64 (0, 0)) (bk_ BK779)) : gb779 ≠ gb780)); have n6_ := Aside0.mk ((by rw [hg]; exact Nat.ne_of_gt (blk_lt (g := gb779) (o := .cells #[.int .i64 a0_0, .int .i64 a0_1] 64 (0, 0)) (bk_ BK779)) : gb780 ≠ gb779)); clear BK779; clear HB; have BK779 := n0_; have HB := n1_; have BK780 := n2_; have GW780 := n3_; have GE780 := n4_; have NB779_780 := n5_; have NB780_779 := n6_; clear n0_ n1_ n2_ n3_ n4_ n5_ n6_; clear hb hbox hg; have hnb17 := NB779_780.out; have hnc17 := NB780_779.out; have hcz18_0 : w16.cell? ⟨gb779, 0, none⟩ = some (.int .i64 a0_0) := (blk_cell BK779.out 0).trans rfl; have hcz18_1 : w16.cell? ⟨gb779, 1, none⟩ = some (.int .i64 a0_1) := (blk_cell BK779.out 1).trans rfl; have hfz18_0 := blk_frozen BK779.out 0; have hfz18_1 := blk_frozen BK779.out 1; have hcz19_0 : w16.cell? ⟨gb780, 0, none⟩ = some (.int .i64 a1_0) := (blk_cell BK780.out 0).trans rfl; have hcz19_1 : w16.cell? ⟨gb780, 1, none⟩ = some (.int .i64 a1_1) := (blk_cell BK780.out 1).trans rfl; have hfz19_0 := blk_frozen BK780.out 0; have hfz19_1 := blk_frozen BK780.out 1))
  go_ret
  exact ⟨ew_, (hg2_ GE779 GE780)⟩

/-! ### laws_FnExactRateFound: function 12 -/
def laws_FnExactRateFound.j0 : Nat → List (S72) → List (S49) → List (S73) → List (S53) → Bool → Option (Bool)
 | 0, _, _, _, _, _ => none
 | k + 1, x0, x1, x10, x11, x55 => if x55 = true then (some false) else ((laws_toGearS.f k x0).bind fun t804 => ((laws_eqGearS.f k x10 t804).bind fun t807 => (if t807 = true then ((laws_toCheckS.f k x1).bind fun t808 => ((laws_eqCheckS.f k x11 t808).bind fun t811 => (if t811 = true then (some true) else (some false)))) else (some false))))
def laws_FnExactRateFound.f (k : Nat) (l0 : List (S72)) (l1 : List (S49)) (a2 : ByteArray) : Option (Bool) := if (a2.size : Int) > 1048576 then (some true) else ((laws_szGearS.f k l0 1048576).bind fun t781 => (if t781 < 0 then (some true) else ((laws_szCheckS.f k l1 t781).bind fun t782 => (if t782 < 0 then (some true) else ((laws_toGearS.f k l0).bind fun t783 => ((laws_toCheckS.f k l1).bind fun t786 => ((spec_RateFound.f k t783 t786 a2).bind fun bt789 => ((laws_toGearS.f k l0).bind fun t793 => ((laws_toCheckS.f k l1).bind fun t796 => ((impl_RateFound.f k t793 t796 a2).bind fun bt799 => ((laws_eqFraction.f bt799.1 bt799.2.1 bt789.1 bt789.2.1).bind fun t803 => (if t803 = true then (laws_FnExactRateFound.j0 k l0 l1 t793 t796 (bt799.2.2 != bt789.2.2)) else (laws_FnExactRateFound.j0 k l0 l1 t793 t796 true)))))))))))))
theorem laws_FnExactRateFound.mono_l : ∀ k, (∀ y0 y1 y2 y3 y4, LeO (laws_FnExactRateFound.j0 k y0 y1 y2 y3 y4) (laws_FnExactRateFound.j0 (k + 1) y0 y1 y2 y3 y4))
 | 0 => fun _ _ _ _ _ r h => by simp [laws_FnExactRateFound.j0] at h
 | k + 1 => by
  have ih0 := laws_FnExactRateFound.mono_l k
  ·intro y0 y1 y2 y3 y4
   unfold laws_FnExactRateFound.j0
   repeat' first
   | (with_reducible exact ih0 _ _ _ _ _)
   | (with_reducible exact impl_RateFound.mono _ _ _ _)
   | (with_reducible exact laws_eqCheckS.mono _ _ _)
   | (with_reducible exact laws_eqGearS.mono _ _ _)
   | (with_reducible exact laws_szCheckS.mono _ _ _)
   | (with_reducible exact laws_szGearS.mono _ _ _)
   | (with_reducible exact laws_toCheckS.mono _ _)
   | (with_reducible exact laws_toGearS.mono _ _)
   | (with_reducible exact spec_RateFound.mono _ _ _ _)
   | (with_reducible exact LeO.refl _)
   | (with_reducible exact LeO.none _)
   | (with_reducible refine LeO.ite ?_ ?_)
   | (with_reducible refine LeO.bind ?_ (fun _ => ?_))
   | exact ih0 _ _ _ _ _
   | exact impl_RateFound.mono _ _ _ _
   | exact laws_eqCheckS.mono _ _ _
   | exact laws_eqGearS.mono _ _ _
   | exact laws_szCheckS.mono _ _ _
   | exact laws_szGearS.mono _ _ _
   | exact laws_toCheckS.mono _ _
   | exact laws_toGearS.mono _ _
   | exact spec_RateFound.mono _ _ _ _
   | exact LeO.none _
   | refine LeO.ite ?_ ?_
   | refine LeO.bind ?_ (fun _ => ?_)
theorem laws_FnExactRateFound.mono : ∀ a0 a1 a2 k, LeO (laws_FnExactRateFound.f k a0 a1 a2) (laws_FnExactRateFound.f (k + 1) a0 a1 a2) := by
 intro a0 a1 a2 k
 have ih0 := laws_FnExactRateFound.mono_l k
 unfold laws_FnExactRateFound.f
 repeat' first
   | (with_reducible exact ih0 _ _ _ _ _)
   | (with_reducible exact impl_RateFound.mono _ _ _ _)
   | (with_reducible exact laws_eqCheckS.mono _ _ _)
   | (with_reducible exact laws_eqGearS.mono _ _ _)
   | (with_reducible exact laws_szCheckS.mono _ _ _)
   | (with_reducible exact laws_szGearS.mono _ _ _)
   | (with_reducible exact laws_toCheckS.mono _ _)
   | (with_reducible exact laws_toGearS.mono _ _)
   | (with_reducible exact spec_RateFound.mono _ _ _ _)
   | (with_reducible exact LeO.refl _)
   | (with_reducible exact LeO.none _)
   | (with_reducible refine LeO.ite ?_ ?_)
   | (with_reducible refine LeO.bind ?_ (fun _ => ?_))
   | exact ih0 _ _ _ _ _
   | exact impl_RateFound.mono _ _ _ _
   | exact laws_eqCheckS.mono _ _ _
   | exact laws_eqGearS.mono _ _ _
   | exact laws_szCheckS.mono _ _ _
   | exact laws_szGearS.mono _ _ _
   | exact laws_toCheckS.mono _ _
   | exact laws_toGearS.mono _ _
   | exact spec_RateFound.mono _ _ _ _
   | exact LeO.none _
   | refine LeO.ite ?_ ?_
   | refine LeO.bind ?_ (fun _ => ?_)
set_option maxHeartbeats 8000000 in
set_option maxRecDepth 100000 in
theorem laws_FnExactRateFound.calls (k : Nat) (A0 : Option Addr) (c0 : Nat) (l0 : List (S72)) (A1 : Option Addr) (c1 : Nat) (l1 : List (S49)) (a2 : ByteArray) (r : Bool) (w : World) (hr0 : Kd.C k72 w A0 l0.length l0) (hc0 : l0.length ≤ c0) (hr1 : Kd.C k49 w A1 l1.length l1) (hc1 : l1.length ≤ c1) (h : laws_FnExactRateFound.f k l0 l1 a2 = some r) :
  Calls Try.prog 12 #[.slice A0 l0.length c0, .slice A1 l1.length c1, .string a2] w fun e w' => e = .returned (.bool r) ∧ Below w.heap.size w w' := by
 have hu64 := Try.underlying64
 have HR0 := Aside0.mk hr0
 have HC0 := Aside0.mk hc0
 clear hr0 hc0
 have HR1 := Aside0.mk hr1
 have HC1 := Aside0.mk hc1
 clear hr1 hc1
 have HB := Aside0.mk (Below.refl w.heap.size w)
 have H : (if (a2.size : Int) > 1048576 then (some true) else ((laws_szGearS.f k l0 1048576).bind fun t781 => (if t781 < 0 then (some true) else ((laws_szCheckS.f k l1 t781).bind fun t782 => (if t782 < 0 then (some true) else ((laws_toGearS.f k l0).bind fun t783 => ((laws_toCheckS.f k l1).bind fun t786 => ((spec_RateFound.f k t783 t786 a2).bind fun bt789 => ((laws_toGearS.f k l0).bind fun t793 => ((laws_toCheckS.f k l1).bind fun t796 => ((impl_RateFound.f k t793 t796 a2).bind fun bt799 => ((laws_eqFraction.f bt799.1 bt799.2.1 bt789.1 bt789.2.1).bind fun t803 => (if t803 = true then (laws_FnExactRateFound.j0 k l0 l1 t793 t796 (bt799.2.2 != bt789.2.2)) else (laws_FnExactRateFound.j0 k l0 l1 t793 t796 true)))))))))))))) = some r := h
 clear h
 by_cases c4 : (a2.size : Int) > 1048576
 ·rw [if_pos c4] at H
  have c4b0 : decide (1048576 < (a2.size : Int)) = true := decide_eq_true c4
  have c4b1 : decide (1048576 < a2.size) = true := decide_eq_true (by omega)
  clear c4
  obtain rfl := Option.some.inj H
  go_enter Try.func12, Try.ntmps12
  go_wp2
  go_ret
  exact ⟨ew_, hb_⟩
 ·rw [if_neg c4] at H
  have c4b0 : decide (1048576 < (a2.size : Int)) = false := decide_eq_false c4
  have c4b1 : decide (1048576 < a2.size) = false := decide_eq_false (by omega)
  clear c4
  replace H := Option.bind_eq_some_iff.mp H
  obtain ⟨t781, A50, H⟩ := H
  replace H : (if t781 < 0 then (some true) else ((laws_szCheckS.f k l1 t781).bind fun t782 => (if t782 < 0 then (some true) else ((laws_toGearS.f k l0).bind fun t783 => ((laws_toCheckS.f k l1).bind fun t786 => ((spec_RateFound.f k t783 t786 a2).bind fun bt789 => ((laws_toGearS.f k l0).bind fun t793 => ((laws_toCheckS.f k l1).bind fun t796 => ((impl_RateFound.f k t793 t796 a2).bind fun bt799 => ((laws_eqFraction.f bt799.1 bt799.2.1 bt789.1 bt789.2.1).bind fun t803 => (if t803 = true then (laws_FnExactRateFound.j0 k l0 l1 t793 t796 (bt799.2.2 != bt789.2.2)) else (laws_FnExactRateFound.j0 k l0 l1 t793 t796 true)))))))))))) = some r := H
  have A5 := Aside0.mk A50
  clear A50
  by_cases c6 : t781 < 0
  ·rw [if_pos c6] at H
   have c6b0 : decide (t781 < 0) = true := decide_eq_true c6
   clear c6
   obtain rfl := Option.some.inj H
   go_enter Try.func12, Try.ntmps12
   go_wp2_with (first | ((with_reducible refine gate_callee (f := 20) rfl ?_); refine goesL_ (some 19) rfl rfl Try.func20 (by kernel_rfl) rfl #[.slice A0 l0.length c0, .int .i64 1048576] rfl ln_ ?_; (with_reducible refine (laws_szGearS.calls k _ _ l0 1048576 t781 _ ?side1 ?side2 A5.out).mono ?_); (case side1 => exact kc_ HR0.out); (case side2 => exact HC0.out); rintro e w7 ⟨rfl, hb⟩; refine ⟨_, rfl, ?_⟩; have n0_ := Aside0.mk (below_step hb_ hb); clear HB; have HB := n0_; clear n0_; (try clear hb); (try clear hb2); (try clear hk); (try clear hi)))
   go_ret
   exact ⟨ew_, hb_⟩
  ·rw [if_neg c6] at H
   have c6b0 : decide (t781 < 0) = false := decide_eq_false c6
   clear c6
   replace H := Option.bind_eq_some_iff.mp H
   obtain ⟨t782, A80, H⟩ := H
   replace H : (if t782 < 0 then (some true) else ((laws_toGearS.f k l0).bind fun t783 => ((laws_toCheckS.f k l1).bind fun t786 => ((spec_RateFound.f k t783 t786 a2).bind fun bt789 => ((laws_toGearS.f k l0).bind fun t793 => ((laws_toCheckS.f k l1).bind fun t796 => ((impl_RateFound.f k t793 t796 a2).bind fun bt799 => ((laws_eqFraction.f bt799.1 bt799.2.1 bt789.1 bt789.2.1).bind fun t803 => (if t803 = true then (laws_FnExactRateFound.j0 k l0 l1 t793 t796 (bt799.2.2 != bt789.2.2)) else (laws_FnExactRateFound.j0 k l0 l1 t793 t796 true)))))))))) = some r := H
   have A8 := Aside0.mk A80
   clear A80
   by_cases c9 : t782 < 0
   ·rw [if_pos c9] at H
    have c9b0 : decide (t782 < 0) = true := decide_eq_true c9
    clear c9
    obtain rfl := Option.some.inj H
    go_enter Try.func12, Try.ntmps12
    go_wp2_with (first | ((with_reducible refine gate_callee (f := 20) rfl ?_); refine goesL_ (some 19) rfl rfl Try.func20 (by kernel_rfl) rfl #[.slice A0 l0.length c0, .int .i64 1048576] rfl ln_ ?_; (with_reducible refine (laws_szGearS.calls k _ _ l0 1048576 t781 _ ?side1 ?side2 A5.out).mono ?_); (case side1 => exact kc_ HR0.out); (case side2 => exact HC0.out); rintro e w10 ⟨rfl, hb⟩; refine ⟨_, rfl, ?_⟩; have n0_ := Aside0.mk (below_step hb_ hb); clear HB; have HB := n0_; clear n0_; (try clear hb); (try clear hb2); (try clear hk); (try clear hi)) | ((with_reducible refine gate_callee (f := 15) rfl ?_); refine goesL_ (some 24) rfl rfl Try.func15 (by kernel_rfl) rfl #[.slice A1 l1.length c1, .int .i64 t781] rfl ln_ ?_; (with_reducible refine (laws_szCheckS.calls k _ _ l1 t781 t782 _ ?side1 ?side2 A8.out).mono ?_); (case side1 => exact kc_ (Kd.C_below HR1.out HB.out)); (case side2 => exact HC1.out); rintro e w11 ⟨rfl, hb⟩; refine ⟨_, rfl, ?_⟩; have n0_ := Aside0.mk (below_step hb_ hb); clear HB; have HB := n0_; clear n0_; (try clear hb); (try clear hb2); (try clear hk); (try clear hi)))
    go_ret
    exact ⟨ew_, hb_⟩
   ·rw [if_neg c9] at H
    have c9b0 : decide (t782 < 0) = false := decide_eq_false c9
    clear c9
    replace H := Option.bind_eq_some_iff.mp H
    obtain ⟨t783, A120, H⟩ := H
    replace H : ((laws_toCheckS.f k l1).bind fun t786 => ((spec_RateFound.f k t783 t786 a2).bind fun bt789 => ((laws_toGearS.f k l0).bind fun t793 => ((laws_toCheckS.f k l1).bind fun t796 => ((impl_RateFound.f k t793 t796 a2).bind fun bt799 => ((laws_eqFraction.f bt799.1 bt799.2.1 bt789.1 bt789.2.1).bind fun t803 => (if t803 = true then (laws_FnExactRateFound.j0 k l0 l1 t793 t796 (bt799.2.2 != bt789.2.2)) else (laws_FnExactRateFound.j0 k l0 l1 t793 t796 true)))))))) = some r := H
    have A12 := Aside0.mk A120
    clear A120
    replace H := Option.bind_eq_some_iff.mp H
    obtain ⟨t786, A130, H⟩ := H
    replace H : ((spec_RateFound.f k t783 t786 a2).bind fun bt789 => ((laws_toGearS.f k l0).bind fun t793 => ((laws_toCheckS.f k l1).bind fun t796 => ((impl_RateFound.f k t793 t796 a2).bind fun bt799 => ((laws_eqFraction.f bt799.1 bt799.2.1 bt789.1 bt789.2.1).bind fun t803 => (if t803 = true then (laws_FnExactRateFound.j0 k l0 l1 t793 t796 (bt799.2.2 != bt789.2.2)) else (laws_FnExactRateFound.j0 k l0 l1 t793 t796 true))))))) = some r := H
    have A13 := Aside0.mk A130
    clear A130
    replace H := Option.bind_eq_some_iff.mp H
    obtain ⟨⟨t789, t790, t791⟩, A140, H⟩ := H
    replace H : ((laws_toGearS.f k l0).bind fun t793 => ((laws_toCheckS.f k l1).bind fun t796 => ((impl_RateFound.f k t793 t796 a2).bind fun bt799 => ((laws_eqFraction.f bt799.1 bt799.2.1 t789 t790).bind fun t803 => (if t803 = true then (laws_FnExactRateFound.j0 k l0 l1 t793 t796 (bt799.2.2 != t791)) else (laws_FnExactRateFound.j0 k l0 l1 t793 t796 true)))))) = some r := H
    have A14 := Aside0.mk A140
    clear A140
    replace H := Option.bind_eq_some_iff.mp H
    obtain ⟨t793, A150, H⟩ := H
    replace H : ((laws_toCheckS.f k l1).bind fun t796 => ((impl_RateFound.f k t793 t796 a2).bind fun bt799 => ((laws_eqFraction.f bt799.1 bt799.2.1 t789 t790).bind fun t803 => (if t803 = true then (laws_FnExactRateFound.j0 k l0 l1 t793 t796 (bt799.2.2 != t791)) else (laws_FnExactRateFound.j0 k l0 l1 t793 t796 true))))) = some r := H
    have A15 := Aside0.mk A150
    clear A150
    replace H := Option.bind_eq_some_iff.mp H
    obtain ⟨t796, A160, H⟩ := H
    replace H : ((impl_RateFound.f k t793 t796 a2).bind fun bt799 => ((laws_eqFraction.f bt799.1 bt799.2.1 t789 t790).bind fun t803 => (if t803 = true then (laws_FnExactRateFound.j0 k l0 l1 t793 t796 (bt799.2.2 != t791)) else (laws_FnExactRateFound.j0 k l0 l1 t793 t796 true)))) = some r := H
    have A16 := Aside0.mk A160
    clear A160
    replace H := Option.bind_eq_some_iff.mp H
    obtain ⟨⟨t799, t800, t801⟩, A170, H⟩ := H
    replace H : ((laws_eqFraction.f t799 t800 t789 t790).bind fun t803 => (if t803 = true then (laws_FnExactRateFound.j0 k l0 l1 t793 t796 (t801 != t791)) else (laws_FnExactRateFound.j0 k l0 l1 t793 t796 true))) = some r := H
    have A17 := Aside0.mk A170
    clear A170
    have HC18 := Aside0.mk H
    clear H
    go_enter Try.func12, Try.ntmps12
    go_upto_region 14 with (first | ((with_reducible refine gate_callee (f := 20) rfl ?_); refine goesL_ (some 19) rfl rfl Try.func20 (by kernel_rfl) rfl #[.slice A0 l0.length c0, .int .i64 1048576] rfl ln_ ?_; (with_reducible refine (laws_szGearS.calls k _ _ l0 1048576 t781 _ ?side1 ?side2 A5.out).mono ?_); (case side1 => exact kc_ HR0.out); (case side2 => exact HC0.out); rintro e w19 ⟨rfl, hb⟩; refine ⟨_, rfl, ?_⟩; have n0_ := Aside0.mk (below_step hb_ hb); clear HB; have HB := n0_; clear n0_; (try clear hb); (try clear hb2); (try clear hk); (try clear hi)) | ((with_reducible refine gate_callee (f := 15) rfl ?_); refine goesL_ (some 24) rfl rfl Try.func15 (by kernel_rfl) rfl #[.slice A1 l1.length c1, .int .i64 t781] rfl ln_ ?_; (with_reducible refine (laws_szCheckS.calls k _ _ l1 t781 t782 _ ?side1 ?side2 A8.out).mono ?_); (case side1 => exact kc_ (Kd.C_below HR1.out HB.out)); (case side2 => exact HC1.out); rintro e w20 ⟨rfl, hb⟩; refine ⟨_, rfl, ?_⟩; have n0_ := Aside0.mk (below_step hb_ hb); clear HB; have HB := n0_; clear n0_; (try clear hb); (try clear hb2); (try clear hk); (try clear hi)) | ((with_reducible refine gate_callee (f := 22) rfl ?_); refine goesL_ (some 29) rfl rfl Try.func22 (by kernel_rfl) rfl #[.slice A0 l0.length c0] rfl ln_ ?_; (with_reducible refine (laws_toGearS.calls k _ _ l0 t783 _ ?side1 ?side2 A12.out).mono ?_); (case side1 => exact kc_ (Kd.C_below HR0.out HB.out)); (case side2 => exact HC0.out); rintro e w21 ⟨v784, rfl, ho0, hb⟩; refine ⟨_, rfl, ?_⟩; have n0_ := Aside0.mk (Kd.R_lower ho0 (below_size hb_)); have n1_ := Aside0.mk (below_step hb_ hb); clear HB; have HO785 := n0_; have HB := n1_; clear n0_ n1_; (try clear hb); (try clear hb2); (try clear hk); (try clear hi); (try clear ho0)) | ((with_reducible refine gate_callee (f := 17) rfl ?_); refine goesL_ (some 31) rfl rfl Try.func17 (by kernel_rfl) rfl #[.slice A1 l1.length c1] rfl ln_ ?_; (with_reducible refine (laws_toCheckS.calls k _ _ l1 t786 _ ?side1 ?side2 A13.out).mono ?_); (case side1 => exact kc_ (Kd.C_below HR1.out HB.out)); (case side2 => exact HC1.out); rintro e w22 ⟨v787, rfl, ho0, hb⟩; refine ⟨_, rfl, ?_⟩; have n0_ := Aside0.mk (Kd.R_below (kr_ HO785) hb); have n1_ := Aside0.mk (Kd.R_lower ho0 (below_size hb_)); have n2_ := Aside0.mk (below_step hb_ hb); clear HO785; clear HB; have HO785 := n0_; have HO788 := n1_; have HB := n2_; clear n0_ n1_ n2_; (try clear hb); (try clear hb2); (try clear hk); (try clear hi); (try clear ho0); obtain ⟨Ao23, co23, eo23⟩ := Kd.R_slice HO785.out; subst eo23; obtain ⟨Ao24, co24, eo24⟩ := Kd.R_slice HO788.out; subst eo24) | ((with_reducible refine gate_callee (f := 48) rfl ?_); refine goesL_ (some 33) rfl rfl Try.func48 (by kernel_rfl) rfl #[.slice Ao23 t783.length co23, .slice Ao24 t786.length co24, .string a2] rfl ln_ ?_; (with_reducible refine (spec_RateFound.calls k _ _ t783 _ _ t786 a2 t789 t790 t791 _ ?side1 ?side2 ?side3 ?side4 A14.out).mono ?_); (case side1 => repeat (first | exact (Kd.R_reads' HO785.out).2.2 | (with_reducible refine Kd.C_alloc ?_ _) | (with_reducible refine Kd.C_drewN ?_ _) | (with_reducible refine Kd.C_drew ?_))); (case side2 => exact (Kd.R_reads' HO785.out).2.1); (case side3 => repeat (first | exact (Kd.R_reads' HO788.out).2.2 | (with_reducible refine Kd.C_alloc ?_ _) | (with_reducible refine Kd.C_drewN ?_ _) | (with_reducible refine Kd.C_drew ?_))); (case side4 => exact (Kd.R_reads' HO788.out).2.1); rintro e w25 ⟨rfl, hb⟩; refine ⟨_, rfl, ?_⟩; have n0_ := Aside0.mk (Kd.R_below (kr_ HO785) hb); have n1_ := Aside0.mk (Kd.R_below (kr_ HO788) hb); have n2_ := Aside0.mk (below_step hb_ hb); clear HO785; clear HO788; clear HB; have HO785 := n0_; have HO788 := n1_; have HB := n2_; clear n0_ n1_ n2_; (try clear hb); (try clear hb2); (try clear hk); (try clear hi)) | ((with_reducible refine gate_dst (N := 8) rfl ?_); refine box_event ?hg (N := 8) ?hd (cs := #[.int .i64 0, .int .i64 0]) (t := 64) ?hr ?_; (case hd => rfl); (case hg => rfl); (case hr => first | (go_simp; done) | (go_simp; rfl)); intro gb792 hg w26 hbox hb; have n0_ := Aside0.mk (Kd.R_below (kr_ HO785) hb); have n1_ := Aside0.mk (Kd.R_below (kr_ HO788) hb); have n2_ := Aside0.mk (below_step hb_ hb); have n3_ := Aside0.mk (hbox); have n4_ := Aside0.mk ((by rw [hg]; exact (below_size hb_) : w.heap.size ≤ gb792)); have n5_ := Aside0.mk ((by rw [hg]; exact (below_size hb_) : w.heap.size ≤ gb792)); clear HO785; clear HO788; clear HB; have HO785 := n0_; have HO788 := n1_; have HB := n2_; have BK792 := n3_; have GW792 := n4_; have GE792 := n5_; clear n0_ n1_ n2_ n3_ n4_ n5_; clear hb hbox hg; have hcz27_0 : w26.cell? ⟨gb792, 0, none⟩ = some (.int .i64 0) := (blk_cell BK792.out 0).trans rfl; have hcz27_1 : w26.cell? ⟨gb792, 1, none⟩ = some (.int .i64 0) := (blk_cell BK792.out 1).trans rfl; have hfz27_0 := blk_frozen BK792.out 0; have hfz27_1 := blk_frozen BK792.out 1) | ((with_reducible refine gate_callee (f := 22) rfl ?_); refine goesL_ (some 37) rfl rfl Try.func22 (by kernel_rfl) rfl #[.slice A0 l0.length c0] rfl ln_ ?_; (with_reducible refine (laws_toGearS.calls k _ _ l0 t793 _ ?side1 ?side2 A15.out).mono ?_); (case side1 => exact Kd.C_below HR0.out (hg_ GE792)); (case side2 => exact HC0.out); rintro e w28 ⟨v794, rfl, ho0, hb⟩; refine ⟨_, rfl, ?_⟩; have n0_ := Aside0.mk (Kd.R_elder' (by (with_reducible repeat (first | apply Kd.R_alloc | apply Kd.R_drewN | apply Kd.R_drew)); exact (Kd.R_mono (Kd.R_far (p := ⟨gb792, 1, none⟩) (Kd.R_far (p := ⟨gb792, 0, none⟩) (Kd.R_types HO785.out BK792.out (by decide)) (fun _ hk => hk.2) (.int .i64 t789)) (fun _ hk => hk.2) (.int .i64 t790)) (fun _ h_ => h_.1))) (Kd.R_base ho0) hb); have n1_ := Aside0.mk (Kd.R_below (by (with_reducible repeat (first | apply Kd.R_alloc | apply Kd.R_drewN | apply Kd.R_drew)); exact (Kd.R_mono (Kd.R_far (p := ⟨gb792, 1, none⟩) (Kd.R_far (p := ⟨gb792, 0, none⟩) (Kd.R_types HO788.out BK792.out (by decide)) (fun _ hk => hk.2) (.int .i64 t789)) (fun _ hk => hk.2) (.int .i64 t790)) (fun _ h_ => h_.1))) hb); have n2_ := Aside0.mk (Kd.R_lower (Kd.R_new' ho0 (Kd.R_lt (by (with_reducible repeat (first | apply Kd.R_alloc | apply Kd.R_drewN | apply Kd.R_drew)); exact (Kd.R_mono (Kd.R_far (p := ⟨gb792, 1, none⟩) (Kd.R_far (p := ⟨gb792, 0, none⟩) (Kd.R_types HO785.out BK792.out (by decide)) (fun _ hk => hk.2) (.int .i64 t789)) (fun _ hk => hk.2) (.int .i64 t790)) (fun _ h_ => h_.1))))) (below_size (hg_ GE792))); have n3_ := Aside0.mk (blk_below (g := gb792) (o := .cells #[.int .i64 t789, .int .i64 t790] 64 (0, 0)) (by (with_reducible repeat (first | refine blk_drewN ?_ _ | refine blk_drew ?_ | refine blk_alloc ?_ _)); refine blk_put (cs := #[.int .i64 t789, .int .i64 0]) ?_ 1 _ rfl; (with_reducible repeat (first | refine blk_drewN ?_ _ | refine blk_drew ?_ | refine blk_alloc ?_ _)); refine blk_put (cs := #[.int .i64 0, .int .i64 0]) ?_ 0 _ rfl; (with_reducible repeat (first | refine blk_drewN ?_ _ | refine blk_drew ?_ | refine blk_alloc ?_ _)); exact BK792.out) hb); have n4_ := Aside0.mk (below_step (hg_ GE792) hb); clear HO785; clear HO788; clear BK792; clear HB; have HO785 := n0_; have HO788 := n1_; have HO795 := n2_; have BK792 := n3_; have HB := n4_; clear n0_ n1_ n2_ n3_ n4_; (try clear hb); (try clear hb2); (try clear hk); (try clear hi); (try clear ho0)) | ((with_reducible refine gate_callee (f := 17) rfl ?_); refine goesL_ (some 39) rfl rfl Try.func17 (by kernel_rfl) rfl #[.slice A1 l1.length c1] rfl ln_ ?_; (with_reducible refine (laws_toCheckS.calls k _ _ l1 t796 _ ?side1 ?side2 A16.out).mono ?_); (case side1 => exact kc_ (Kd.C_below HR1.out HB.out)); (case side2 => exact HC1.out); rintro e w29 ⟨v797, rfl, ho0, hb⟩; refine ⟨_, rfl, ?_⟩; have n0_ := Aside0.mk (Kd.R_below (kr_ HO785) hb); have n1_ := Aside0.mk (Kd.R_elder' (kr_ HO788) (Kd.R_base ho0) hb); have n2_ := Aside0.mk (Kd.R_below (kr_ HO795) hb); have n3_ := Aside0.mk (Kd.R_lower (Kd.R_new' ho0 (Kd.R_lt (kr_ HO788))) (below_size (hg_ GE792))); have n4_ := Aside0.mk (blk_below (g := gb792) (o := .cells #[.int .i64 t789, .int .i64 t790] 64 (0, 0)) (bk_ BK792) hb); have n5_ := Aside0.mk (below_step (hg_ GE792) hb); clear HO785; clear HO788; clear HO795; clear BK792; clear HB; have HO785 := n0_; have HO788 := n1_; have HO795 := n2_; have HO798 := n3_; have BK792 := n4_; have HB := n5_; clear n0_ n1_ n2_ n3_ n4_ n5_; (try clear hb); (try clear hb2); (try clear hk); (try clear hi); (try clear ho0); obtain ⟨Ao30, co30, eo30⟩ := Kd.R_slice HO795.out; subst eo30; obtain ⟨Ao31, co31, eo31⟩ := Kd.R_slice HO798.out; subst eo31) | ((with_reducible refine gate_callee (f := 49) rfl ?_); refine goesL_ (some 44) rfl rfl Try.func49 (by kernel_rfl) rfl #[.slice Ao30 t793.length co30, .slice Ao31 t796.length co31, .string a2] rfl ln_ ?_; (with_reducible refine (impl_RateFound.calls k _ _ t793 _ _ t796 a2 t799 t800 t801 _ ?side1 ?side2 ?side3 ?side4 A17.out).mono ?_); (case side1 => repeat (first | exact (Kd.R_reads' HO795.out).2.2 | (with_reducible refine Kd.C_alloc ?_ _) | (with_reducible refine Kd.C_drewN ?_ _) | (with_reducible refine Kd.C_drew ?_))); (case side2 => exact (Kd.R_reads' HO795.out).2.1); (case side3 => repeat (first | exact (Kd.R_reads' HO798.out).2.2 | (with_reducible refine Kd.C_alloc ?_ _) | (with_reducible refine Kd.C_drewN ?_ _) | (with_reducible refine Kd.C_drew ?_))); (case side4 => exact (Kd.R_reads' HO798.out).2.1); rintro e w32 ⟨rfl, hb⟩; refine ⟨_, rfl, ?_⟩; have n0_ := Aside0.mk (Kd.R_below (kr_ HO785) hb); have n1_ := Aside0.mk (Kd.R_below (kr_ HO788) hb); have n2_ := Aside0.mk (Kd.R_below (kr_ HO795) hb); have n3_ := Aside0.mk (Kd.R_below (kr_ HO798) hb); have n4_ := Aside0.mk (blk_below (g := gb792) (o := .cells #[.int .i64 t789, .int .i64 t790] 64 (0, 0)) (bk_ BK792) hb); have n5_ := Aside0.mk (below_step (hg_ GE792) hb); clear HO785; clear HO788; clear HO795; clear HO798; clear BK792; clear HB; have HO785 := n0_; have HO788 := n1_; have HO795 := n2_; have HO798 := n3_; have BK792 := n4_; have HB := n5_; clear n0_ n1_ n2_ n3_ n4_ n5_; (try clear hb); (try clear hb2); (try clear hk); (try clear hi)) | ((with_reducible refine gate_dst (N := 12) rfl ?_); refine box_event ?hg (N := 12) ?hd (cs := #[.int .i64 0, .int .i64 0]) (t := 64) ?hr ?_; (case hd => rfl); (case hg => rfl); (case hr => first | (go_simp; done) | (go_simp; rfl)); intro gb802 hg w33 hbox hb; have n0_ := Aside0.mk (Kd.R_below (kr_ HO785) hb); have n1_ := Aside0.mk (Kd.R_below (kr_ HO788) hb); have n2_ := Aside0.mk (Kd.R_below (kr_ HO795) hb); have n3_ := Aside0.mk (Kd.R_below (kr_ HO798) hb); have n4_ := Aside0.mk (blk_below (g := gb792) (o := .cells #[.int .i64 t789, .int .i64 t790] 64 (0, 0)) (bk_ BK792) hb); have n5_ := Aside0.mk (below_step (hg_ GE792) hb); have n6_ := Aside0.mk (hbox); have n7_ := Aside0.mk ((by rw [hg]; exact (below_size (hg_ GE792)) : w.heap.size ≤ gb802)); have n8_ := Aside0.mk ((by rw [hg]; exact (below_size (hg_ GE792)) : w.heap.size ≤ gb802)); have n9_ := Aside0.mk ((by rw [hg]; exact Nat.ne_of_lt (blk_lt (g := gb792) (o := .cells #[.int .i64 t789, .int .i64 t790] 64 (0, 0)) (bk_ BK792)) : gb792 ≠ gb802)); have n10_ := Aside0.mk ((by rw [hg]; exact Nat.ne_of_gt (blk_lt (g := gb792) (o := .cells #[.int .i64 t789, .int .i64 t790] 64 (0, 0)) (bk_ BK792)) : gb802 ≠ gb792)); clear HO785; clear HO788; clear HO795; clear HO798; clear BK792; clear HB; have HO785 := n0_; have HO788 := n1_; have HO795 := n2_; have HO798 := n3_; have BK792 := n4_; have HB := n5_; have BK802 := n6_; have GW802 := n7_; have GE802 := n8_; have NB792_802 := n9_; have NB802_792 := n10_; clear n0_ n1_ n2_ n3_ n4_ n5_ n6_ n7_ n8_ n9_ n10_; clear hb hbox hg; have hnb34 := NB802_792.out; have hnc34 := NB792_802.out; have hcz35_0 : w33.cell? ⟨gb802, 0, none⟩ = some (.int .i64 0) := (blk_cell BK802.out 0).trans rfl; have hcz35_1 : w33.cell? ⟨gb802, 1, none⟩ = some (.int .i64 0) := (blk_cell BK802.out 1).trans rfl; have hfz35_0 := blk_frozen BK802.out 0; have hfz35_1 := blk_frozen BK802.out 1))
    (try simp only [Act.put, List.setIfInBounds_toArray, List.set_cons_zero, List.set_cons_succ])
    go_cut [55] (fun v55 wc => ∃ (kq : Nat) (x55_17 : Bool), v55 = .bool x55_17 ∧ Aside0 (laws_FnExactRateFound.j0 kq l0 l1 t793 t796 x55_17 = some r) ∧ Aside0 (kq ≤ k) ∧ Aside0 (Kd.R k73 73 wc w.heap.size (fun _ => True) (.slice Ao30 t793.length co30) t793) ∧ Aside0 (Kd.R k53 53 wc w.heap.size (fun _ => True) (.slice Ao31 t796.length co31) t796) ∧ Aside0 (wc.heap[gb792]? = some (.cells #[.int .i64 t789, .int .i64 t790] 64 (0, 0))) ∧ Aside0 (wc.heap[gb802]? = some (.cells #[.int .i64 t799, .int .i64 t800] 64 (0, 0))) ∧ Aside0 (Below w.heap.size w wc))
    case first =>
     have H := HC18.out
     clear HC18
     replace H := Option.bind_eq_some_iff.mp H
     obtain ⟨t803, A360, H⟩ := H
     replace H : (if t803 = true then (laws_FnExactRateFound.j0 k l0 l1 t793 t796 (t801 != t791)) else (laws_FnExactRateFound.j0 k l0 l1 t793 t796 true)) = some r := H
     have A36 := Aside0.mk A360
     clear A360
     by_cases c37 : t803 = true
     ·subst c37
      have H1 : (laws_FnExactRateFound.j0 k l0 l1 t793 t796 (t801 != t791)) = some r := by rw [if_pos rfl] at H; exact H
      clear H
      have H := H1
      clear H1
      have H' := Aside0.mk H
      clear H
      have hnb38 := NB802_792.out
      have hnc38 := NB792_802.out
      have hcz39_0 : w33.cell? ⟨gb802, 0, none⟩ = some (.int .i64 0) := (blk_cell BK802.out 0).trans rfl
      have hcz39_1 : w33.cell? ⟨gb802, 1, none⟩ = some (.int .i64 0) := (blk_cell BK802.out 1).trans rfl
      have hfz39_0 := blk_frozen BK802.out 0
      have hfz39_1 := blk_frozen BK802.out 1
      have hcz40_0 : w33.cell? ⟨gb792, 0, none⟩ = some (.int .i64 t789) := (blk_cell BK792.out 0).trans rfl
      have hcz40_1 : w33.cell? ⟨gb792, 1, none⟩ = some (.int .i64 t790) := (blk_cell BK792.out 1).trans rfl
      have hfz40_0 := blk_frozen BK792.out 0
      have hfz40_1 := blk_frozen BK792.out 1
      go_wp2_with (first | ((with_reducible refine gate_callee (f := 50) rfl ?_); refine goesL_ (some 49) rfl rfl Try.func50 (by kernel_rfl) rfl #[.agg #[.int .i64 t799, .int .i64 t800], .agg #[.int .i64 t789, .int .i64 t790]] rfl ln_ ?_; (with_reducible refine (laws_eqFraction.calls t799 t800 t789 t790 true _ A36.out).mono ?_); rintro e w41 ⟨rfl, hb⟩; refine ⟨_, rfl, ?_⟩; have n0_ := Aside0.mk (Kd.R_below (by (with_reducible repeat (first | apply Kd.R_alloc | apply Kd.R_drewN | apply Kd.R_drew)); exact (Kd.R_mono (Kd.R_far (p := ⟨gb802, 1, none⟩) (Kd.R_far (p := ⟨gb802, 0, none⟩) (Kd.R_types HO785.out BK802.out (by decide)) (fun _ hk => hk.2) (.int .i64 t799)) (fun _ hk => hk.2) (.int .i64 t800)) (fun _ h_ => h_.1))) hb); have n1_ := Aside0.mk (Kd.R_below (by (with_reducible repeat (first | apply Kd.R_alloc | apply Kd.R_drewN | apply Kd.R_drew)); exact (Kd.R_mono (Kd.R_far (p := ⟨gb802, 1, none⟩) (Kd.R_far (p := ⟨gb802, 0, none⟩) (Kd.R_types HO788.out BK802.out (by decide)) (fun _ hk => hk.2) (.int .i64 t799)) (fun _ hk => hk.2) (.int .i64 t800)) (fun _ h_ => h_.1))) hb); have n2_ := Aside0.mk (Kd.R_below (by (with_reducible repeat (first | apply Kd.R_alloc | apply Kd.R_drewN | apply Kd.R_drew)); exact (Kd.R_mono (Kd.R_far (p := ⟨gb802, 1, none⟩) (Kd.R_far (p := ⟨gb802, 0, none⟩) (Kd.R_types HO795.out BK802.out (by decide)) (fun _ hk => hk.2) (.int .i64 t799)) (fun _ hk => hk.2) (.int .i64 t800)) (fun _ h_ => h_.1))) hb); have n3_ := Aside0.mk (Kd.R_below (by (with_reducible repeat (first | apply Kd.R_alloc | apply Kd.R_drewN | apply Kd.R_drew)); exact (Kd.R_mono (Kd.R_far (p := ⟨gb802, 1, none⟩) (Kd.R_far (p := ⟨gb802, 0, none⟩) (Kd.R_types HO798.out BK802.out (by decide)) (fun _ hk => hk.2) (.int .i64 t799)) (fun _ hk => hk.2) (.int .i64 t800)) (fun _ h_ => h_.1))) hb); have n4_ := Aside0.mk (blk_below (g := gb792) (o := .cells #[.int .i64 t789, .int .i64 t790] 64 (0, 0)) (by (with_reducible repeat (first | refine blk_drewN ?_ _ | refine blk_drew ?_ | refine blk_alloc ?_ _)); refine blk_far ?_ NB792_802.out _; (with_reducible repeat (first | refine blk_drewN ?_ _ | refine blk_drew ?_ | refine blk_alloc ?_ _)); refine blk_far ?_ NB792_802.out _; (with_reducible repeat (first | refine blk_drewN ?_ _ | refine blk_drew ?_ | refine blk_alloc ?_ _)); exact BK792.out) hb); have n5_ := Aside0.mk (blk_below (g := gb802) (o := .cells #[.int .i64 t799, .int .i64 t800] 64 (0, 0)) (by (with_reducible repeat (first | refine blk_drewN ?_ _ | refine blk_drew ?_ | refine blk_alloc ?_ _)); refine blk_put (cs := #[.int .i64 t799, .int .i64 0]) ?_ 1 _ rfl; (with_reducible repeat (first | refine blk_drewN ?_ _ | refine blk_drew ?_ | refine blk_alloc ?_ _)); refine blk_put (cs := #[.int .i64 0, .int .i64 0]) ?_ 0 _ rfl; (with_reducible repeat (first | refine blk_drewN ?_ _ | refine blk_drew ?_ | refine blk_alloc ?_ _)); exact BK802.out) hb); have n6_ := Aside0.mk (below_step (hg2_ GE792 GE802) hb); clear HO785; clear HO788; clear HO795; clear HO798; clear BK792; clear BK802; clear HB; have HO785 := n0_; have HO788 := n1_; have HO795 := n2_; have HO798 := n3_; have BK792 := n4_; have BK802 := n5_; have HB := n6_; clear n0_ n1_ n2_ n3_ n4_ n5_ n6_; (try clear hb); (try clear hb2); (try clear hk); (try clear hi)))
      go_meet
      case rel => exact ⟨_, ((t801 != t791)), (by first | rfl | (simp; done) | (simp [*]; done)), H', ⟨by first | omega | exact Nat.le_refl _⟩, ⟨by (with_reducible repeat (first | apply Kd.R_alloc | apply Kd.R_drewN | apply Kd.R_drew)); exact Kd.R_mono HO795.out (fun _ hk => trivial)⟩, ⟨by (with_reducible repeat (first | apply Kd.R_alloc | apply Kd.R_drewN | apply Kd.R_drew)); exact Kd.R_mono HO798.out (fun _ hk => trivial)⟩, ⟨by (with_reducible repeat (first | refine blk_drewN ?_ _ | refine blk_drew ?_ | refine blk_alloc ?_ _)); exact BK792.out⟩, ⟨by (with_reducible repeat (first | refine blk_drewN ?_ _ | refine blk_drew ?_ | refine blk_alloc ?_ _)); exact BK802.out⟩, ⟨(hg2_ GE792 GE802)⟩⟩
     ·replace c37 := Bool.eq_false_iff.mpr c37
      subst c37
      have H1 : (laws_FnExactRateFound.j0 k l0 l1 t793 t796 true) = some r := by rw [if_neg (show ¬ (false = true) by decide)] at H; exact H
      clear H
      have H := H1
      clear H1
      have H' := Aside0.mk H
      clear H
      have hnb42 := NB802_792.out
      have hnc42 := NB792_802.out
      have hcz43_0 : w33.cell? ⟨gb802, 0, none⟩ = some (.int .i64 0) := (blk_cell BK802.out 0).trans rfl
      have hcz43_1 : w33.cell? ⟨gb802, 1, none⟩ = some (.int .i64 0) := (blk_cell BK802.out 1).trans rfl
      have hfz43_0 := blk_frozen BK802.out 0
      have hfz43_1 := blk_frozen BK802.out 1
      have hcz44_0 : w33.cell? ⟨gb792, 0, none⟩ = some (.int .i64 t789) := (blk_cell BK792.out 0).trans rfl
      have hcz44_1 : w33.cell? ⟨gb792, 1, none⟩ = some (.int .i64 t790) := (blk_cell BK792.out 1).trans rfl
      have hfz44_0 := blk_frozen BK792.out 0
      have hfz44_1 := blk_frozen BK792.out 1
      go_wp2_with (first | ((with_reducible refine gate_callee (f := 50) rfl ?_); refine goesL_ (some 49) rfl rfl Try.func50 (by kernel_rfl) rfl #[.agg #[.int .i64 t799, .int .i64 t800], .agg #[.int .i64 t789, .int .i64 t790]] rfl ln_ ?_; (with_reducible refine (laws_eqFraction.calls t799 t800 t789 t790 false _ A36.out).mono ?_); rintro e w45 ⟨rfl, hb⟩; refine ⟨_, rfl, ?_⟩; have n0_ := Aside0.mk (Kd.R_below (by (with_reducible repeat (first | apply Kd.R_alloc | apply Kd.R_drewN | apply Kd.R_drew)); exact (Kd.R_mono (Kd.R_far (p := ⟨gb802, 1, none⟩) (Kd.R_far (p := ⟨gb802, 0, none⟩) (Kd.R_types HO785.out BK802.out (by decide)) (fun _ hk => hk.2) (.int .i64 t799)) (fun _ hk => hk.2) (.int .i64 t800)) (fun _ h_ => h_.1))) hb); have n1_ := Aside0.mk (Kd.R_below (by (with_reducible repeat (first | apply Kd.R_alloc | apply Kd.R_drewN | apply Kd.R_drew)); exact (Kd.R_mono (Kd.R_far (p := ⟨gb802, 1, none⟩) (Kd.R_far (p := ⟨gb802, 0, none⟩) (Kd.R_types HO788.out BK802.out (by decide)) (fun _ hk => hk.2) (.int .i64 t799)) (fun _ hk => hk.2) (.int .i64 t800)) (fun _ h_ => h_.1))) hb); have n2_ := Aside0.mk (Kd.R_below (by (with_reducible repeat (first | apply Kd.R_alloc | apply Kd.R_drewN | apply Kd.R_drew)); exact (Kd.R_mono (Kd.R_far (p := ⟨gb802, 1, none⟩) (Kd.R_far (p := ⟨gb802, 0, none⟩) (Kd.R_types HO795.out BK802.out (by decide)) (fun _ hk => hk.2) (.int .i64 t799)) (fun _ hk => hk.2) (.int .i64 t800)) (fun _ h_ => h_.1))) hb); have n3_ := Aside0.mk (Kd.R_below (by (with_reducible repeat (first | apply Kd.R_alloc | apply Kd.R_drewN | apply Kd.R_drew)); exact (Kd.R_mono (Kd.R_far (p := ⟨gb802, 1, none⟩) (Kd.R_far (p := ⟨gb802, 0, none⟩) (Kd.R_types HO798.out BK802.out (by decide)) (fun _ hk => hk.2) (.int .i64 t799)) (fun _ hk => hk.2) (.int .i64 t800)) (fun _ h_ => h_.1))) hb); have n4_ := Aside0.mk (blk_below (g := gb792) (o := .cells #[.int .i64 t789, .int .i64 t790] 64 (0, 0)) (by (with_reducible repeat (first | refine blk_drewN ?_ _ | refine blk_drew ?_ | refine blk_alloc ?_ _)); refine blk_far ?_ NB792_802.out _; (with_reducible repeat (first | refine blk_drewN ?_ _ | refine blk_drew ?_ | refine blk_alloc ?_ _)); refine blk_far ?_ NB792_802.out _; (with_reducible repeat (first | refine blk_drewN ?_ _ | refine blk_drew ?_ | refine blk_alloc ?_ _)); exact BK792.out) hb); have n5_ := Aside0.mk (blk_below (g := gb802) (o := .cells #[.int .i64 t799, .int .i64 t800] 64 (0, 0)) (by (with_reducible repeat (first | refine blk_drewN ?_ _ | refine blk_drew ?_ | refine blk_alloc ?_ _)); refine blk_put (cs := #[.int .i64 t799, .int .i64 0]) ?_ 1 _ rfl; (with_reducible repeat (first | refine blk_drewN ?_ _ | refine blk_drew ?_ | refine blk_alloc ?_ _)); refine blk_put (cs := #[.int .i64 0, .int .i64 0]) ?_ 0 _ rfl; (with_reducible repeat (first | refine blk_drewN ?_ _ | refine blk_drew ?_ | refine blk_alloc ?_ _)); exact BK802.out) hb); have n6_ := Aside0.mk (below_step (hg2_ GE792 GE802) hb); clear HO785; clear HO788; clear HO795; clear HO798; clear BK792; clear BK802; clear HB; have HO785 := n0_; have HO788 := n1_; have HO795 := n2_; have HO798 := n3_; have BK792 := n4_; have BK802 := n5_; have HB := n6_; clear n0_ n1_ n2_ n3_ n4_ n5_ n6_; (try clear hb); (try clear hb2); (try clear hk); (try clear hi)))
      go_meet
      case rel => exact ⟨_, (true), (by first | rfl | (simp; done) | (simp [*]; done)), H', ⟨by first | omega | exact Nat.le_refl _⟩, ⟨by (with_reducible repeat (first | apply Kd.R_alloc | apply Kd.R_drewN | apply Kd.R_drew)); exact Kd.R_mono HO795.out (fun _ hk => trivial)⟩, ⟨by (with_reducible repeat (first | apply Kd.R_alloc | apply Kd.R_drewN | apply Kd.R_drew)); exact Kd.R_mono HO798.out (fun _ hk => trivial)⟩, ⟨by (with_reducible repeat (first | refine blk_drewN ?_ _ | refine blk_drew ?_ | refine blk_alloc ?_ _)); exact BK792.out⟩, ⟨by (with_reducible repeat (first | refine blk_drewN ?_ _ | refine blk_drew ?_ | refine blk_alloc ?_ _)); exact BK802.out⟩, ⟨(hg2_ GE792 GE802)⟩⟩
    case rest =>
     clear HC18
     try clear c1
     try clear c2
     try clear p2
     try clear c3
     try clear c4
     try clear c4b0
     try clear c4b1
     try clear c5
     try clear c6
     try clear c6b0
     try clear c9
     try clear c9b0
     try clear c12
     try clear c15
     try clear c17
     try clear c20
     try clear c22
     try clear c34
     try clear c37
     try clear c38
     try clear c42
     try clear hcz27_0
     try clear hcz27_1
     try clear hcz35_0
     try clear hcz35_1
     try clear hcz39_0
     try clear hcz39_1
     try clear hcz40_0
     try clear hcz40_1
     try clear hcz43_0
     try clear hcz43_1
     try clear hcz44_0
     try clear hcz44_1
     try clear hfz27_0
     try clear hfz27_1
     try clear hfz35_0
     try clear hfz35_1
     try clear hfz39_0
     try clear hfz39_1
     try clear hfz40_0
     try clear hfz40_1
     try clear hfz43_0
     try clear hfz43_1
     try clear hfz44_0
     try clear hfz44_1
     obtain ⟨kq, x55_17, rfl, HA, HJ17, HO_10, HO_11, BK792, BK802, HB⟩ := hcut
     cases kq with
     | zero => exact absurd HA.out (by simp [laws_FnExactRateFound.j0])
     | succ kj17 =>
      have H := HA.out
      clear HA
      simp only [laws_FnExactRateFound.j0] at H
      by_cases c46 : x55_17 = true
      ·subst c46
       have H1 : (some false) = some r := by rw [if_pos rfl] at H; exact H
       clear H
       have H := H1
       clear H1
       obtain rfl := Option.some.inj H
       go_wp2
       go_ret
       exact ⟨ew_, (hg2_ GE792 GE802)⟩
      ·replace c46 := Bool.eq_false_iff.mpr c46
       subst c46
       have H1 : ((laws_toGearS.f kj17 l0).bind fun t804 => ((laws_eqGearS.f kj17 t793 t804).bind fun t807 => (if t807 = true then ((laws_toCheckS.f kj17 l1).bind fun t808 => ((laws_eqCheckS.f kj17 t796 t808).bind fun t811 => (if t811 = true then (some true) else (some false)))) else (some false)))) = some r := by rw [if_neg (show ¬ (false = true) by decide)] at H; exact H
       clear H
       have H := H1
       clear H1
       replace H := Option.bind_eq_some_iff.mp H
       obtain ⟨t804, A470, H⟩ := H
       replace H : ((laws_eqGearS.f kj17 t793 t804).bind fun t807 => (if t807 = true then ((laws_toCheckS.f kj17 l1).bind fun t808 => ((laws_eqCheckS.f kj17 t796 t808).bind fun t811 => (if t811 = true then (some true) else (some false)))) else (some false))) = some r := H
       have A47 := Aside0.mk A470
       clear A470
       replace H := Option.bind_eq_some_iff.mp H
       obtain ⟨t807, A480, H⟩ := H
       replace H : (if t807 = true then ((laws_toCheckS.f kj17 l1).bind fun t808 => ((laws_eqCheckS.f kj17 t796 t808).bind fun t811 => (if t811 = true then (some true) else (some false)))) else (some false)) = some r := H
       have A48 := Aside0.mk A480
       clear A480
       by_cases c49 : t807 = true
       ·subst c49
        have H1 : ((laws_toCheckS.f kj17 l1).bind fun t808 => ((laws_eqCheckS.f kj17 t796 t808).bind fun t811 => (if t811 = true then (some true) else (some false)))) = some r := by rw [if_pos rfl] at H; exact H
        clear H
        have H := H1
        clear H1
        replace H := Option.bind_eq_some_iff.mp H
        obtain ⟨t808, A500, H⟩ := H
        replace H : ((laws_eqCheckS.f kj17 t796 t808).bind fun t811 => (if t811 = true then (some true) else (some false))) = some r := H
        have A50 := Aside0.mk A500
        clear A500
        replace H := Option.bind_eq_some_iff.mp H
        obtain ⟨t811, A510, H⟩ := H
        replace H : (if t811 = true then (some true) else (some false)) = some r := H
        have A51 := Aside0.mk A510
        clear A510
        by_cases c52 : t811 = true
        ·subst c52
         have H1 : (some true) = some r := by rw [if_pos rfl] at H; exact H
         clear H
         have H := H1
         clear H1
         obtain rfl := Option.some.inj H
         go_wp2_with (first | ((with_reducible refine gate_callee (f := 22) rfl ?_); refine goesL_ (some 58) rfl rfl Try.func22 (by kernel_rfl) rfl #[.slice A0 l0.length c0] rfl ln_ ?_; (with_reducible refine (laws_toGearS.calls kj17 _ _ l0 t804 _ ?side1 ?side2 A47.out).mono ?_); (case side1 => exact kc_ (Kd.C_below HR0.out HB.out)); (case side2 => exact HC0.out); rintro e w53 ⟨v805, rfl, ho0, hb⟩; refine ⟨_, rfl, ?_⟩; have n0_ := Aside0.mk (Kd.R_elder' (kr_ HO_10) (Kd.R_base ho0) hb); have n1_ := Aside0.mk (Kd.R_below (kr_ HO_11) hb); have n2_ := Aside0.mk (Kd.R_lower (Kd.R_new' ho0 (Kd.R_lt (kr_ HO_10))) (below_size (hg2_ GE792 GE802))); have n3_ := Aside0.mk (blk_below (g := gb792) (o := .cells #[.int .i64 t789, .int .i64 t790] 64 (0, 0)) (bk_ BK792) hb); have n4_ := Aside0.mk (blk_below (g := gb802) (o := .cells #[.int .i64 t799, .int .i64 t800] 64 (0, 0)) (bk_ BK802) hb); have n5_ := Aside0.mk (below_step (hg2_ GE792 GE802) hb); clear HO_10; clear HO_11; clear BK792; clear BK802; clear HB; have HO_10 := n0_; have HO_11 := n1_; have HO806 := n2_; have BK792 := n3_; have BK802 := n4_; have HB := n5_; clear n0_ n1_ n2_ n3_ n4_ n5_; (try clear hb); (try clear hb2); (try clear hk); (try clear hi); (try clear ho0); obtain ⟨Ao54, co54, eo54⟩ := Kd.R_slice HO806.out; subst eo54) | ((with_reducible refine gate_callee (f := 24) rfl ?_); refine goesL_ (some 59) rfl rfl Try.func24 (by kernel_rfl) rfl #[.slice Ao30 t793.length co30, .slice Ao54 t804.length co54] rfl ln_ ?_; (with_reducible refine (laws_eqGearS.calls kj17 _ _ t793 _ _ t804 true _ ?side1 ?side2 ?side3 ?side4 A48.out).mono ?_); (case side1 => repeat (first | exact (Kd.R_reads' HO_10.out).2.2 | (with_reducible refine Kd.C_alloc ?_ _) | (with_reducible refine Kd.C_drewN ?_ _) | (with_reducible refine Kd.C_drew ?_))); (case side2 => exact (Kd.R_reads' HO_10.out).2.1); (case side3 => repeat (first | exact (Kd.R_reads' HO806.out).2.2 | (with_reducible refine Kd.C_alloc ?_ _) | (with_reducible refine Kd.C_drewN ?_ _) | (with_reducible refine Kd.C_drew ?_))); (case side4 => exact (Kd.R_reads' HO806.out).2.1); rintro e w55 ⟨rfl, hb⟩; refine ⟨_, rfl, ?_⟩; have n0_ := Aside0.mk (Kd.R_below (kr_ HO_10) hb); have n1_ := Aside0.mk (Kd.R_below (kr_ HO_11) hb); have n2_ := Aside0.mk (Kd.R_below (kr_ HO806) hb); have n3_ := Aside0.mk (blk_below (g := gb792) (o := .cells #[.int .i64 t789, .int .i64 t790] 64 (0, 0)) (bk_ BK792) hb); have n4_ := Aside0.mk (blk_below (g := gb802) (o := .cells #[.int .i64 t799, .int .i64 t800] 64 (0, 0)) (bk_ BK802) hb); have n5_ := Aside0.mk (below_step (hg2_ GE792 GE802) hb); clear HO_10; clear HO_11; clear HO806; clear BK792; clear BK802; clear HB; have HO_10 := n0_; have HO_11 := n1_; have HO806 := n2_; have BK792 := n3_; have BK802 := n4_; have HB := n5_; clear n0_ n1_ n2_ n3_ n4_ n5_; (try clear hb); (try clear hb2); (try clear hk); (try clear hi)) | ((with_reducible refine gate_callee (f := 17) rfl ?_); refine goesL_ (some 63) rfl rfl Try.func17 (by kernel_rfl) rfl #[.slice A1 l1.length c1] rfl ln_ ?_; (with_reducible refine (laws_toCheckS.calls kj17 _ _ l1 t808 _ ?side1 ?side2 A50.out).mono ?_); (case side1 => exact kc_ (Kd.C_below HR1.out HB.out)); (case side2 => exact HC1.out); rintro e w56 ⟨v809, rfl, ho0, hb⟩; refine ⟨_, rfl, ?_⟩; have n0_ := Aside0.mk (Kd.R_below (kr_ HO_10) hb); have n1_ := Aside0.mk (Kd.R_elder' (kr_ HO_11) (Kd.R_base ho0) hb); have n2_ := Aside0.mk (Kd.R_below (kr_ HO806) hb); have n3_ := Aside0.mk (Kd.R_lower (Kd.R_new' ho0 (Kd.R_lt (kr_ HO_11))) (below_size (hg2_ GE792 GE802))); have n4_ := Aside0.mk (blk_below (g := gb792) (o := .cells #[.int .i64 t789, .int .i64 t790] 64 (0, 0)) (bk_ BK792) hb); have n5_ := Aside0.mk (blk_below (g := gb802) (o := .cells #[.int .i64 t799, .int .i64 t800] 64 (0, 0)) (bk_ BK802) hb); have n6_ := Aside0.mk (below_step (hg2_ GE792 GE802) hb); clear HO_10; clear HO_11; clear HO806; clear BK792; clear BK802; clear HB; have HO_10 := n0_; have HO_11 := n1_; have HO806 := n2_; have HO810 := n3_; have BK792 := n4_; have BK802 := n5_; have HB := n6_; clear n0_ n1_ n2_ n3_ n4_ n5_ n6_; (try clear hb); (try clear hb2); (try clear hk); (try clear hi); (try clear ho0); obtain ⟨Ao57, co57, eo57⟩ := Kd.R_slice HO810.out; subst eo57) | ((with_reducible refine gate_callee (f := 19) rfl ?_); refine goesL_ (some 64) rfl rfl Try.func19 (by kernel_rfl) rfl #[.slice Ao31 t796.length co31, .slice Ao57 t808.length co57] rfl ln_ ?_; (with_reducible refine (laws_eqCheckS.calls kj17 _ _ t796 _ _ t808 true _ ?side1 ?side2 ?side3 ?side4 A51.out).mono ?_); (case side1 => repeat (first | exact (Kd.R_reads' HO_11.out).2.2 | (with_reducible refine Kd.C_alloc ?_ _) | (with_reducible refine Kd.C_drewN ?_ _) | (with_reducible refine Kd.C_drew ?_))); (case side2 => exact (Kd.R_reads' HO_11.out).2.1); (case side3 => repeat (first | exact (Kd.R_reads' HO810.out).2.2 | (with_reducible refine Kd.C_alloc ?_ _) | (with_reducible refine Kd.C_drewN ?_ _) | (with_reducible refine Kd.C_drew ?_))); (case side4 => exact (Kd.R_reads' HO810.out).2.1); rintro e w58 ⟨rfl, hb⟩; refine ⟨_, rfl, ?_⟩; have n0_ := Aside0.mk (Kd.R_below (kr_ HO_10) hb); have n1_ := Aside0.mk (Kd.R_below (kr_ HO_11) hb); have n2_ := Aside0.mk (Kd.R_below (kr_ HO806) hb); have n3_ := Aside0.mk (Kd.R_below (kr_ HO810) hb); have n4_ := Aside0.mk (blk_below (g := gb792) (o := .cells #[.int .i64 t789, .int .i64 t790] 64 (0, 0)) (bk_ BK792) hb); have n5_ := Aside0.mk (blk_below (g := gb802) (o := .cells #[.int .i64 t799, .int .i64 t800] 64 (0, 0)) (bk_ BK802) hb); have n6_ := Aside0.mk (below_step (hg2_ GE792 GE802) hb); clear HO_10; clear HO_11; clear HO806; clear HO810; clear BK792; clear BK802; clear HB; have HO_10 := n0_; have HO_11 := n1_; have HO806 := n2_; have HO810 := n3_; have BK792 := n4_; have BK802 := n5_; have HB := n6_; clear n0_ n1_ n2_ n3_ n4_ n5_ n6_; (try clear hb); (try clear hb2); (try clear hk); (try clear hi)))
         go_ret
         exact ⟨ew_, (hg2_ GE792 GE802)⟩
        ·replace c52 := Bool.eq_false_iff.mpr c52
         subst c52
         have H1 : (some false) = some r := by rw [if_neg (show ¬ (false = true) by decide)] at H; exact H
         clear H
         have H := H1
         clear H1
         obtain rfl := Option.some.inj H
         go_wp2_with (first | ((with_reducible refine gate_callee (f := 22) rfl ?_); refine goesL_ (some 58) rfl rfl Try.func22 (by kernel_rfl) rfl #[.slice A0 l0.length c0] rfl ln_ ?_; (with_reducible refine (laws_toGearS.calls kj17 _ _ l0 t804 _ ?side1 ?side2 A47.out).mono ?_); (case side1 => exact kc_ (Kd.C_below HR0.out HB.out)); (case side2 => exact HC0.out); rintro e w59 ⟨v805, rfl, ho0, hb⟩; refine ⟨_, rfl, ?_⟩; have n0_ := Aside0.mk (Kd.R_elder' (kr_ HO_10) (Kd.R_base ho0) hb); have n1_ := Aside0.mk (Kd.R_below (kr_ HO_11) hb); have n2_ := Aside0.mk (Kd.R_lower (Kd.R_new' ho0 (Kd.R_lt (kr_ HO_10))) (below_size (hg2_ GE792 GE802))); have n3_ := Aside0.mk (blk_below (g := gb792) (o := .cells #[.int .i64 t789, .int .i64 t790] 64 (0, 0)) (bk_ BK792) hb); have n4_ := Aside0.mk (blk_below (g := gb802) (o := .cells #[.int .i64 t799, .int .i64 t800] 64 (0, 0)) (bk_ BK802) hb); have n5_ := Aside0.mk (below_step (hg2_ GE792 GE802) hb); clear HO_10; clear HO_11; clear BK792; clear BK802; clear HB; have HO_10 := n0_; have HO_11 := n1_; have HO806 := n2_; have BK792 := n3_; have BK802 := n4_; have HB := n5_; clear n0_ n1_ n2_ n3_ n4_ n5_; (try clear hb); (try clear hb2); (try clear hk); (try clear hi); (try clear ho0); obtain ⟨Ao60, co60, eo60⟩ := Kd.R_slice HO806.out; subst eo60) | ((with_reducible refine gate_callee (f := 24) rfl ?_); refine goesL_ (some 59) rfl rfl Try.func24 (by kernel_rfl) rfl #[.slice Ao30 t793.length co30, .slice Ao60 t804.length co60] rfl ln_ ?_; (with_reducible refine (laws_eqGearS.calls kj17 _ _ t793 _ _ t804 true _ ?side1 ?side2 ?side3 ?side4 A48.out).mono ?_); (case side1 => repeat (first | exact (Kd.R_reads' HO_10.out).2.2 | (with_reducible refine Kd.C_alloc ?_ _) | (with_reducible refine Kd.C_drewN ?_ _) | (with_reducible refine Kd.C_drew ?_))); (case side2 => exact (Kd.R_reads' HO_10.out).2.1); (case side3 => repeat (first | exact (Kd.R_reads' HO806.out).2.2 | (with_reducible refine Kd.C_alloc ?_ _) | (with_reducible refine Kd.C_drewN ?_ _) | (with_reducible refine Kd.C_drew ?_))); (case side4 => exact (Kd.R_reads' HO806.out).2.1); rintro e w61 ⟨rfl, hb⟩; refine ⟨_, rfl, ?_⟩; have n0_ := Aside0.mk (Kd.R_below (kr_ HO_10) hb); have n1_ := Aside0.mk (Kd.R_below (kr_ HO_11) hb); have n2_ := Aside0.mk (Kd.R_below (kr_ HO806) hb); have n3_ := Aside0.mk (blk_below (g := gb792) (o := .cells #[.int .i64 t789, .int .i64 t790] 64 (0, 0)) (bk_ BK792) hb); have n4_ := Aside0.mk (blk_below (g := gb802) (o := .cells #[.int .i64 t799, .int .i64 t800] 64 (0, 0)) (bk_ BK802) hb); have n5_ := Aside0.mk (below_step (hg2_ GE792 GE802) hb); clear HO_10; clear HO_11; clear HO806; clear BK792; clear BK802; clear HB; have HO_10 := n0_; have HO_11 := n1_; have HO806 := n2_; have BK792 := n3_; have BK802 := n4_; have HB := n5_; clear n0_ n1_ n2_ n3_ n4_ n5_; (try clear hb); (try clear hb2); (try clear hk); (try clear hi)) | ((with_reducible refine gate_callee (f := 17) rfl ?_); refine goesL_ (some 63) rfl rfl Try.func17 (by kernel_rfl) rfl #[.slice A1 l1.length c1] rfl ln_ ?_; (with_reducible refine (laws_toCheckS.calls kj17 _ _ l1 t808 _ ?side1 ?side2 A50.out).mono ?_); (case side1 => exact kc_ (Kd.C_below HR1.out HB.out)); (case side2 => exact HC1.out); rintro e w62 ⟨v809, rfl, ho0, hb⟩; refine ⟨_, rfl, ?_⟩; have n0_ := Aside0.mk (Kd.R_below (kr_ HO_10) hb); have n1_ := Aside0.mk (Kd.R_elder' (kr_ HO_11) (Kd.R_base ho0) hb); have n2_ := Aside0.mk (Kd.R_below (kr_ HO806) hb); have n3_ := Aside0.mk (Kd.R_lower (Kd.R_new' ho0 (Kd.R_lt (kr_ HO_11))) (below_size (hg2_ GE792 GE802))); have n4_ := Aside0.mk (blk_below (g := gb792) (o := .cells #[.int .i64 t789, .int .i64 t790] 64 (0, 0)) (bk_ BK792) hb); have n5_ := Aside0.mk (blk_below (g := gb802) (o := .cells #[.int .i64 t799, .int .i64 t800] 64 (0, 0)) (bk_ BK802) hb); have n6_ := Aside0.mk (below_step (hg2_ GE792 GE802) hb); clear HO_10; clear HO_11; clear HO806; clear BK792; clear BK802; clear HB; have HO_10 := n0_; have HO_11 := n1_; have HO806 := n2_; have HO810 := n3_; have BK792 := n4_; have BK802 := n5_; have HB := n6_; clear n0_ n1_ n2_ n3_ n4_ n5_ n6_; (try clear hb); (try clear hb2); (try clear hk); (try clear hi); (try clear ho0); obtain ⟨Ao63, co63, eo63⟩ := Kd.R_slice HO810.out; subst eo63) | ((with_reducible refine gate_callee (f := 19) rfl ?_); refine goesL_ (some 64) rfl rfl Try.func19 (by kernel_rfl) rfl #[.slice Ao31 t796.length co31, .slice Ao63 t808.length co63] rfl ln_ ?_; (with_reducible refine (laws_eqCheckS.calls kj17 _ _ t796 _ _ t808 false _ ?side1 ?side2 ?side3 ?side4 A51.out).mono ?_); (case side1 => repeat (first | exact (Kd.R_reads' HO_11.out).2.2 | (with_reducible refine Kd.C_alloc ?_ _) | (with_reducible refine Kd.C_drewN ?_ _) | (with_reducible refine Kd.C_drew ?_))); (case side2 => exact (Kd.R_reads' HO_11.out).2.1); (case side3 => repeat (first | exact (Kd.R_reads' HO810.out).2.2 | (with_reducible refine Kd.C_alloc ?_ _) | (with_reducible refine Kd.C_drewN ?_ _) | (with_reducible refine Kd.C_drew ?_))); (case side4 => exact (Kd.R_reads' HO810.out).2.1); rintro e w64 ⟨rfl, hb⟩; refine ⟨_, rfl, ?_⟩; have n0_ := Aside0.mk (Kd.R_below (kr_ HO_10) hb); have n1_ := Aside0.mk (Kd.R_below (kr_ HO_11) hb); have n2_ := Aside0.mk (Kd.R_below (kr_ HO806) hb); have n3_ := Aside0.mk (Kd.R_below (kr_ HO810) hb); have n4_ := Aside0.mk (blk_below (g := gb792) (o := .cells #[.int .i64 t789, .int .i64 t790] 64 (0, 0)) (bk_ BK792) hb); have n5_ := Aside0.mk (blk_below (g := gb802) (o := .cells #[.int .i64 t799, .int .i64 t800] 64 (0, 0)) (bk_ BK802) hb); have n6_ := Aside0.mk (below_step (hg2_ GE792 GE802) hb); clear HO_10; clear HO_11; clear HO806; clear HO810; clear BK792; clear BK802; clear HB; have HO_10 := n0_; have HO_11 := n1_; have HO806 := n2_; have HO810 := n3_; have BK792 := n4_; have BK802 := n5_; have HB := n6_; clear n0_ n1_ n2_ n3_ n4_ n5_ n6_; (try clear hb); (try clear hb2); (try clear hk); (try clear hi)))
         go_ret
         exact ⟨ew_, (hg2_ GE792 GE802)⟩
       ·replace c49 := Bool.eq_false_iff.mpr c49
        subst c49
        have H1 : (some false) = some r := by rw [if_neg (show ¬ (false = true) by decide)] at H; exact H
        clear H
        have H := H1
        clear H1
        obtain rfl := Option.some.inj H
        go_wp2_with (first | ((with_reducible refine gate_callee (f := 22) rfl ?_); refine goesL_ (some 58) rfl rfl Try.func22 (by kernel_rfl) rfl #[.slice A0 l0.length c0] rfl ln_ ?_; (with_reducible refine (laws_toGearS.calls kj17 _ _ l0 t804 _ ?side1 ?side2 A47.out).mono ?_); (case side1 => exact kc_ (Kd.C_below HR0.out HB.out)); (case side2 => exact HC0.out); rintro e w65 ⟨v805, rfl, ho0, hb⟩; refine ⟨_, rfl, ?_⟩; have n0_ := Aside0.mk (Kd.R_elder' (kr_ HO_10) (Kd.R_base ho0) hb); have n1_ := Aside0.mk (Kd.R_below (kr_ HO_11) hb); have n2_ := Aside0.mk (Kd.R_lower (Kd.R_new' ho0 (Kd.R_lt (kr_ HO_10))) (below_size (hg2_ GE792 GE802))); have n3_ := Aside0.mk (blk_below (g := gb792) (o := .cells #[.int .i64 t789, .int .i64 t790] 64 (0, 0)) (bk_ BK792) hb); have n4_ := Aside0.mk (blk_below (g := gb802) (o := .cells #[.int .i64 t799, .int .i64 t800] 64 (0, 0)) (bk_ BK802) hb); have n5_ := Aside0.mk (below_step (hg2_ GE792 GE802) hb); clear HO_10; clear HO_11; clear BK792; clear BK802; clear HB; have HO_10 := n0_; have HO_11 := n1_; have HO806 := n2_; have BK792 := n3_; have BK802 := n4_; have HB := n5_; clear n0_ n1_ n2_ n3_ n4_ n5_; (try clear hb); (try clear hb2); (try clear hk); (try clear hi); (try clear ho0); obtain ⟨Ao66, co66, eo66⟩ := Kd.R_slice HO806.out; subst eo66) | ((with_reducible refine gate_callee (f := 24) rfl ?_); refine goesL_ (some 59) rfl rfl Try.func24 (by kernel_rfl) rfl #[.slice Ao30 t793.length co30, .slice Ao66 t804.length co66] rfl ln_ ?_; (with_reducible refine (laws_eqGearS.calls kj17 _ _ t793 _ _ t804 false _ ?side1 ?side2 ?side3 ?side4 A48.out).mono ?_); (case side1 => repeat (first | exact (Kd.R_reads' HO_10.out).2.2 | (with_reducible refine Kd.C_alloc ?_ _) | (with_reducible refine Kd.C_drewN ?_ _) | (with_reducible refine Kd.C_drew ?_))); (case side2 => exact (Kd.R_reads' HO_10.out).2.1); (case side3 => repeat (first | exact (Kd.R_reads' HO806.out).2.2 | (with_reducible refine Kd.C_alloc ?_ _) | (with_reducible refine Kd.C_drewN ?_ _) | (with_reducible refine Kd.C_drew ?_))); (case side4 => exact (Kd.R_reads' HO806.out).2.1); rintro e w67 ⟨rfl, hb⟩; refine ⟨_, rfl, ?_⟩; have n0_ := Aside0.mk (Kd.R_below (kr_ HO_10) hb); have n1_ := Aside0.mk (Kd.R_below (kr_ HO_11) hb); have n2_ := Aside0.mk (Kd.R_below (kr_ HO806) hb); have n3_ := Aside0.mk (blk_below (g := gb792) (o := .cells #[.int .i64 t789, .int .i64 t790] 64 (0, 0)) (bk_ BK792) hb); have n4_ := Aside0.mk (blk_below (g := gb802) (o := .cells #[.int .i64 t799, .int .i64 t800] 64 (0, 0)) (bk_ BK802) hb); have n5_ := Aside0.mk (below_step (hg2_ GE792 GE802) hb); clear HO_10; clear HO_11; clear HO806; clear BK792; clear BK802; clear HB; have HO_10 := n0_; have HO_11 := n1_; have HO806 := n2_; have BK792 := n3_; have BK802 := n4_; have HB := n5_; clear n0_ n1_ n2_ n3_ n4_ n5_; (try clear hb); (try clear hb2); (try clear hk); (try clear hi)))
        go_ret
        exact ⟨ew_, (hg2_ GE792 GE802)⟩

end Go.Proofs.Ytdbigcfpinpnpaa.P
