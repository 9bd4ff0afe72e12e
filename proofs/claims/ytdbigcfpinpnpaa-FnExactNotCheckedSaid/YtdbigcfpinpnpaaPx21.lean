-- Written by gprint.py (own program, over the printer of the kit) out of the translation. Lean checks it.
import Derived.Test.YtdbigcfpinpnpaaPx0
import Derived.Test.YtdbigcfpinpnpaaPx2
import Derived.Test.YtdbigcfpinpnpaaPx4
import Derived.Test.YtdbigcfpinpnpaaPx6
import Derived.Test.YtdbigcfpinpnpaaPx9
import Derived.Test.YtdbigcfpinpnpaaPx11
import Derived.Test.YtdbigcfpinpnpaaPx14
import Derived.Test.YtdbigcfpinpnpaaPx20
import Derived.Test.YtdbigcfpinpnpaaPx22
import Derived.Test.YtdbigcfpinpnpaaWPk
namespace Go.Proofs.Ytdbigcfpinpnpaa.P
open Go.RowKit Go.Proofs.YtdbigcfpinpnpaaW.PrintWords Go.Proofs.YtdbigcfpinpnpaaW.PrintLast Go.Proofs.YtdbigcfpinpnpaaW.PrintMore Go.Proofs.YtdbigcfpinpnpaaW.Pk
open Bool renaming true → T_, false → F_
open List renaming setIfInBounds_toArray → sT_, set_cons_zero → s0_, set_cons_succ → sS_
attribute [local go_sem] max2_int min2_int max_two min_two max_three min_three max_four min_four   -- for this text's walks alone
set_option linter.unusedVariables false
set_option linter.unusedSimpArgs false

/-! ### spec_NotChecked: function 43 -/
def spec_NotChecked.l0 : Nat → List (S73) → List (S53) → Int → List ByteArray → Int → Option (List ByteArray × Int)
 | 0, _, _, _, _, _ => none
 | k + 1, x0, x1, x2, x8, x9 => if x9 < (x0.length : Int) then (if 0 ≤ x9 then ((spec_l21Last.f k x1 ((rd_T73 x0 x9).f0) 20000).bind fun bt658 => (if bt658.2.2.2 = true then (if bt658.2.1 < x2 then (if x8.length < 8796093022208 then (spec_NotChecked.l0 k x0 x1 x2 (x8 ++ [(rd_T73 x0 x9).f0]) (wrap64 (x9 + 1))) else (none)) else (spec_NotChecked.l0 k x0 x1 x2 x8 (wrap64 (x9 + 1)))) else (if x8.length < 8796093022208 then (spec_NotChecked.l0 k x0 x1 x2 (x8 ++ [(rd_T73 x0 x9).f0]) (wrap64 (x9 + 1))) else (none)))) else (none)) else (some (x8, 0))
def spec_NotChecked.f (k : Nat) (l0 : List (S73)) (l1 : List (S53)) (a2 : Int) : Option (List ByteArray × Int) := (spec_l21Checks.f k l0 l1).bind fun t652 => (if t652 = true then ((spec_l21Day.f a2).bind fun t653 => (if t653 = true then (spec_NotChecked.l0 k l0 l1 a2 (([] : List ByteArray)) 0) else (some (([] : List ByteArray), 2)))) else (some (([] : List ByteArray), 1)))
theorem spec_NotChecked.mono_l : ∀ k, (∀ y0 y1 y2 y3 y4, LeO (spec_NotChecked.l0 k y0 y1 y2 y3 y4) (spec_NotChecked.l0 (k + 1) y0 y1 y2 y3 y4))
 | 0 => fun _ _ _ _ _ r h => by simp [spec_NotChecked.l0] at h
 | k + 1 => by
  have ih0 := spec_NotChecked.mono_l k
  ·intro y0 y1 y2 y3 y4
   unfold spec_NotChecked.l0
   repeat' first
   | (with_reducible exact ih0 _ _ _ _ _)
   | (with_reducible exact spec_l21Checks.mono _ _ _)
   | (with_reducible exact spec_l21Last.mono _ _ _ _)
   | (with_reducible exact LeO.refl _)
   | (with_reducible exact LeO.none _)
   | (with_reducible refine LeO.ite ?_ ?_)
   | (with_reducible refine LeO.bind ?_ (fun _ => ?_))
   | exact ih0 _ _ _ _ _
   | exact spec_l21Checks.mono _ _ _
   | exact spec_l21Last.mono _ _ _ _
   | exact LeO.none _
   | refine LeO.ite ?_ ?_
   | refine LeO.bind ?_ (fun _ => ?_)
theorem spec_NotChecked.mono : ∀ a0 a1 a2 k, LeO (spec_NotChecked.f k a0 a1 a2) (spec_NotChecked.f (k + 1) a0 a1 a2) := by
 intro a0 a1 a2 k
 have ih0 := spec_NotChecked.mono_l k
 unfold spec_NotChecked.f
 repeat' first
   | (with_reducible exact ih0 _ _ _ _ _)
   | (with_reducible exact spec_l21Checks.mono _ _ _)
   | (with_reducible exact spec_l21Last.mono _ _ _ _)
   | (with_reducible exact LeO.refl _)
   | (with_reducible exact LeO.none _)
   | (with_reducible refine LeO.ite ?_ ?_)
   | (with_reducible refine LeO.bind ?_ (fun _ => ?_))
   | exact ih0 _ _ _ _ _
   | exact spec_l21Checks.mono _ _ _
   | exact spec_l21Last.mono _ _ _ _
   | exact LeO.none _
   | refine LeO.ite ?_ ?_
   | refine LeO.bind ?_ (fun _ => ?_)
set_option maxHeartbeats 8000000 in
set_option maxRecDepth 100000 in
theorem spec_NotChecked.calls (k : Nat) (A0 : Option Addr) (c0 : Nat) (l0 : List (S73)) (A1 : Option Addr) (c1 : Nat) (l1 : List (S53)) (a2 : Int) (r1 : List ByteArray) (r2 : Int) (w : World) (hr0 : Kd.C k73 w A0 l0.length l0) (hc0 : l0.length ≤ c0) (hr1 : Kd.C k53 w A1 l1.length l1) (hc1 : l1.length ≤ c1) (h : spec_NotChecked.f k l0 l1 a2 = some (r1, r2)) :
  Calls Try.prog 43 #[.slice A0 l0.length c0, .slice A1 l1.length c1, .int .i64 a2] w fun e w' => ∃ v0_ : Value, e = .returned (.tuple #[v0_, .int .i64 r2]) ∧ Kd.R Kd.string 9 w' w.heap.size (fun _ => True) v0_ r1 ∧ Below w.heap.size w w' := by
 have hu53 := Try.underlying53
 have HR0 := Aside0.mk hr0
 have HC0 := Aside0.mk hc0
 clear hr0 hc0
 have HR1 := Aside0.mk hr1
 have HC1 := Aside0.mk hc1
 clear hr1 hc1
 have HB := Aside0.mk (Below.refl w.heap.size w)
 have H : ((spec_l21Checks.f k l0 l1).bind fun t652 => (if t652 = true then ((spec_l21Day.f a2).bind fun t653 => (if t653 = true then (spec_NotChecked.l0 k l0 l1 a2 (([] : List ByteArray)) 0) else (some (([] : List ByteArray), 2)))) else (some (([] : List ByteArray), 1)))) = some (r1, r2) := h
 clear h
 replace H := Option.bind_eq_some_iff.mp H
 obtain ⟨t652, A40, H⟩ := H
 replace H : (if t652 = true then ((spec_l21Day.f a2).bind fun t653 => (if t653 = true then (spec_NotChecked.l0 k l0 l1 a2 (([] : List ByteArray)) 0) else (some (([] : List ByteArray), 2)))) else (some (([] : List ByteArray), 1))) = some (r1, r2) := H
 have A4 := Aside0.mk A40
 clear A40
 by_cases c5 : t652 = true
 ·subst c5
  have H1 : ((spec_l21Day.f a2).bind fun t653 => (if t653 = true then (spec_NotChecked.l0 k l0 l1 a2 (([] : List ByteArray)) 0) else (some (([] : List ByteArray), 2)))) = some (r1, r2) := by rw [if_pos rfl] at H; exact H
  clear H
  have H := H1
  clear H1
  replace H := Option.bind_eq_some_iff.mp H
  obtain ⟨t653, A60, H⟩ := H
  replace H : (if t653 = true then (spec_NotChecked.l0 k l0 l1 a2 (([] : List ByteArray)) 0) else (some (([] : List ByteArray), 2))) = some (r1, r2) := H
  have A6 := Aside0.mk A60
  clear A60
  by_cases c7 : t653 = true
  ·subst c7
   have H1 : (spec_NotChecked.l0 k l0 l1 a2 (([] : List ByteArray)) 0) = some (r1, r2) := by rw [if_pos rfl] at H; exact H
   clear H
   have H := H1
   clear H1
   obtain ⟨y654, hy654⟩ : ∃ y_ : List ByteArray, y_ = (([] : List ByteArray)) := ⟨_, rfl⟩
   replace H : (spec_NotChecked.l0 k l0 l1 a2 y654 0) = some (r1, r2) := by first | (rw [hy654]; with_reducible exact H) | (have H2_ := (Option.bind_some _ _).symm.trans H; rw [hy654]; with_reducible exact H2_) | (have H2_ := (Option.bind_some _ _).symm.trans H; with_reducible exact H2_) | with_reducible exact H | (rw [hy654]; exact H) | exact H
   have Ny654 := Aside0.mk hy654
   clear hy654
   have H' := Aside0.mk H
   clear H
   go_enter Try.func43, Try.ntmps43
   go_wp2_with (first | ((with_reducible refine gate_callee (f := 63) rfl ?_); refine goesL_ (some 14) rfl rfl Try.func63 (by kernel_rfl) rfl #[.slice A0 l0.length c0, .slice A1 l1.length c1] rfl ln_ ?_; (with_reducible refine (spec_l21Checks.calls k _ _ l0 _ _ l1 true _ ?side1 ?side2 ?side3 ?side4 A4.out).mono ?_); (case side1 => exact kc_ HR0.out); (case side2 => exact HC0.out); (case side3 => exact kc_ HR1.out); (case side4 => exact HC1.out); rintro e w8 ⟨rfl, hb⟩; refine ⟨_, rfl, ?_⟩; have n0_ := Aside0.mk (below_step hb_ hb); clear HB; have HB := n0_; clear n0_; (try clear hb); (try clear hb2); (try clear hk); (try clear hi)) | ((with_reducible refine gate_callee (f := 65) rfl ?_); refine goesL_ (some 17) rfl rfl Try.func65 (by kernel_rfl) rfl #[.int .i64 a2] rfl ln_ ?_; (with_reducible refine (spec_l21Day.calls a2 true _ A6.out).mono ?_); rintro e w' ⟨rfl, ⟨nd, rfl⟩⟩; refine ⟨_, rfl, ?_⟩) | ((with_reducible refine gate_dst (N := 19) rfl ?_); refine Kd.R_lit Kd.string _ 9 ?hg (N := 19) ?hd (xs := ([] : List ByteArray)) (inner := []) (ok := fun _ => True) (okp := fun _ => True) ?hr ?hp (fun _ hk => hk) trivial (Below.refl _ _) (Nat.le_refl _) (by simp) ?_; (case hd => rfl); (case hg => rfl); (case hr => first | (go_simp; done) | (go_simp; rfl)); (case hp => exact (Reps.none _ _)); intro v655 w9 ho10 hb hg_ hnew_; clear hg_ hnew_; (first | rw [← Ny654.out] at ho10 | (simp only [Int.reduceToNat] at ho10; rw [← Ny654.out] at ho10)); have n0_ := Aside0.mk (Kd.R_lower ho10 (below_size hb_)); have n1_ := Aside0.mk (below_step hb_ hb); clear HB; have HO656 := n0_; have HB := n1_; clear n0_ n1_; clear hb ho10))
   go_loopg [8, 9] k (fun kq v8 v9 w' => ∃ (x8_1 : List ByteArray) (x9_1 : Int), v9 = .int .i64 x9_1 ∧ Aside0 (spec_NotChecked.l0 kq l0 l1 a2 x8_1 x9_1 = some (r1, r2)) ∧ Aside0 (kq ≤ k) ∧ Aside0 (Kd.R Kd.string 9 w' w.heap.size (fun _ => True) v8 x8_1) ∧ Aside0 (Below w.heap.size w w'))
   case atStart => exact ⟨(y654), (0), (by first | rfl | (simp; done) | (simp [*]; done)), H', ⟨Nat.le_refl _⟩, ⟨by (with_reducible repeat (first | apply Kd.R_alloc | apply Kd.R_drewN | apply Kd.R_drew)); exact HO656.out⟩, ⟨hb_⟩⟩
   case round =>
    clear H'
    try clear c1
    try clear p2
    try clear c4
    try clear c5
    try clear c6
    try clear c7
    obtain ⟨x8_1, x9_1, rfl, HA, HK1, HO_8, HB⟩ := hrel
    cases gk with
    | zero => exact absurd HA.out (by simp [spec_NotChecked.l0])
    | succ k1 =>
     have H := HA.out
     clear HA
     simp only [spec_NotChecked.l0] at H
     by_cases c11 : x9_1 < (l0.length : Int)
     ·rw [if_pos c11] at H
      have c11b0 : decide (x9_1 < (l0.length : Int)) = true := decide_eq_true c11
      clear c11
      by_cases c12 : 0 ≤ x9_1
      ·rw [if_pos c12] at H
       have c12b0 : decide (0 ≤ x9_1) = true := decide_eq_true c12
       clear c12
       replace H := Option.bind_eq_some_iff.mp H
       obtain ⟨⟨t658, t659, t660, t661⟩, A130, H⟩ := H
       replace H : (if t661 = true then (if t659 < a2 then (if x8_1.length < 8796093022208 then (spec_NotChecked.l0 k1 l0 l1 a2 (x8_1 ++ [(rd_T73 l0 x9_1).f0]) (wrap64 (x9_1 + 1))) else (none)) else (spec_NotChecked.l0 k1 l0 l1 a2 x8_1 (wrap64 (x9_1 + 1)))) else (if x8_1.length < 8796093022208 then (spec_NotChecked.l0 k1 l0 l1 a2 (x8_1 ++ [(rd_T73 l0 x9_1).f0]) (wrap64 (x9_1 + 1))) else (none))) = some (r1, r2) := H
       have A13 := Aside0.mk A130
       clear A130
       by_cases c14 : t661 = true
       ·subst c14
        have H1 : (if t659 < a2 then (if x8_1.length < 8796093022208 then (spec_NotChecked.l0 k1 l0 l1 a2 (x8_1 ++ [(rd_T73 l0 x9_1).f0]) (wrap64 (x9_1 + 1))) else (none)) else (spec_NotChecked.l0 k1 l0 l1 a2 x8_1 (wrap64 (x9_1 + 1)))) = some (r1, r2) := by rw [if_pos rfl] at H; exact H
        clear H
        have H := H1
        clear H1
        by_cases c15 : t659 < a2
        ·rw [if_pos c15] at H
         have c15b0 : decide (t659 < a2) = true := decide_eq_true c15
         clear c15
         by_cases c16 : x8_1.length < 8796093022208
         ·rw [if_pos c16] at H
          have LMc16 := Aside0.mk c16
          clear c16
          obtain ⟨y664, hy664⟩ : ∃ y_ : List ByteArray, y_ = (x8_1 ++ [(rd_T73 l0 x9_1).f0]) := ⟨_, rfl⟩
          replace H : (spec_NotChecked.l0 k1 l0 l1 a2 y664 (wrap64 (x9_1 + 1))) = some (r1, r2) := by first | (rw [hy664]; with_reducible exact H) | (have H2_ := (Option.bind_some _ _).symm.trans H; rw [hy664]; with_reducible exact H2_) | (have H2_ := (Option.bind_some _ _).symm.trans H; with_reducible exact H2_) | with_reducible exact H | (rw [hy664]; exact H) | exact H
          have Ny664 := Aside0.mk hy664
          clear hy664
          have H' := Aside0.mk H
          clear H
          have p657 : 0 ≤ (x9_1 : Int) := od_
          have q657 : x9_1 < (l0.length : Int) := od_
          obtain ⟨ad657, e657, hx657_0, hx657_1, hx657_2, hx657_3⟩ := at_T73 HR0.out x9_1 p657 q657
          cases e657
          replace hx657_0 := cq_ HB hx657_0
          replace hx657_1 := cq_ HB hx657_1
          replace hx657_2 := cq_ HB hx657_2
          replace hx657_3 := cq_ HB hx657_3
          replace p657 := eq_true p657
          replace q657 := eq_true q657
          go_wp2_with (first | ((with_reducible refine gate_callee (f := 77) rfl ?_); refine goesL_ (some 33) rfl rfl Try.func77 (by kernel_rfl) rfl #[.slice A1 l1.length c1, .string ((rd_T73 l0 x9_1).f0), .int .i64 20000] rfl ln_ ?_; (with_reducible refine (spec_l21Last.calls k1 _ _ l1 ((rd_T73 l0 x9_1).f0) 20000 t658 t659 t660 true _ ?side1 ?side2 A13.out).mono ?_); (case side1 => exact kc_ (Kd.C_below HR1.out HB.out)); (case side2 => exact HC1.out); rintro e w17 ⟨rfl, hb⟩; refine ⟨_, rfl, ?_⟩; have n0_ := Aside0.mk (Kd.R_below (kr_ HO_8) hb); have n1_ := Aside0.mk (below_step hb_ hb); clear HO_8; clear HB; have HO_8 := n0_; have HB := n1_; clear n0_ n1_; (try clear hb); (try clear hb2); (try clear hk); (try clear hi)) | ((with_reducible refine gate_dst (N := 10) rfl ?_); refine box_event ?hg (N := 10) ?hd (cs := #[.string (⟨#[]⟩ : ByteArray), .int .i64 0, .int .i64 0]) (t := 53) ?hr ?_; (case hd => rfl); (case hg => rfl); (case hr => first | (go_simp; done) | (go_simp; rfl)); intro gb662 hg w18 hbox hb; have n0_ := Aside0.mk (Kd.R_below (kr_ HO_8) hb); have n1_ := Aside0.mk (below_step hb_ hb); have n2_ := Aside0.mk (hbox); have n3_ := Aside0.mk ((by rw [hg]; exact (below_size hb_) : w.heap.size ≤ gb662)); have n4_ := Aside0.mk ((by rw [hg]; exact (below_size hb_) : w.heap.size ≤ gb662)); clear HO_8; clear HB; have HO_8 := n0_; have HB := n1_; have BK662 := n2_; have GW662 := n3_; have GE662 := n4_; clear n0_ n1_ n2_ n3_ n4_; clear hb hbox hg; have hcz19_0 : w18.cell? ⟨gb662, 0, none⟩ = some (.string (⟨#[]⟩ : ByteArray)) := (blk_cell BK662.out 0).trans rfl; have hcz19_1 : w18.cell? ⟨gb662, 1, none⟩ = some (.int .i64 0) := (blk_cell BK662.out 1).trans rfl; have hcz19_2 : w18.cell? ⟨gb662, 2, none⟩ = some (.int .i64 0) := (blk_cell BK662.out 2).trans rfl; have hfz19_0 := blk_frozen BK662.out 0; have hfz19_1 := blk_frozen BK662.out 1; have hfz19_2 := blk_frozen BK662.out 2; have p663 : 0 ≤ (x9_1 : Int) := od_; have q663 : x9_1 < (l0.length : Int) := od_; obtain ⟨ad663, e663, hx663_0, hx663_1, hx663_2, hx663_3⟩ := at_T73 HR0.out x9_1 p663 q663; obtain rfl : ad657 = ad663 := (by injection e663); have hn663_0 : ad657.block ≠ gb662 := Nat.ne_of_lt (Nat.lt_of_lt_of_le (by have := World.block_lt_of_cell? _ _ hx663_0; first | rwa [add_block] at this | exact this) GW662.out); have hn663_1 : ad657.block ≠ gb662 := Nat.ne_of_lt (Nat.lt_of_lt_of_le (by have := World.block_lt_of_cell? _ _ hx663_0; first | rwa [add_block] at this | exact this) GW662.out); have hn663_2 : ad657.block ≠ gb662 := Nat.ne_of_lt (Nat.lt_of_lt_of_le (by have := World.block_lt_of_cell? _ _ hx663_0; first | rwa [add_block] at this | exact this) GW662.out); replace hx663_0 := cq_ HB hx663_0; replace hx663_1 := cq_ HB hx663_1; replace hx663_2 := cq_ HB hx663_2; replace hx663_3 := cq_ HB hx663_3; replace hx663_0 := (cell_far (p := ⟨gb662, 0, none⟩) (by first | (rw [add_block]; exact hn663_0) | (show (Addr.add _ _).block ≠ _; rw [add_block]; exact hn663_0) | exact hn663_0) (.string t658)).trans hx663_0; replace hx663_1 := (cell_far (p := ⟨gb662, 0, none⟩) (by first | (rw [add_block]; exact hn663_0) | (show (Addr.add _ _).block ≠ _; rw [add_block]; exact hn663_0) | exact hn663_0) (.string t658)).trans hx663_1; replace hx663_2 := (cell_far (p := ⟨gb662, 0, none⟩) (by first | (rw [add_block]; exact hn663_0) | (show (Addr.add _ _).block ≠ _; rw [add_block]; exact hn663_0) | exact hn663_0) (.string t658)).trans hx663_2; replace hx663_3 := (cell_far (p := ⟨gb662, 0, none⟩) (by first | (rw [add_block]; exact hn663_0) | (show (Addr.add _ _).block ≠ _; rw [add_block]; exact hn663_0) | exact hn663_0) (.string t658)).trans hx663_3; replace hx663_0 := (cell_far (p := ⟨gb662, 1, none⟩) (by first | (rw [add_block]; exact hn663_1) | (show (Addr.add _ _).block ≠ _; rw [add_block]; exact hn663_1) | exact hn663_1) (.int .i64 t659)).trans hx663_0; replace hx663_1 := (cell_far (p := ⟨gb662, 1, none⟩) (by first | (rw [add_block]; exact hn663_1) | (show (Addr.add _ _).block ≠ _; rw [add_block]; exact hn663_1) | exact hn663_1) (.int .i64 t659)).trans hx663_1; replace hx663_2 := (cell_far (p := ⟨gb662, 1, none⟩) (by first | (rw [add_block]; exact hn663_1) | (show (Addr.add _ _).block ≠ _; rw [add_block]; exact hn663_1) | exact hn663_1) (.int .i64 t659)).trans hx663_2; replace hx663_3 := (cell_far (p := ⟨gb662, 1, none⟩) (by first | (rw [add_block]; exact hn663_1) | (show (Addr.add _ _).block ≠ _; rw [add_block]; exact hn663_1) | exact hn663_1) (.int .i64 t659)).trans hx663_3; replace hx663_0 := (cell_far (p := ⟨gb662, 2, none⟩) (by first | (rw [add_block]; exact hn663_2) | (show (Addr.add _ _).block ≠ _; rw [add_block]; exact hn663_2) | exact hn663_2) (.int .i64 t660)).trans hx663_0; replace hx663_1 := (cell_far (p := ⟨gb662, 2, none⟩) (by first | (rw [add_block]; exact hn663_2) | (show (Addr.add _ _).block ≠ _; rw [add_block]; exact hn663_2) | exact hn663_2) (.int .i64 t660)).trans hx663_1; replace hx663_2 := (cell_far (p := ⟨gb662, 2, none⟩) (by first | (rw [add_block]; exact hn663_2) | (show (Addr.add _ _).block ≠ _; rw [add_block]; exact hn663_2) | exact hn663_2) (.int .i64 t660)).trans hx663_2; replace hx663_3 := (cell_far (p := ⟨gb662, 2, none⟩) (by first | (rw [add_block]; exact hn663_2) | (show (Addr.add _ _).block ≠ _; rw [add_block]; exact hn663_2) | exact hn663_2) (.int .i64 t660)).trans hx663_3; clear hn663_0; clear hn663_1; clear hn663_2; replace p663 := eq_true p663; replace q663 := eq_true q663) | ((with_reducible refine gate_builtin (b := .append) (xs := #[.tmp 44, .tmp 50]) rfl ?_); at_builtin; refine Kd.R_append Kd.string (w0 := w) w.heap.size rfl (.tmp 44) (.tmp 50) 57 9 (.string ⟨#[]⟩) 16 rfl Try.underlying57 info9 rfl (by decide) (by omega) u8 x8_1 ((rd_T73 l0 x9_1).f0) [.string ((rd_T73 l0 x9_1).f0)] (fun _ => True) (fun _ => False) rfl (by first | (go_simp; done) | (go_simp; rfl)) ?aP (fun _ hk => hk.elim) ?aF ?aO ?aB ?aS ?aL ?_; (case aP => exact rfl); (case aB => exact (hg_ GE662)); (case aF => exact (fun _ _ => trivial)); (case aO => exact (by (with_reducible repeat (first | apply Kd.R_alloc | apply Kd.R_drewN | apply Kd.R_drew)); exact Kd.R_mono (Kd.R_far (p := ⟨gb662, 2, none⟩) (Kd.R_far (p := ⟨gb662, 1, none⟩) (Kd.R_far (p := ⟨gb662, 0, none⟩) (Kd.R_types HO_8.out BK662.out (by decide)) (fun _ hk => hk.2) (.string t658)) (fun _ hk => hk.2) (.int .i64 t659)) (fun _ hk => hk.2) (.int .i64 t660)) (fun _ hk => trivial))); (case aS => exact (below_size (hg_ GE662))); (case aL => have := LMc16.out; omega); intro v665 w20 ho hb hg hat; rw [← Ny664.out] at ho; have n0_ := Aside0.mk (blk_grown (g := gb662) (o := .cells #[.string t658, .int .i64 t659, .int .i64 t660] 53 (0, 0)) (by (with_reducible repeat (first | refine blk_drewN ?_ _ | refine blk_drew ?_ | refine blk_alloc ?_ _)); refine blk_put (cs := #[.string t658, .int .i64 t659, .int .i64 0]) ?_ 2 _ rfl; (with_reducible repeat (first | refine blk_drewN ?_ _ | refine blk_drew ?_ | refine blk_alloc ?_ _)); refine blk_put (cs := #[.string t658, .int .i64 0, .int .i64 0]) ?_ 1 _ rfl; (with_reducible repeat (first | refine blk_drewN ?_ _ | refine blk_drew ?_ | refine blk_alloc ?_ _)); refine blk_put (cs := #[.string (⟨#[]⟩ : ByteArray), .int .i64 0, .int .i64 0]) ?_ 0 _ rfl; (with_reducible repeat (first | refine blk_drewN ?_ _ | refine blk_drew ?_ | refine blk_alloc ?_ _)); exact BK662.out) hg (Kd.R_ne HO_8.out BK662.out (by decide))); have n1_ := Aside0.mk (hb); have n2_ := Aside0.mk (ho); clear BK662; clear HB; clear HO_8; have BK662 := n0_; have HB := n1_; have HO666 := n2_; clear n0_ n1_ n2_; clear ho hb hg hat))
          go_roundg k1
          case measure => have := HK1.out; omega
          case rel => exact ⟨(y664), (wrap64 (x9_1 + 1)), (by first | rfl | (simp; done) | (simp [*]; done)), H', ⟨by have := HK1.out; omega⟩, ⟨by (with_reducible repeat (first | apply Kd.R_alloc | apply Kd.R_drewN | apply Kd.R_drew)); exact HO666.out⟩, ⟨(hg_ GE662)⟩⟩
         ·rw [if_neg c16] at H
          exact absurd H (by simp)
        ·rw [if_neg c15] at H
         have c15b0 : decide (t659 < a2) = false := decide_eq_false c15
         clear c15
         have H' := Aside0.mk H
         clear H
         have p657 : 0 ≤ (x9_1 : Int) := od_
         have q657 : x9_1 < (l0.length : Int) := od_
         obtain ⟨ad657, e657, hx657_0, hx657_1, hx657_2, hx657_3⟩ := at_T73 HR0.out x9_1 p657 q657
         cases e657
         replace hx657_0 := cq_ HB hx657_0
         replace hx657_1 := cq_ HB hx657_1
         replace hx657_2 := cq_ HB hx657_2
         replace hx657_3 := cq_ HB hx657_3
         replace p657 := eq_true p657
         replace q657 := eq_true q657
         go_wp2_with (first | ((with_reducible refine gate_callee (f := 77) rfl ?_); refine goesL_ (some 33) rfl rfl Try.func77 (by kernel_rfl) rfl #[.slice A1 l1.length c1, .string ((rd_T73 l0 x9_1).f0), .int .i64 20000] rfl ln_ ?_; (with_reducible refine (spec_l21Last.calls k1 _ _ l1 ((rd_T73 l0 x9_1).f0) 20000 t658 t659 t660 true _ ?side1 ?side2 A13.out).mono ?_); (case side1 => exact kc_ (Kd.C_below HR1.out HB.out)); (case side2 => exact HC1.out); rintro e w21 ⟨rfl, hb⟩; refine ⟨_, rfl, ?_⟩; have n0_ := Aside0.mk (Kd.R_below (kr_ HO_8) hb); have n1_ := Aside0.mk (below_step hb_ hb); clear HO_8; clear HB; have HO_8 := n0_; have HB := n1_; clear n0_ n1_; (try clear hb); (try clear hb2); (try clear hk); (try clear hi)) | ((with_reducible refine gate_dst (N := 10) rfl ?_); refine box_event ?hg (N := 10) ?hd (cs := #[.string (⟨#[]⟩ : ByteArray), .int .i64 0, .int .i64 0]) (t := 53) ?hr ?_; (case hd => rfl); (case hg => rfl); (case hr => first | (go_simp; done) | (go_simp; rfl)); intro gb662 hg w22 hbox hb; have n0_ := Aside0.mk (Kd.R_below (kr_ HO_8) hb); have n1_ := Aside0.mk (below_step hb_ hb); have n2_ := Aside0.mk (hbox); have n3_ := Aside0.mk ((by rw [hg]; exact (below_size hb_) : w.heap.size ≤ gb662)); have n4_ := Aside0.mk ((by rw [hg]; exact (below_size hb_) : w.heap.size ≤ gb662)); clear HO_8; clear HB; have HO_8 := n0_; have HB := n1_; have BK662 := n2_; have GW662 := n3_; have GE662 := n4_; clear n0_ n1_ n2_ n3_ n4_; clear hb hbox hg; have hcz23_0 : w22.cell? ⟨gb662, 0, none⟩ = some (.string (⟨#[]⟩ : ByteArray)) := (blk_cell BK662.out 0).trans rfl; have hcz23_1 : w22.cell? ⟨gb662, 1, none⟩ = some (.int .i64 0) := (blk_cell BK662.out 1).trans rfl; have hcz23_2 : w22.cell? ⟨gb662, 2, none⟩ = some (.int .i64 0) := (blk_cell BK662.out 2).trans rfl; have hfz23_0 := blk_frozen BK662.out 0; have hfz23_1 := blk_frozen BK662.out 1; have hfz23_2 := blk_frozen BK662.out 2))
         go_roundg k1
         case measure => have := HK1.out; omega
         case rel => exact ⟨(x8_1), (wrap64 (x9_1 + 1)), (by first | rfl | (simp; done) | (simp [*]; done)), H', ⟨by have := HK1.out; omega⟩, ⟨by (with_reducible repeat (first | apply Kd.R_alloc | apply Kd.R_drewN | apply Kd.R_drew)); exact Kd.R_mono (Kd.R_far (p := ⟨gb662, 2, none⟩) (Kd.R_far (p := ⟨gb662, 1, none⟩) (Kd.R_far (p := ⟨gb662, 0, none⟩) (Kd.R_types HO_8.out BK662.out (by decide)) (fun _ hk => hk.2) (.string t658)) (fun _ hk => hk.2) (.int .i64 t659)) (fun _ hk => hk.2) (.int .i64 t660)) (fun _ hk => trivial)⟩, ⟨(hg_ GE662)⟩⟩
       ·replace c14 := Bool.eq_false_iff.mpr c14
        subst c14
        have H1 : (if x8_1.length < 8796093022208 then (spec_NotChecked.l0 k1 l0 l1 a2 (x8_1 ++ [(rd_T73 l0 x9_1).f0]) (wrap64 (x9_1 + 1))) else (none)) = some (r1, r2) := by rw [if_neg (show ¬ (false = true) by decide)] at H; exact H
        clear H
        have H := H1
        clear H1
        by_cases c24 : x8_1.length < 8796093022208
        ·rw [if_pos c24] at H
         have LMc24 := Aside0.mk c24
         clear c24
         obtain ⟨y668, hy668⟩ : ∃ y_ : List ByteArray, y_ = (x8_1 ++ [(rd_T73 l0 x9_1).f0]) := ⟨_, rfl⟩
         replace H : (spec_NotChecked.l0 k1 l0 l1 a2 y668 (wrap64 (x9_1 + 1))) = some (r1, r2) := by first | (rw [hy668]; with_reducible exact H) | (have H2_ := (Option.bind_some _ _).symm.trans H; rw [hy668]; with_reducible exact H2_) | (have H2_ := (Option.bind_some _ _).symm.trans H; with_reducible exact H2_) | with_reducible exact H | (rw [hy668]; exact H) | exact H
         have Ny668 := Aside0.mk hy668
         clear hy668
         have H' := Aside0.mk H
         clear H
         have p657 : 0 ≤ (x9_1 : Int) := od_
         have q657 : x9_1 < (l0.length : Int) := od_
         obtain ⟨ad657, e657, hx657_0, hx657_1, hx657_2, hx657_3⟩ := at_T73 HR0.out x9_1 p657 q657
         cases e657
         replace hx657_0 := cq_ HB hx657_0
         replace hx657_1 := cq_ HB hx657_1
         replace hx657_2 := cq_ HB hx657_2
         replace hx657_3 := cq_ HB hx657_3
         replace p657 := eq_true p657
         replace q657 := eq_true q657
         go_wp2_with (first | ((with_reducible refine gate_callee (f := 77) rfl ?_); refine goesL_ (some 33) rfl rfl Try.func77 (by kernel_rfl) rfl #[.slice A1 l1.length c1, .string ((rd_T73 l0 x9_1).f0), .int .i64 20000] rfl ln_ ?_; (with_reducible refine (spec_l21Last.calls k1 _ _ l1 ((rd_T73 l0 x9_1).f0) 20000 t658 t659 t660 false _ ?side1 ?side2 A13.out).mono ?_); (case side1 => exact kc_ (Kd.C_below HR1.out HB.out)); (case side2 => exact HC1.out); rintro e w25 ⟨rfl, hb⟩; refine ⟨_, rfl, ?_⟩; have n0_ := Aside0.mk (Kd.R_below (kr_ HO_8) hb); have n1_ := Aside0.mk (below_step hb_ hb); clear HO_8; clear HB; have HO_8 := n0_; have HB := n1_; clear n0_ n1_; (try clear hb); (try clear hb2); (try clear hk); (try clear hi)) | ((with_reducible refine gate_dst (N := 10) rfl ?_); refine box_event ?hg (N := 10) ?hd (cs := #[.string (⟨#[]⟩ : ByteArray), .int .i64 0, .int .i64 0]) (t := 53) ?hr ?_; (case hd => rfl); (case hg => rfl); (case hr => first | (go_simp; done) | (go_simp; rfl)); intro gb662 hg w26 hbox hb; have n0_ := Aside0.mk (Kd.R_below (kr_ HO_8) hb); have n1_ := Aside0.mk (below_step hb_ hb); have n2_ := Aside0.mk (hbox); have n3_ := Aside0.mk ((by rw [hg]; exact (below_size hb_) : w.heap.size ≤ gb662)); have n4_ := Aside0.mk ((by rw [hg]; exact (below_size hb_) : w.heap.size ≤ gb662)); clear HO_8; clear HB; have HO_8 := n0_; have HB := n1_; have BK662 := n2_; have GW662 := n3_; have GE662 := n4_; clear n0_ n1_ n2_ n3_ n4_; clear hb hbox hg; have hcz27_0 : w26.cell? ⟨gb662, 0, none⟩ = some (.string (⟨#[]⟩ : ByteArray)) := (blk_cell BK662.out 0).trans rfl; have hcz27_1 : w26.cell? ⟨gb662, 1, none⟩ = some (.int .i64 0) := (blk_cell BK662.out 1).trans rfl; have hcz27_2 : w26.cell? ⟨gb662, 2, none⟩ = some (.int .i64 0) := (blk_cell BK662.out 2).trans rfl; have hfz27_0 := blk_frozen BK662.out 0; have hfz27_1 := blk_frozen BK662.out 1; have hfz27_2 := blk_frozen BK662.out 2; have p667 : 0 ≤ (x9_1 : Int) := od_; have q667 : x9_1 < (l0.length : Int) := od_; obtain ⟨ad667, e667, hx667_0, hx667_1, hx667_2, hx667_3⟩ := at_T73 HR0.out x9_1 p667 q667; obtain rfl : ad657 = ad667 := (by injection e667); have hn667_0 : ad657.block ≠ gb662 := Nat.ne_of_lt (Nat.lt_of_lt_of_le (by have := World.block_lt_of_cell? _ _ hx667_0; first | rwa [add_block] at this | exact this) GW662.out); have hn667_1 : ad657.block ≠ gb662 := Nat.ne_of_lt (Nat.lt_of_lt_of_le (by have := World.block_lt_of_cell? _ _ hx667_0; first | rwa [add_block] at this | exact this) GW662.out); have hn667_2 : ad657.block ≠ gb662 := Nat.ne_of_lt (Nat.lt_of_lt_of_le (by have := World.block_lt_of_cell? _ _ hx667_0; first | rwa [add_block] at this | exact this) GW662.out); replace hx667_0 := cq_ HB hx667_0; replace hx667_1 := cq_ HB hx667_1; replace hx667_2 := cq_ HB hx667_2; replace hx667_3 := cq_ HB hx667_3; replace hx667_0 := (cell_far (p := ⟨gb662, 0, none⟩) (by first | (rw [add_block]; exact hn667_0) | (show (Addr.add _ _).block ≠ _; rw [add_block]; exact hn667_0) | exact hn667_0) (.string t658)).trans hx667_0; replace hx667_1 := (cell_far (p := ⟨gb662, 0, none⟩) (by first | (rw [add_block]; exact hn667_0) | (show (Addr.add _ _).block ≠ _; rw [add_block]; exact hn667_0) | exact hn667_0) (.string t658)).trans hx667_1; replace hx667_2 := (cell_far (p := ⟨gb662, 0, none⟩) (by first | (rw [add_block]; exact hn667_0) | (show (Addr.add _ _).block ≠ _; rw [add_block]; exact hn667_0) | exact hn667_0) (.string t658)).trans hx667_2; replace hx667_3 := (cell_far (p := ⟨gb662, 0, none⟩) (by first | (rw [add_block]; exact hn667_0) | (show (Addr.add _ _).block ≠ _; rw [add_block]; exact hn667_0) | exact hn667_0) (.string t658)).trans hx667_3; replace hx667_0 := (cell_far (p := ⟨gb662, 1, none⟩) (by first | (rw [add_block]; exact hn667_1) | (show (Addr.add _ _).block ≠ _; rw [add_block]; exact hn667_1) | exact hn667_1) (.int .i64 t659)).trans hx667_0; replace hx667_1 := (cell_far (p := ⟨gb662, 1, none⟩) (by first | (rw [add_block]; exact hn667_1) | (show (Addr.add _ _).block ≠ _; rw [add_block]; exact hn667_1) | exact hn667_1) (.int .i64 t659)).trans hx667_1; replace hx667_2 := (cell_far (p := ⟨gb662, 1, none⟩) (by first | (rw [add_block]; exact hn667_1) | (show (Addr.add _ _).block ≠ _; rw [add_block]; exact hn667_1) | exact hn667_1) (.int .i64 t659)).trans hx667_2; replace hx667_3 := (cell_far (p := ⟨gb662, 1, none⟩) (by first | (rw [add_block]; exact hn667_1) | (show (Addr.add _ _).block ≠ _; rw [add_block]; exact hn667_1) | exact hn667_1) (.int .i64 t659)).trans hx667_3; replace hx667_0 := (cell_far (p := ⟨gb662, 2, none⟩) (by first | (rw [add_block]; exact hn667_2) | (show (Addr.add _ _).block ≠ _; rw [add_block]; exact hn667_2) | exact hn667_2) (.int .i64 t660)).trans hx667_0; replace hx667_1 := (cell_far (p := ⟨gb662, 2, none⟩) (by first | (rw [add_block]; exact hn667_2) | (show (Addr.add _ _).block ≠ _; rw [add_block]; exact hn667_2) | exact hn667_2) (.int .i64 t660)).trans hx667_1; replace hx667_2 := (cell_far (p := ⟨gb662, 2, none⟩) (by first | (rw [add_block]; exact hn667_2) | (show (Addr.add _ _).block ≠ _; rw [add_block]; exact hn667_2) | exact hn667_2) (.int .i64 t660)).trans hx667_2; replace hx667_3 := (cell_far (p := ⟨gb662, 2, none⟩) (by first | (rw [add_block]; exact hn667_2) | (show (Addr.add _ _).block ≠ _; rw [add_block]; exact hn667_2) | exact hn667_2) (.int .i64 t660)).trans hx667_3; clear hn667_0; clear hn667_1; clear hn667_2; replace p667 := eq_true p667; replace q667 := eq_true q667) | ((with_reducible refine gate_builtin (b := .append) (xs := #[.tmp 44, .tmp 50]) rfl ?_); at_builtin; refine Kd.R_append Kd.string (w0 := w) w.heap.size rfl (.tmp 44) (.tmp 50) 57 9 (.string ⟨#[]⟩) 16 rfl Try.underlying57 info9 rfl (by decide) (by omega) u8 x8_1 ((rd_T73 l0 x9_1).f0) [.string ((rd_T73 l0 x9_1).f0)] (fun _ => True) (fun _ => False) rfl (by first | (go_simp; done) | (go_simp; rfl)) ?aP (fun _ hk => hk.elim) ?aF ?aO ?aB ?aS ?aL ?_; (case aP => exact rfl); (case aB => exact (hg_ GE662)); (case aF => exact (fun _ _ => trivial)); (case aO => exact (by (with_reducible repeat (first | apply Kd.R_alloc | apply Kd.R_drewN | apply Kd.R_drew)); exact Kd.R_mono (Kd.R_far (p := ⟨gb662, 2, none⟩) (Kd.R_far (p := ⟨gb662, 1, none⟩) (Kd.R_far (p := ⟨gb662, 0, none⟩) (Kd.R_types HO_8.out BK662.out (by decide)) (fun _ hk => hk.2) (.string t658)) (fun _ hk => hk.2) (.int .i64 t659)) (fun _ hk => hk.2) (.int .i64 t660)) (fun _ hk => trivial))); (case aS => exact (below_size (hg_ GE662))); (case aL => have := LMc24.out; omega); intro v669 w28 ho hb hg hat; rw [← Ny668.out] at ho; have n0_ := Aside0.mk (blk_grown (g := gb662) (o := .cells #[.string t658, .int .i64 t659, .int .i64 t660] 53 (0, 0)) (by (with_reducible repeat (first | refine blk_drewN ?_ _ | refine blk_drew ?_ | refine blk_alloc ?_ _)); refine blk_put (cs := #[.string t658, .int .i64 t659, .int .i64 0]) ?_ 2 _ rfl; (with_reducible repeat (first | refine blk_drewN ?_ _ | refine blk_drew ?_ | refine blk_alloc ?_ _)); refine blk_put (cs := #[.string t658, .int .i64 0, .int .i64 0]) ?_ 1 _ rfl; (with_reducible repeat (first | refine blk_drewN ?_ _ | refine blk_drew ?_ | refine blk_alloc ?_ _)); refine blk_put (cs := #[.string (⟨#[]⟩ : ByteArray), .int .i64 0, .int .i64 0]) ?_ 0 _ rfl; (with_reducible repeat (first | refine blk_drewN ?_ _ | refine blk_drew ?_ | refine blk_alloc ?_ _)); exact BK662.out) hg (Kd.R_ne HO_8.out BK662.out (by decide))); have n1_ := Aside0.mk (hb); have n2_ := Aside0.mk (ho); clear BK662; clear HB; clear HO_8; have BK662 := n0_; have HB := n1_; have HO670 := n2_; clear n0_ n1_ n2_; clear ho hb hg hat))
         go_roundg k1
         case measure => have := HK1.out; omega
         case rel => exact ⟨(y668), (wrap64 (x9_1 + 1)), (by first | rfl | (simp; done) | (simp [*]; done)), H', ⟨by have := HK1.out; omega⟩, ⟨by (with_reducible repeat (first | apply Kd.R_alloc | apply Kd.R_drewN | apply Kd.R_drew)); exact HO670.out⟩, ⟨(hg_ GE662)⟩⟩
        ·rw [if_neg c24] at H
         exact absurd H (by simp)
      ·rw [if_neg c12] at H
       exact absurd H (by simp)
     ·rw [if_neg c11] at H
      have c11b0 : decide (x9_1 < (l0.length : Int)) = false := decide_eq_false c11
      clear c11
      simp only [Option.some.injEq, Prod.mk.injEq] at H
      obtain ⟨rfl, rfl⟩ := H
      go_wp2
      go_ret2
      exact ⟨_, ew_, by (with_reducible repeat (first | apply Kd.R_alloc | apply Kd.R_drewN | apply Kd.R_drew)); exact HO_8.out, hb_⟩
  ·replace c7 := Bool.eq_false_iff.mpr c7
   subst c7
   have H1 : (some (([] : List ByteArray), 2)) = some (r1, r2) := by rw [if_neg (show ¬ (false = true) by decide)] at H; exact H
   clear H
   have H := H1
   clear H1
   simp only [Option.some.injEq, Prod.mk.injEq] at H
   obtain ⟨rfl, rfl⟩ := H
   go_enter Try.func43, Try.ntmps43
   go_wp2_with (first | ((with_reducible refine gate_callee (f := 63) rfl ?_); refine goesL_ (some 14) rfl rfl Try.func63 (by kernel_rfl) rfl #[.slice A0 l0.length c0, .slice A1 l1.length c1] rfl ln_ ?_; (with_reducible refine (spec_l21Checks.calls k _ _ l0 _ _ l1 true _ ?side1 ?side2 ?side3 ?side4 A4.out).mono ?_); (case side1 => exact kc_ HR0.out); (case side2 => exact HC0.out); (case side3 => exact kc_ HR1.out); (case side4 => exact HC1.out); rintro e w29 ⟨rfl, hb⟩; refine ⟨_, rfl, ?_⟩; have n0_ := Aside0.mk (below_step hb_ hb); clear HB; have HB := n0_; clear n0_; (try clear hb); (try clear hb2); (try clear hk); (try clear hi)) | ((with_reducible refine gate_callee (f := 65) rfl ?_); refine goesL_ (some 17) rfl rfl Try.func65 (by kernel_rfl) rfl #[.int .i64 a2] rfl ln_ ?_; (with_reducible refine (spec_l21Day.calls a2 false _ A6.out).mono ?_); rintro e w' ⟨rfl, ⟨nd, rfl⟩⟩; refine ⟨_, rfl, ?_⟩))
   go_ret2
   exact ⟨_, ew_, by first | exact Kd.R_nil _ _ _ _ _ | exact Kd.N_nil _ _ _ _ _ | exact Kd.V_nil _ _ _ _ _ | exact Kd.Q_nil _ _ _ _ _ | exact Kd.S_nil _ _ _ _ _, hb_⟩
 ·replace c5 := Bool.eq_false_iff.mpr c5
  subst c5
  have H1 : (some (([] : List ByteArray), 1)) = some (r1, r2) := by rw [if_neg (show ¬ (false = true) by decide)] at H; exact H
  clear H
  have H := H1
  clear H1
  simp only [Option.some.injEq, Prod.mk.injEq] at H
  obtain ⟨rfl, rfl⟩ := H
  go_enter Try.func43, Try.ntmps43
  go_wp2_with (first | ((with_reducible refine gate_callee (f := 63) rfl ?_); refine goesL_ (some 14) rfl rfl Try.func63 (by kernel_rfl) rfl #[.slice A0 l0.length c0, .slice A1 l1.length c1] rfl ln_ ?_; (with_reducible refine (spec_l21Checks.calls k _ _ l0 _ _ l1 false _ ?side1 ?side2 ?side3 ?side4 A4.out).mono ?_); (case side1 => exact kc_ HR0.out); (case side2 => exact HC0.out); (case side3 => exact kc_ HR1.out); (case side4 => exact HC1.out); rintro e w30 ⟨rfl, hb⟩; refine ⟨_, rfl, ?_⟩; have n0_ := Aside0.mk (below_step hb_ hb); clear HB; have HB := n0_; clear n0_; (try clear hb); (try clear hb2); (try clear hk); (try clear hi)))
  go_ret2
  exact ⟨_, ew_, by first | exact Kd.R_nil _ _ _ _ _ | exact Kd.N_nil _ _ _ _ _ | exact Kd.V_nil _ _ _ _ _ | exact Kd.Q_nil _ _ _ _ _ | exact Kd.S_nil _ _ _ _ _, hb_⟩

/-! ### impl_NotChecked: function 44 -/
def impl_NotChecked.l0 : Nat → List (S53) → Int → List ByteArray → List (S73) → Int → Int → Option (List ByteArray × Int)
 | 0, _, _, _, _, _, _ => none
 | k + 1, x1, x2, x9, x21, x22, x23 => if x23 < x22 then (if 0 ≤ x23 then (if x23 < (x21.length : Int) then ((impl_checksOf.f k x1 ((rd_T73 x21 x23).f0)).bind fun t677 => (if (t677.length : Int) = 0 then (if x9.length < 8796093022208 then (impl_NotChecked.l0 k x1 x2 (x9 ++ [(rd_T73 x21 x23).f0]) x21 x22 (wrap64 (x23 + 1))) else (none)) else (if 0 ≤ (wrap64 ((t677.length : Int) - 1)) then (if (wrap64 ((t677.length : Int) - 1)) < (t677.length : Int) then (if ((rd_T53 t677 (wrap64 ((t677.length : Int) - 1))).f1) < x2 then (if x9.length < 8796093022208 then (impl_NotChecked.l0 k x1 x2 (x9 ++ [(rd_T73 x21 x23).f0]) x21 x22 (wrap64 (x23 + 1))) else (none)) else (impl_NotChecked.l0 k x1 x2 x9 x21 x22 (wrap64 (x23 + 1)))) else (none)) else (none)))) else (none)) else (none)) else (some (x9, 0))
def impl_NotChecked.f (k : Nat) (l0 : List (S73)) (l1 : List (S53)) (a2 : Int) : Option (List ByteArray × Int) := (impl_gearCode.f k l0 l1 a2).bind fun t671 => (if t671 = 0 then (impl_NotChecked.l0 k l1 a2 (([] : List ByteArray)) l0 (l0.length : Int) 0) else (some (([] : List ByteArray), t671)))
theorem impl_NotChecked.mono_l : ∀ k, (∀ y0 y1 y2 y3 y4 y5, LeO (impl_NotChecked.l0 k y0 y1 y2 y3 y4 y5) (impl_NotChecked.l0 (k + 1) y0 y1 y2 y3 y4 y5))
 | 0 => fun _ _ _ _ _ _ r h => by simp [impl_NotChecked.l0] at h
 | k + 1 => by
  have ih0 := impl_NotChecked.mono_l k
  ·intro y0 y1 y2 y3 y4 y5
   unfold impl_NotChecked.l0
   repeat' first
   | (with_reducible exact ih0 _ _ _ _ _ _)
   | (with_reducible exact impl_checksOf.mono _ _ _)
   | (with_reducible exact impl_gearCode.mono _ _ _ _)
   | (with_reducible exact LeO.refl _)
   | (with_reducible exact LeO.none _)
   | (with_reducible refine LeO.ite ?_ ?_)
   | (with_reducible refine LeO.bind ?_ (fun _ => ?_))
   | exact ih0 _ _ _ _ _ _
   | exact impl_checksOf.mono _ _ _
   | exact impl_gearCode.mono _ _ _ _
   | exact LeO.none _
   | refine LeO.ite ?_ ?_
   | refine LeO.bind ?_ (fun _ => ?_)
theorem impl_NotChecked.mono : ∀ a0 a1 a2 k, LeO (impl_NotChecked.f k a0 a1 a2) (impl_NotChecked.f (k + 1) a0 a1 a2) := by
 intro a0 a1 a2 k
 have ih0 := impl_NotChecked.mono_l k
 unfold impl_NotChecked.f
 repeat' first
   | (with_reducible exact ih0 _ _ _ _ _ _)
   | (with_reducible exact impl_checksOf.mono _ _ _)
   | (with_reducible exact impl_gearCode.mono _ _ _ _)
   | (with_reducible exact LeO.refl _)
   | (with_reducible exact LeO.none _)
   | (with_reducible refine LeO.ite ?_ ?_)
   | (with_reducible refine LeO.bind ?_ (fun _ => ?_))
   | exact ih0 _ _ _ _ _ _
   | exact impl_checksOf.mono _ _ _
   | exact impl_gearCode.mono _ _ _ _
   | exact LeO.none _
   | refine LeO.ite ?_ ?_
   | refine LeO.bind ?_ (fun _ => ?_)
set_option maxHeartbeats 8000000 in
set_option maxRecDepth 100000 in
theorem impl_NotChecked.calls (k : Nat) (A0 : Option Addr) (c0 : Nat) (l0 : List (S73)) (A1 : Option Addr) (c1 : Nat) (l1 : List (S53)) (a2 : Int) (r1 : List ByteArray) (r2 : Int) (w : World) (hr0 : Kd.C k73 w A0 l0.length l0) (hc0 : l0.length ≤ c0) (hr1 : Kd.C k53 w A1 l1.length l1) (hc1 : l1.length ≤ c1) (h : impl_NotChecked.f k l0 l1 a2 = some (r1, r2)) :
  Calls Try.prog 44 #[.slice A0 l0.length c0, .slice A1 l1.length c1, .int .i64 a2] w fun e w' => ∃ v0_ : Value, e = .returned (.tuple #[v0_, .int .i64 r2]) ∧ Kd.R Kd.string 9 w' w.heap.size (fun _ => True) v0_ r1 ∧ Below w.heap.size w w' := by
 have hu73 := Try.underlying73
 have HR0 := Aside0.mk hr0
 have HC0 := Aside0.mk hc0
 clear hr0 hc0
 have HR1 := Aside0.mk hr1
 have HC1 := Aside0.mk hc1
 clear hr1 hc1
 have HB := Aside0.mk (Below.refl w.heap.size w)
 have H : ((impl_gearCode.f k l0 l1 a2).bind fun t671 => (if t671 = 0 then (impl_NotChecked.l0 k l1 a2 (([] : List ByteArray)) l0 (l0.length : Int) 0) else (some (([] : List ByteArray), t671)))) = some (r1, r2) := h
 clear h
 replace H := Option.bind_eq_some_iff.mp H
 obtain ⟨t671, A40, H⟩ := H
 replace H : (if t671 = 0 then (impl_NotChecked.l0 k l1 a2 (([] : List ByteArray)) l0 (l0.length : Int) 0) else (some (([] : List ByteArray), t671))) = some (r1, r2) := H
 have A4 := Aside0.mk A40
 clear A40
 by_cases c5 : t671 = 0
 ·rw [if_pos c5] at H
  have c5b0 : (t671 == 0) = true := beq_iff_eq.mpr c5
  have c5b1 : (t671 != 0) = false := bne_eq_false_iff_eq.mpr c5
  clear c5
  obtain ⟨y672, hy672⟩ : ∃ y_ : List ByteArray, y_ = (([] : List ByteArray)) := ⟨_, rfl⟩
  replace H : (impl_NotChecked.l0 k l1 a2 y672 l0 (l0.length : Int) 0) = some (r1, r2) := by first | (rw [hy672]; with_reducible exact H) | (have H2_ := (Option.bind_some _ _).symm.trans H; rw [hy672]; with_reducible exact H2_) | (have H2_ := (Option.bind_some _ _).symm.trans H; with_reducible exact H2_) | with_reducible exact H | (rw [hy672]; exact H) | exact H
  have Ny672 := Aside0.mk hy672
  clear hy672
  have H' := Aside0.mk H
  clear H
  go_enter Try.func44, Try.ntmps44
  go_wp2_with (first | ((with_reducible refine gate_callee (f := 71) rfl ?_); refine goesL_ (some 16) rfl rfl Try.func71 (by kernel_rfl) rfl #[.slice A0 l0.length c0, .slice A1 l1.length c1, .int .i64 a2] rfl ln_ ?_; (with_reducible refine (impl_gearCode.calls k _ _ l0 _ _ l1 a2 t671 _ ?side1 ?side2 ?side3 ?side4 A4.out).mono ?_); (case side1 => exact kc_ HR0.out); (case side2 => exact HC0.out); (case side3 => exact kc_ HR1.out); (case side4 => exact HC1.out); rintro e w6 ⟨rfl, hb⟩; refine ⟨_, rfl, ?_⟩; have n0_ := Aside0.mk (below_step hb_ hb); clear HB; have HB := n0_; clear n0_; (try clear hb); (try clear hb2); (try clear hk); (try clear hi)) | ((with_reducible refine gate_dst (N := 20) rfl ?_); (try (refine gate_guard (by rfl) ?_; dsimp only)); refine Kd.R_lit Kd.string _ 9 ?hg (N := 20) ?hd (xs := ([] : List ByteArray)) (inner := []) (ok := fun _ => True) (okp := fun _ => True) ?hr ?hp (fun _ hk => hk) trivial (Below.refl _ _) (Nat.le_refl _) (by simp) ?_; (case hd => rfl); (case hg => rfl); (case hr => first | (go_simp; done) | (go_simp; rfl)); (case hp => exact (Reps.none _ _)); intro v673 w7 ho8 hb hg_ hnew_; clear hg_ hnew_; (first | rw [← Ny672.out] at ho8 | (simp only [Int.reduceToNat] at ho8; rw [← Ny672.out] at ho8)); have n0_ := Aside0.mk (Kd.R_lower ho8 (below_size hb_)); have n1_ := Aside0.mk (below_step hb_ hb); clear HB; have HO674 := n0_; have HB := n1_; clear n0_ n1_; clear hb ho8))
  go_loopg [9, 23] k (fun kq v9 v23 w' => ∃ (x9_1 : List ByteArray) (x23_1 : Int), v23 = .int .i64 x23_1 ∧ Aside0 (impl_NotChecked.l0 kq l1 a2 x9_1 l0 (l0.length : Int) x23_1 = some (r1, r2)) ∧ Aside0 (kq ≤ k) ∧ Aside0 (Kd.R Kd.string 9 w' w.heap.size (fun _ => True) v9 x9_1) ∧ Aside0 (Below w.heap.size w w'))
  case atStart => exact ⟨(y672), (0), (by first | rfl | (simp; done) | (simp [*]; done)), H', ⟨Nat.le_refl _⟩, ⟨by (with_reducible repeat (first | apply Kd.R_alloc | apply Kd.R_drewN | apply Kd.R_drew)); exact HO674.out⟩, ⟨hb_⟩⟩
  case round =>
   clear H'
   try clear c1
   try clear p2
   try clear c4
   try clear c5
   try clear c5b0
   try clear c5b1
   try clear c7
   obtain ⟨x9_1, x23_1, rfl, HA, HK1, HO_9, HB⟩ := hrel
   cases gk with
   | zero => exact absurd HA.out (by simp [impl_NotChecked.l0])
   | succ k1 =>
    have H := HA.out
    clear HA
    simp only [impl_NotChecked.l0] at H
    by_cases c9 : x23_1 < (l0.length : Int)
    ·rw [if_pos c9] at H
     have c9b0 : decide (x23_1 < (l0.length : Int)) = true := decide_eq_true c9
     clear c9
     by_cases c10 : 0 ≤ x23_1
     ·rw [if_pos c10] at H
      have c10b0 : decide (0 ≤ x23_1) = true := decide_eq_true c10
      clear c10
      by_cases c11 : x23_1 < (l0.length : Int)
      ·rw [if_pos c11] at H
       have c11b0 : decide (x23_1 < (l0.length : Int)) = true := decide_eq_true c11
       clear c11
       replace H := Option.bind_eq_some_iff.mp H
       obtain ⟨t677, A120, H⟩ := H
       replace H : (if (t677.length : Int) = 0 then (if x9_1.length < 8796093022208 then (impl_NotChecked.l0 k1 l1 a2 (x9_1 ++ [(rd_T73 l0 x23_1).f0]) l0 (l0.length : Int) (wrap64 (x23_1 + 1))) else (none)) else (if 0 ≤ (wrap64 ((t677.length : Int) - 1)) then (if (wrap64 ((t677.length : Int) - 1)) < (t677.length : Int) then (if ((rd_T53 t677 (wrap64 ((t677.length : Int) - 1))).f1) < a2 then (if x9_1.length < 8796093022208 then (impl_NotChecked.l0 k1 l1 a2 (x9_1 ++ [(rd_T73 l0 x23_1).f0]) l0 (l0.length : Int) (wrap64 (x23_1 + 1))) else (none)) else (impl_NotChecked.l0 k1 l1 a2 x9_1 l0 (l0.length : Int) (wrap64 (x23_1 + 1)))) else (none)) else (none))) = some (r1, r2) := H
       have A12 := Aside0.mk A120
       clear A120
       by_cases c13 : (t677.length : Int) = 0
       ·rw [if_pos c13] at H
        have c13b0 : ((t677.length : Int) == 0) = true := beq_iff_eq.mpr c13
        have c13b1 : ((t677.length : Int) != 0) = false := bne_eq_false_iff_eq.mpr c13
        clear c13
        by_cases c14 : x9_1.length < 8796093022208
        ·rw [if_pos c14] at H
         have LMc14 := Aside0.mk c14
         clear c14
         obtain ⟨y680, hy680⟩ : ∃ y_ : List ByteArray, y_ = (x9_1 ++ [(rd_T73 l0 x23_1).f0]) := ⟨_, rfl⟩
         replace H : (impl_NotChecked.l0 k1 l1 a2 y680 l0 (l0.length : Int) (wrap64 (x23_1 + 1))) = some (r1, r2) := by first | (rw [hy680]; with_reducible exact H) | (have H2_ := (Option.bind_some _ _).symm.trans H; rw [hy680]; with_reducible exact H2_) | (have H2_ := (Option.bind_some _ _).symm.trans H; with_reducible exact H2_) | with_reducible exact H | (rw [hy680]; exact H) | exact H
         have Ny680 := Aside0.mk hy680
         clear hy680
         have H' := Aside0.mk H
         clear H
         have p675 : 0 ≤ (x23_1 : Int) := od_
         have q675 : x23_1 < (l0.length : Int) := od_
         obtain ⟨ad675, e675, hx675_0, hx675_1, hx675_2, hx675_3⟩ := at_T73 HR0.out x23_1 p675 q675
         cases e675
         replace hx675_0 := cq_ HB hx675_0
         replace hx675_1 := cq_ HB hx675_1
         replace hx675_2 := cq_ HB hx675_2
         replace hx675_3 := cq_ HB hx675_3
         replace p675 := eq_true p675
         replace q675 := eq_true q675
         go_wp2_with (first | ((with_reducible refine gate_dst (N := 11) rfl ?_); (try (refine gate_guard (by rfl) ?_; dsimp only)); refine box_event ?hg (N := 11) ?hd (cs := #[.string (⟨#[]⟩ : ByteArray), .int .i64 0, .int .i64 0, .int .i64 0]) (t := 73) ?hr ?_; (case hd => rfl); (case hg => rfl); (case hr => first | (go_simp; done) | (go_simp; rfl)); intro gb676 hg w15 hbox hb; have n0_ := Aside0.mk (Kd.R_below (kr_ HO_9) hb); have n1_ := Aside0.mk (below_step hb_ hb); have n2_ := Aside0.mk (hbox); have n3_ := Aside0.mk ((by rw [hg]; exact (below_size hb_) : w.heap.size ≤ gb676)); have n4_ := Aside0.mk ((by rw [hg]; exact (below_size hb_) : w.heap.size ≤ gb676)); clear HO_9; clear HB; have HO_9 := n0_; have HB := n1_; have BK676 := n2_; have GW676 := n3_; have GE676 := n4_; clear n0_ n1_ n2_ n3_ n4_; clear hb hbox hg; have hcz16_0 : w15.cell? ⟨gb676, 0, none⟩ = some (.string (⟨#[]⟩ : ByteArray)) := (blk_cell BK676.out 0).trans rfl; have hcz16_1 : w15.cell? ⟨gb676, 1, none⟩ = some (.int .i64 0) := (blk_cell BK676.out 1).trans rfl; have hcz16_2 : w15.cell? ⟨gb676, 2, none⟩ = some (.int .i64 0) := (blk_cell BK676.out 2).trans rfl; have hcz16_3 : w15.cell? ⟨gb676, 3, none⟩ = some (.int .i64 0) := (blk_cell BK676.out 3).trans rfl; have hfz16_0 := blk_frozen BK676.out 0; have hfz16_1 := blk_frozen BK676.out 1; have hfz16_2 := blk_frozen BK676.out 2; have hfz16_3 := blk_frozen BK676.out 3) | ((with_reducible refine gate_callee (f := 78) rfl ?_); refine goesL_ (some 30) rfl rfl Try.func78 (by kernel_rfl) rfl #[.slice A1 l1.length c1, .string ((rd_T73 l0 x23_1).f0)] rfl ln_ ?_; (with_reducible refine (impl_checksOf.calls k1 _ _ l1 ((rd_T73 l0 x23_1).f0) t677 _ ?side1 ?side2 A12.out).mono ?_); (case side1 => exact Kd.C_below HR1.out (hg_ GE676)); (case side2 => exact HC1.out); rintro e w17 ⟨v678, rfl, ho0, hb⟩; refine ⟨_, rfl, ?_⟩; have n0_ := Aside0.mk (Kd.R_below (by (with_reducible repeat (first | apply Kd.R_alloc | apply Kd.R_drewN | apply Kd.R_drew)); exact (Kd.R_mono (Kd.R_far (p := ⟨gb676, 3, none⟩) (Kd.R_far (p := ⟨gb676, 2, none⟩) (Kd.R_far (p := ⟨gb676, 1, none⟩) (Kd.R_far (p := ⟨gb676, 0, none⟩) (Kd.R_types HO_9.out BK676.out (by decide)) (fun _ hk => hk.2) (.string ((rd_T73 l0 x23_1).f0))) (fun _ hk => hk.2) (.int .i64 ((rd_T73 l0 x23_1).f1))) (fun _ hk => hk.2) (.int .i64 ((rd_T73 l0 x23_1).f2))) (fun _ hk => hk.2) (.int .i64 ((rd_T73 l0 x23_1).f3))) (fun _ h_ => h_.1))) hb); have n1_ := Aside0.mk (Kd.R_lower ho0 (below_size (hg_ GE676))); have n2_ := Aside0.mk (blk_below (g := gb676) (o := .cells #[.string ((rd_T73 l0 x23_1).f0), .int .i64 ((rd_T73 l0 x23_1).f1), .int .i64 ((rd_T73 l0 x23_1).f2), .int .i64 ((rd_T73 l0 x23_1).f3)] 73 (0, 0)) (by (with_reducible repeat (first | refine blk_drewN ?_ _ | refine blk_drew ?_ | refine blk_alloc ?_ _)); refine blk_put (cs := #[.string ((rd_T73 l0 x23_1).f0), .int .i64 ((rd_T73 l0 x23_1).f1), .int .i64 ((rd_T73 l0 x23_1).f2), .int .i64 0]) ?_ 3 _ rfl; (with_reducible repeat (first | refine blk_drewN ?_ _ | refine blk_drew ?_ | refine blk_alloc ?_ _)); refine blk_put (cs := #[.string ((rd_T73 l0 x23_1).f0), .int .i64 ((rd_T73 l0 x23_1).f1), .int .i64 0, .int .i64 0]) ?_ 2 _ rfl; (with_reducible repeat (first | refine blk_drewN ?_ _ | refine blk_drew ?_ | refine blk_alloc ?_ _)); refine blk_put (cs := #[.string ((rd_T73 l0 x23_1).f0), .int .i64 0, .int .i64 0, .int .i64 0]) ?_ 1 _ rfl; (with_reducible repeat (first | refine blk_drewN ?_ _ | refine blk_drew ?_ | refine blk_alloc ?_ _)); refine blk_put (cs := #[.string (⟨#[]⟩ : ByteArray), .int .i64 0, .int .i64 0, .int .i64 0]) ?_ 0 _ rfl; (with_reducible repeat (first | refine blk_drewN ?_ _ | refine blk_drew ?_ | refine blk_alloc ?_ _)); exact BK676.out) hb); have n3_ := Aside0.mk (below_step (hg_ GE676) hb); clear HO_9; clear BK676; clear HB; have HO_9 := n0_; have HO679 := n1_; have BK676 := n2_; have HB := n3_; clear n0_ n1_ n2_ n3_; (try clear hb); (try clear hb2); (try clear hk); (try clear hi); (try clear ho0); obtain ⟨Ao18, co18, eo18⟩ := Kd.R_slice HO679.out; subst eo18; have hcz19_0 : w17.cell? ⟨gb676, 0, none⟩ = some (.string ((rd_T73 l0 x23_1).f0)) := (blk_cell BK676.out 0).trans rfl; have hcz19_1 : w17.cell? ⟨gb676, 1, none⟩ = some (.int .i64 ((rd_T73 l0 x23_1).f1)) := (blk_cell BK676.out 1).trans rfl; have hcz19_2 : w17.cell? ⟨gb676, 2, none⟩ = some (.int .i64 ((rd_T73 l0 x23_1).f2)) := (blk_cell BK676.out 2).trans rfl; have hcz19_3 : w17.cell? ⟨gb676, 3, none⟩ = some (.int .i64 ((rd_T73 l0 x23_1).f3)) := (blk_cell BK676.out 3).trans rfl; have hfz19_0 := blk_frozen BK676.out 0; have hfz19_1 := blk_frozen BK676.out 1; have hfz19_2 := blk_frozen BK676.out 2; have hfz19_3 := blk_frozen BK676.out 3) | ((with_reducible refine gate_builtin (b := .append) (xs := #[.tmp 45, .tmp 48]) rfl ?_); (try (refine gate_guard (by rfl) ?_; dsimp only)); at_builtin; refine Kd.R_append Kd.string (w0 := w) w.heap.size rfl (.tmp 45) (.tmp 48) 57 9 (.string ⟨#[]⟩) 16 rfl Try.underlying57 info9 rfl (by decide) (by omega) u9 x9_1 ((rd_T73 l0 x23_1).f0) [.string ((rd_T73 l0 x23_1).f0)] (fun _ => True) (fun _ => False) rfl rfl ?aP (fun _ hk => hk.elim) ?aF ?aO ?aB ?aS ?aL ?_; (case aP => exact rfl); (case aB => exact (hg_ GE676)); (case aF => exact (fun _ _ => trivial)); (case aO => exact (kr_ HO_9)); (case aS => exact (below_size (hg_ GE676))); (case aL => have := LMc14.out; omega); intro v681 w20 ho hb hg hat; rw [← Ny680.out] at ho; have n0_ := Aside0.mk (blk_grown (g := gb676) (o := .cells #[.string ((rd_T73 l0 x23_1).f0), .int .i64 ((rd_T73 l0 x23_1).f1), .int .i64 ((rd_T73 l0 x23_1).f2), .int .i64 ((rd_T73 l0 x23_1).f3)] 73 (0, 0)) (bk_ BK676) hg (Kd.R_ne HO_9.out BK676.out (by decide))); have n1_ := Aside0.mk (Kd.R_over' (kr_ HO679) (Kd.R_typed (kr_ HO_9)) (by decide) hg); have n2_ := Aside0.mk (hb); have n3_ := Aside0.mk (ho); clear BK676; clear HO679; clear HB; clear HO_9; have BK676 := n0_; have HO679 := n1_; have HB := n2_; have HO682 := n3_; clear n0_ n1_ n2_ n3_; clear ho hb hg hat))
         go_roundg k1
         case measure => have := HK1.out; omega
         case rel => exact ⟨(y680), (wrap64 (x23_1 + 1)), (by first | rfl | (simp; done) | (simp [*]; done)), H', ⟨by have := HK1.out; omega⟩, ⟨by (with_reducible repeat (first | apply Kd.R_alloc | apply Kd.R_drewN | apply Kd.R_drew)); exact HO682.out⟩, ⟨(hg_ GE676)⟩⟩
        ·rw [if_neg c14] at H
         exact absurd H (by simp)
       ·rw [if_neg c13] at H
        have c13b0 : ((t677.length : Int) == 0) = false := beq_eq_false_iff_ne.mpr c13
        have c13b1 : ((t677.length : Int) != 0) = true := bne_iff_ne.mpr c13
        have c13b2 : ¬ (t677 = []) := fun h_ => c13 (by rw [h_]; rfl)
        obtain ⟨ji21, hji21⟩ : ∃ j_ : Int, (wrap64 ((t677.length : Int) - 1)) = j_ := ⟨_, rfl⟩
        replace H : (if 0 ≤ (ji21) then (if (ji21) < (t677.length : Int) then (if ((rd_T53 t677 (ji21)).f1) < a2 then (if x9_1.length < 8796093022208 then (impl_NotChecked.l0 k1 l1 a2 (x9_1 ++ [(rd_T73 l0 x23_1).f0]) l0 (l0.length : Int) (wrap64 (x23_1 + 1))) else (none)) else (impl_NotChecked.l0 k1 l1 a2 x9_1 l0 (l0.length : Int) (wrap64 (x23_1 + 1)))) else (none)) else (none)) = some (r1, r2) := by first | (rw [hji21] at H; exact H) | (simp only [hji21] at H ⊢; exact H)
        (try rw [hji21] at A12)
        have hji21w : (IntKind.i64.wrap ((t677.length : Int) - 1)) = ji21 := (i64_w _).trans hji21
        by_cases c22 : 0 ≤ (ji21)
        ·rw [if_pos c22] at H
         have c22b0 : decide (0 ≤ (ji21)) = true := decide_eq_true c22
         clear c22
         by_cases c23 : (ji21) < (t677.length : Int)
         ·rw [if_pos c23] at H
          have c23b0 : decide ((ji21) < (t677.length : Int)) = true := decide_eq_true c23
          clear c23
          by_cases c24 : ((rd_T53 t677 (ji21)).f1) < a2
          ·rw [if_pos c24] at H
           have c24b0 : decide (((rd_T53 t677 (ji21)).f1) < a2) = true := decide_eq_true c24
           clear c24
           by_cases c25 : x9_1.length < 8796093022208
           ·rw [if_pos c25] at H
            have LMc25 := Aside0.mk c25
            clear c25
            obtain ⟨y684, hy684⟩ : ∃ y_ : List ByteArray, y_ = (x9_1 ++ [(rd_T73 l0 x23_1).f0]) := ⟨_, rfl⟩
            replace H : (impl_NotChecked.l0 k1 l1 a2 y684 l0 (l0.length : Int) (wrap64 (x23_1 + 1))) = some (r1, r2) := by first | (rw [hy684]; with_reducible exact H) | (have H2_ := (Option.bind_some _ _).symm.trans H; rw [hy684]; with_reducible exact H2_) | (have H2_ := (Option.bind_some _ _).symm.trans H; with_reducible exact H2_) | with_reducible exact H | (rw [hy684]; exact H) | exact H
            have Ny684 := Aside0.mk hy684
            clear hy684
            have H' := Aside0.mk H
            clear H
            have p675 : 0 ≤ (x23_1 : Int) := od_
            have q675 : x23_1 < (l0.length : Int) := od_
            obtain ⟨ad675, e675, hx675_0, hx675_1, hx675_2, hx675_3⟩ := at_T73 HR0.out x23_1 p675 q675
            cases e675
            replace hx675_0 := cq_ HB hx675_0
            replace hx675_1 := cq_ HB hx675_1
            replace hx675_2 := cq_ HB hx675_2
            replace hx675_3 := cq_ HB hx675_3
            replace p675 := eq_true p675
            replace q675 := eq_true q675
            go_wp2_with (first | ((with_reducible refine gate_dst (N := 11) rfl ?_); (try (refine gate_guard (by rfl) ?_; dsimp only)); refine box_event ?hg (N := 11) ?hd (cs := #[.string (⟨#[]⟩ : ByteArray), .int .i64 0, .int .i64 0, .int .i64 0]) (t := 73) ?hr ?_; (case hd => rfl); (case hg => rfl); (case hr => first | (go_simp; done) | (go_simp; rfl)); intro gb676 hg w26 hbox hb; have n0_ := Aside0.mk (Kd.R_below (kr_ HO_9) hb); have n1_ := Aside0.mk (below_step hb_ hb); have n2_ := Aside0.mk (hbox); have n3_ := Aside0.mk ((by rw [hg]; exact (below_size hb_) : w.heap.size ≤ gb676)); have n4_ := Aside0.mk ((by rw [hg]; exact (below_size hb_) : w.heap.size ≤ gb676)); clear HO_9; clear HB; have HO_9 := n0_; have HB := n1_; have BK676 := n2_; have GW676 := n3_; have GE676 := n4_; clear n0_ n1_ n2_ n3_ n4_; clear hb hbox hg; have hcz27_0 : w26.cell? ⟨gb676, 0, none⟩ = some (.string (⟨#[]⟩ : ByteArray)) := (blk_cell BK676.out 0).trans rfl; have hcz27_1 : w26.cell? ⟨gb676, 1, none⟩ = some (.int .i64 0) := (blk_cell BK676.out 1).trans rfl; have hcz27_2 : w26.cell? ⟨gb676, 2, none⟩ = some (.int .i64 0) := (blk_cell BK676.out 2).trans rfl; have hcz27_3 : w26.cell? ⟨gb676, 3, none⟩ = some (.int .i64 0) := (blk_cell BK676.out 3).trans rfl; have hfz27_0 := blk_frozen BK676.out 0; have hfz27_1 := blk_frozen BK676.out 1; have hfz27_2 := blk_frozen BK676.out 2; have hfz27_3 := blk_frozen BK676.out 3) | ((with_reducible refine gate_callee (f := 78) rfl ?_); refine goesL_ (some 30) rfl rfl Try.func78 (by kernel_rfl) rfl #[.slice A1 l1.length c1, .string ((rd_T73 l0 x23_1).f0)] rfl ln_ ?_; (with_reducible refine (impl_checksOf.calls k1 _ _ l1 ((rd_T73 l0 x23_1).f0) t677 _ ?side1 ?side2 A12.out).mono ?_); (case side1 => exact Kd.C_below HR1.out (hg_ GE676)); (case side2 => exact HC1.out); rintro e w28 ⟨v678, rfl, ho0, hb⟩; refine ⟨_, rfl, ?_⟩; have n0_ := Aside0.mk (Kd.R_below (by (with_reducible repeat (first | apply Kd.R_alloc | apply Kd.R_drewN | apply Kd.R_drew)); exact (Kd.R_mono (Kd.R_far (p := ⟨gb676, 3, none⟩) (Kd.R_far (p := ⟨gb676, 2, none⟩) (Kd.R_far (p := ⟨gb676, 1, none⟩) (Kd.R_far (p := ⟨gb676, 0, none⟩) (Kd.R_types HO_9.out BK676.out (by decide)) (fun _ hk => hk.2) (.string ((rd_T73 l0 x23_1).f0))) (fun _ hk => hk.2) (.int .i64 ((rd_T73 l0 x23_1).f1))) (fun _ hk => hk.2) (.int .i64 ((rd_T73 l0 x23_1).f2))) (fun _ hk => hk.2) (.int .i64 ((rd_T73 l0 x23_1).f3))) (fun _ h_ => h_.1))) hb); have n1_ := Aside0.mk (Kd.R_lower ho0 (below_size (hg_ GE676))); have n2_ := Aside0.mk (blk_below (g := gb676) (o := .cells #[.string ((rd_T73 l0 x23_1).f0), .int .i64 ((rd_T73 l0 x23_1).f1), .int .i64 ((rd_T73 l0 x23_1).f2), .int .i64 ((rd_T73 l0 x23_1).f3)] 73 (0, 0)) (by (with_reducible repeat (first | refine blk_drewN ?_ _ | refine blk_drew ?_ | refine blk_alloc ?_ _)); refine blk_put (cs := #[.string ((rd_T73 l0 x23_1).f0), .int .i64 ((rd_T73 l0 x23_1).f1), .int .i64 ((rd_T73 l0 x23_1).f2), .int .i64 0]) ?_ 3 _ rfl; (with_reducible repeat (first | refine blk_drewN ?_ _ | refine blk_drew ?_ | refine blk_alloc ?_ _)); refine blk_put (cs := #[.string ((rd_T73 l0 x23_1).f0), .int .i64 ((rd_T73 l0 x23_1).f1), .int .i64 0, .int .i64 0]) ?_ 2 _ rfl; (with_reducible repeat (first | refine blk_drewN ?_ _ | refine blk_drew ?_ | refine blk_alloc ?_ _)); refine blk_put (cs := #[.string ((rd_T73 l0 x23_1).f0), .int .i64 0, .int .i64 0, .int .i64 0]) ?_ 1 _ rfl; (with_reducible repeat (first | refine blk_drewN ?_ _ | refine blk_drew ?_ | refine blk_alloc ?_ _)); refine blk_put (cs := #[.string (⟨#[]⟩ : ByteArray), .int .i64 0, .int .i64 0, .int .i64 0]) ?_ 0 _ rfl; (with_reducible repeat (first | refine blk_drewN ?_ _ | refine blk_drew ?_ | refine blk_alloc ?_ _)); exact BK676.out) hb); have n3_ := Aside0.mk (below_step (hg_ GE676) hb); clear HO_9; clear BK676; clear HB; have HO_9 := n0_; have HO679 := n1_; have BK676 := n2_; have HB := n3_; clear n0_ n1_ n2_ n3_; (try clear hb); (try clear hb2); (try clear hk); (try clear hi); (try clear ho0); obtain ⟨Ao29, co29, eo29⟩ := Kd.R_slice HO679.out; subst eo29; have p683 : 0 ≤ ((ji21) : Int) := od_; have q683 : (ji21) < (t677.length : Int) := od_; obtain ⟨ad683, e683, hx683_0, hx683_1, hx683_2⟩ := at_T53 (Kd.R_reads' HO679.out).2.2 (ji21) p683 q683; cases e683; replace p683 := eq_true p683; replace q683 := eq_true q683; have hcz30_0 : w28.cell? ⟨gb676, 0, none⟩ = some (.string ((rd_T73 l0 x23_1).f0)) := (blk_cell BK676.out 0).trans rfl; have hcz30_1 : w28.cell? ⟨gb676, 1, none⟩ = some (.int .i64 ((rd_T73 l0 x23_1).f1)) := (blk_cell BK676.out 1).trans rfl; have hcz30_2 : w28.cell? ⟨gb676, 2, none⟩ = some (.int .i64 ((rd_T73 l0 x23_1).f2)) := (blk_cell BK676.out 2).trans rfl; have hcz30_3 : w28.cell? ⟨gb676, 3, none⟩ = some (.int .i64 ((rd_T73 l0 x23_1).f3)) := (blk_cell BK676.out 3).trans rfl; have hfz30_0 := blk_frozen BK676.out 0; have hfz30_1 := blk_frozen BK676.out 1; have hfz30_2 := blk_frozen BK676.out 2; have hfz30_3 := blk_frozen BK676.out 3) | ((with_reducible refine gate_builtin (b := .append) (xs := #[.tmp 45, .tmp 48]) rfl ?_); (try (refine gate_guard (by rfl) ?_; dsimp only)); at_builtin; refine Kd.R_append Kd.string (w0 := w) w.heap.size rfl (.tmp 45) (.tmp 48) 57 9 (.string ⟨#[]⟩) 16 rfl Try.underlying57 info9 rfl (by decide) (by omega) u9 x9_1 ((rd_T73 l0 x23_1).f0) [.string ((rd_T73 l0 x23_1).f0)] (fun _ => True) (fun _ => False) rfl rfl ?aP (fun _ hk => hk.elim) ?aF ?aO ?aB ?aS ?aL ?_; (case aP => exact rfl); (case aB => exact (hg_ GE676)); (case aF => exact (fun _ _ => trivial)); (case aO => exact (kr_ HO_9)); (case aS => exact (below_size (hg_ GE676))); (case aL => have := LMc25.out; omega); intro v685 w31 ho hb hg hat; rw [← Ny684.out] at ho; have n0_ := Aside0.mk (blk_grown (g := gb676) (o := .cells #[.string ((rd_T73 l0 x23_1).f0), .int .i64 ((rd_T73 l0 x23_1).f1), .int .i64 ((rd_T73 l0 x23_1).f2), .int .i64 ((rd_T73 l0 x23_1).f3)] 73 (0, 0)) (bk_ BK676) hg (Kd.R_ne HO_9.out BK676.out (by decide))); have n1_ := Aside0.mk (Kd.R_over' (kr_ HO679) (Kd.R_typed (kr_ HO_9)) (by decide) hg); have n2_ := Aside0.mk (hb); have n3_ := Aside0.mk (ho); clear BK676; clear HO679; clear HB; clear HO_9; have BK676 := n0_; have HO679 := n1_; have HB := n2_; have HO686 := n3_; clear n0_ n1_ n2_ n3_; clear ho hb hg hat))
            go_roundg k1
            case measure => have := HK1.out; omega
            case rel => exact ⟨(y684), (wrap64 (x23_1 + 1)), (by first | rfl | (simp; done) | (simp [*]; done)), H', ⟨by have := HK1.out; omega⟩, ⟨by (with_reducible repeat (first | apply Kd.R_alloc | apply Kd.R_drewN | apply Kd.R_drew)); exact HO686.out⟩, ⟨(hg_ GE676)⟩⟩
           ·rw [if_neg c25] at H
            exact absurd H (by simp)
          ·rw [if_neg c24] at H
           have c24b0 : decide (((rd_T53 t677 (ji21)).f1) < a2) = false := decide_eq_false c24
           clear c24
           have H' := Aside0.mk H
           clear H
           have p675 : 0 ≤ (x23_1 : Int) := od_
           have q675 : x23_1 < (l0.length : Int) := od_
           obtain ⟨ad675, e675, hx675_0, hx675_1, hx675_2, hx675_3⟩ := at_T73 HR0.out x23_1 p675 q675
           cases e675
           replace hx675_0 := cq_ HB hx675_0
           replace hx675_1 := cq_ HB hx675_1
           replace hx675_2 := cq_ HB hx675_2
           replace hx675_3 := cq_ HB hx675_3
           replace p675 := eq_true p675
           replace q675 := eq_true q675
           go_wp2_with (first | ((with_reducible refine gate_dst (N := 11) rfl ?_); (try (refine gate_guard (by rfl) ?_; dsimp only)); refine box_event ?hg (N := 11) ?hd (cs := #[.string (⟨#[]⟩ : ByteArray), .int .i64 0, .int .i64 0, .int .i64 0]) (t := 73) ?hr ?_; (case hd => rfl); (case hg => rfl); (case hr => first | (go_simp; done) | (go_simp; rfl)); intro gb676 hg w32 hbox hb; have n0_ := Aside0.mk (Kd.R_below (kr_ HO_9) hb); have n1_ := Aside0.mk (below_step hb_ hb); have n2_ := Aside0.mk (hbox); have n3_ := Aside0.mk ((by rw [hg]; exact (below_size hb_) : w.heap.size ≤ gb676)); have n4_ := Aside0.mk ((by rw [hg]; exact (below_size hb_) : w.heap.size ≤ gb676)); clear HO_9; clear HB; have HO_9 := n0_; have HB := n1_; have BK676 := n2_; have GW676 := n3_; have GE676 := n4_; clear n0_ n1_ n2_ n3_ n4_; clear hb hbox hg; have hcz33_0 : w32.cell? ⟨gb676, 0, none⟩ = some (.string (⟨#[]⟩ : ByteArray)) := (blk_cell BK676.out 0).trans rfl; have hcz33_1 : w32.cell? ⟨gb676, 1, none⟩ = some (.int .i64 0) := (blk_cell BK676.out 1).trans rfl; have hcz33_2 : w32.cell? ⟨gb676, 2, none⟩ = some (.int .i64 0) := (blk_cell BK676.out 2).trans rfl; have hcz33_3 : w32.cell? ⟨gb676, 3, none⟩ = some (.int .i64 0) := (blk_cell BK676.out 3).trans rfl; have hfz33_0 := blk_frozen BK676.out 0; have hfz33_1 := blk_frozen BK676.out 1; have hfz33_2 := blk_frozen BK676.out 2; have hfz33_3 := blk_frozen BK676.out 3) | ((with_reducible refine gate_callee (f := 78) rfl ?_); refine goesL_ (some 30) rfl rfl Try.func78 (by kernel_rfl) rfl #[.slice A1 l1.length c1, .string ((rd_T73 l0 x23_1).f0)] rfl ln_ ?_; (with_reducible refine (impl_checksOf.calls k1 _ _ l1 ((rd_T73 l0 x23_1).f0) t677 _ ?side1 ?side2 A12.out).mono ?_); (case side1 => exact Kd.C_below HR1.out (hg_ GE676)); (case side2 => exact HC1.out); rintro e w34 ⟨v678, rfl, ho0, hb⟩; refine ⟨_, rfl, ?_⟩; have n0_ := Aside0.mk (Kd.R_below (by (with_reducible repeat (first | apply Kd.R_alloc | apply Kd.R_drewN | apply Kd.R_drew)); exact (Kd.R_mono (Kd.R_far (p := ⟨gb676, 3, none⟩) (Kd.R_far (p := ⟨gb676, 2, none⟩) (Kd.R_far (p := ⟨gb676, 1, none⟩) (Kd.R_far (p := ⟨gb676, 0, none⟩) (Kd.R_types HO_9.out BK676.out (by decide)) (fun _ hk => hk.2) (.string ((rd_T73 l0 x23_1).f0))) (fun _ hk => hk.2) (.int .i64 ((rd_T73 l0 x23_1).f1))) (fun _ hk => hk.2) (.int .i64 ((rd_T73 l0 x23_1).f2))) (fun _ hk => hk.2) (.int .i64 ((rd_T73 l0 x23_1).f3))) (fun _ h_ => h_.1))) hb); have n1_ := Aside0.mk (Kd.R_lower ho0 (below_size (hg_ GE676))); have n2_ := Aside0.mk (blk_below (g := gb676) (o := .cells #[.string ((rd_T73 l0 x23_1).f0), .int .i64 ((rd_T73 l0 x23_1).f1), .int .i64 ((rd_T73 l0 x23_1).f2), .int .i64 ((rd_T73 l0 x23_1).f3)] 73 (0, 0)) (by (with_reducible repeat (first | refine blk_drewN ?_ _ | refine blk_drew ?_ | refine blk_alloc ?_ _)); refine blk_put (cs := #[.string ((rd_T73 l0 x23_1).f0), .int .i64 ((rd_T73 l0 x23_1).f1), .int .i64 ((rd_T73 l0 x23_1).f2), .int .i64 0]) ?_ 3 _ rfl; (with_reducible repeat (first | refine blk_drewN ?_ _ | refine blk_drew ?_ | refine blk_alloc ?_ _)); refine blk_put (cs := #[.string ((rd_T73 l0 x23_1).f0), .int .i64 ((rd_T73 l0 x23_1).f1), .int .i64 0, .int .i64 0]) ?_ 2 _ rfl; (with_reducible repeat (first | refine blk_drewN ?_ _ | refine blk_drew ?_ | refine blk_alloc ?_ _)); refine blk_put (cs := #[.string ((rd_T73 l0 x23_1).f0), .int .i64 0, .int .i64 0, .int .i64 0]) ?_ 1 _ rfl; (with_reducible repeat (first | refine blk_drewN ?_ _ | refine blk_drew ?_ | refine blk_alloc ?_ _)); refine blk_put (cs := #[.string (⟨#[]⟩ : ByteArray), .int .i64 0, .int .i64 0, .int .i64 0]) ?_ 0 _ rfl; (with_reducible repeat (first | refine blk_drewN ?_ _ | refine blk_drew ?_ | refine blk_alloc ?_ _)); exact BK676.out) hb); have n3_ := Aside0.mk (below_step (hg_ GE676) hb); clear HO_9; clear BK676; clear HB; have HO_9 := n0_; have HO679 := n1_; have BK676 := n2_; have HB := n3_; clear n0_ n1_ n2_ n3_; (try clear hb); (try clear hb2); (try clear hk); (try clear hi); (try clear ho0); obtain ⟨Ao35, co35, eo35⟩ := Kd.R_slice HO679.out; subst eo35; have p683 : 0 ≤ ((ji21) : Int) := od_; have q683 : (ji21) < (t677.length : Int) := od_; obtain ⟨ad683, e683, hx683_0, hx683_1, hx683_2⟩ := at_T53 (Kd.R_reads' HO679.out).2.2 (ji21) p683 q683; cases e683; replace p683 := eq_true p683; replace q683 := eq_true q683))
           go_roundg k1
           case measure => have := HK1.out; omega
           case rel => exact ⟨(x9_1), (wrap64 (x23_1 + 1)), (by first | rfl | (simp; done) | (simp [*]; done)), H', ⟨by have := HK1.out; omega⟩, ⟨by (with_reducible repeat (first | apply Kd.R_alloc | apply Kd.R_drewN | apply Kd.R_drew)); exact HO_9.out⟩, ⟨(hg_ GE676)⟩⟩
         ·rw [if_neg c23] at H
          exact absurd H (by simp)
        ·rw [if_neg c22] at H
         exact absurd H (by simp)
      ·rw [if_neg c11] at H
       exact absurd H (by simp)
     ·rw [if_neg c10] at H
      exact absurd H (by simp)
    ·rw [if_neg c9] at H
     have c9b0 : decide (x23_1 < (l0.length : Int)) = false := decide_eq_false c9
     clear c9
     simp only [Option.some.injEq, Prod.mk.injEq] at H
     obtain ⟨rfl, rfl⟩ := H
     go_wp2
     go_ret2
     exact ⟨_, ew_, by (with_reducible repeat (first | apply Kd.R_alloc | apply Kd.R_drewN | apply Kd.R_drew)); exact HO_9.out, hb_⟩
 ·rw [if_neg c5] at H
  have c5b0 : (t671 == 0) = false := beq_eq_false_iff_ne.mpr c5
  have c5b1 : (t671 != 0) = true := bne_iff_ne.mpr c5
  simp only [Option.some.injEq, Prod.mk.injEq] at H
  obtain ⟨rfl, rfl⟩ := H
  go_enter Try.func44, Try.ntmps44
  go_wp2_with (first | ((with_reducible refine gate_callee (f := 71) rfl ?_); refine goesL_ (some 16) rfl rfl Try.func71 (by kernel_rfl) rfl #[.slice A0 l0.length c0, .slice A1 l1.length c1, .int .i64 a2] rfl ln_ ?_; (with_reducible refine (impl_gearCode.calls k _ _ l0 _ _ l1 a2 t671 _ ?side1 ?side2 ?side3 ?side4 A4.out).mono ?_); (case side1 => exact kc_ HR0.out); (case side2 => exact HC0.out); (case side3 => exact kc_ HR1.out); (case side4 => exact HC1.out); rintro e w36 ⟨rfl, hb⟩; refine ⟨_, rfl, ?_⟩; have n0_ := Aside0.mk (below_step hb_ hb); clear HB; have HB := n0_; clear n0_; (try clear hb); (try clear hb2); (try clear hk); (try clear hi)))
  go_ret2
  exact ⟨_, ew_, by first | exact Kd.R_nil _ _ _ _ _ | exact Kd.N_nil _ _ _ _ _ | exact Kd.V_nil _ _ _ _ _ | exact Kd.Q_nil _ _ _ _ _ | exact Kd.S_nil _ _ _ _ _, hb_⟩

/-! ### laws_FnExactNotChecked: function 11 -/
mutual
def laws_FnExactNotChecked.j0 : Nat → List (S72) → List (S49) → Int → List ByteArray → Int → List (S73) → List (S53) → List ByteArray → Int → Bool → Option (Bool)
 | 0, _, _, _, _, _, _, _, _, _, _ => none
 | k + 1, x0, x1, x2, x8, x9, x10, x11, x12, x13, x57 => if x57 = true then (some false) else ((laws_toGearS.f k x0).bind fun t716 => ((laws_eqGearS.f k x10 t716).bind fun t719 => (if t719 = true then ((laws_toCheckS.f k x1).bind fun t720 => ((laws_eqCheckS.f k x11 t720).bind fun t723 => (if t723 = true then ((laws_markGearS.f k x10 1).bind fun bt724 => ((laws_markCheckS.f k x11 bt724.1).bind fun bt726 => (if bt726.1 < 0 then (laws_FnExactNotChecked.j1 k x0 x1 x2 x8 x9 x12 true) else ((laws_eqStringS.f k x12 x8).bind fun t728 => (if t728 = true then (laws_FnExactNotChecked.j1 k x0 x1 x2 x8 x9 x12 (x13 != x9)) else (laws_FnExactNotChecked.j1 k x0 x1 x2 x8 x9 x12 true)))))) else (some false)))) else (some false))))
def laws_FnExactNotChecked.j1 : Nat → List (S72) → List (S49) → Int → List ByteArray → Int → List ByteArray → Bool → Option (Bool)
 | 0, _, _, _, _, _, _, _ => none
 | k + 1, x0, x1, x2, x8, x9, x12, x86 => if x86 = true then (some false) else ((laws_markStringS.f k x12 1).bind fun bt729 => ((laws_heldStringS.f k bt729.2 1).bind fun t731 => (if t731 < 0 then (some false) else (if t731 = bt729.1 then ((laws_toGearS.f k x0).bind fun t732 => ((laws_toCheckS.f k x1).bind fun t735 => ((impl_NotChecked.f k t732 t735 x2).bind fun bt738 => ((laws_eqStringS.f k bt738.1 x8).bind fun t742 => (if t742 = true then (laws_FnExactNotChecked.j2 k bt729.2 bt729.1 (bt738.2 != x9)) else (laws_FnExactNotChecked.j2 k bt729.2 bt729.1 true)))))) else (some false)))))
def laws_FnExactNotChecked.j2 : Nat → List ByteArray → Int → Bool → Option (Bool)
 | 0, _, _, _ => none
 | k + 1, x12, x15, x115 => if x115 = true then (some false) else ((laws_heldStringS.f k x12 1).bind fun t743 => (if t743 < 0 then (some false) else (if t743 = x15 then (some true) else (some false))))
end
def laws_FnExactNotChecked.f (k : Nat) (l0 : List (S72)) (l1 : List (S49)) (a2 : Int) : Option (Bool) := (laws_szGearS.f k l0 1048576).bind fun t693 => (if t693 < 0 then (some true) else ((laws_szCheckS.f k l1 t693).bind fun t694 => (if t694 < 0 then (some true) else ((laws_toGearS.f k l0).bind fun t695 => ((laws_toCheckS.f k l1).bind fun t698 => ((spec_NotChecked.f k t695 t698 a2).bind fun bt701 => ((laws_toGearS.f k l0).bind fun t705 => ((laws_toCheckS.f k l1).bind fun t708 => ((impl_NotChecked.f k t705 t708 a2).bind fun bt711 => ((laws_eqStringS.f k bt711.1 bt701.1).bind fun t715 => (if t715 = true then (laws_FnExactNotChecked.j0 k l0 l1 a2 bt701.1 bt701.2 t705 t708 bt711.1 bt711.2 (bt711.2 != bt701.2)) else (laws_FnExactNotChecked.j0 k l0 l1 a2 bt701.1 bt701.2 t705 t708 bt711.1 bt711.2 true))))))))))))
theorem laws_FnExactNotChecked.mono_l : ∀ k, (∀ y0 y1 y2 y3 y4 y5 y6 y7 y8 y9, LeO (laws_FnExactNotChecked.j0 k y0 y1 y2 y3 y4 y5 y6 y7 y8 y9) (laws_FnExactNotChecked.j0 (k + 1) y0 y1 y2 y3 y4 y5 y6 y7 y8 y9)) ∧ (∀ y0 y1 y2 y3 y4 y5 y6, LeO (laws_FnExactNotChecked.j1 k y0 y1 y2 y3 y4 y5 y6) (laws_FnExactNotChecked.j1 (k + 1) y0 y1 y2 y3 y4 y5 y6)) ∧ (∀ y0 y1 y2, LeO (laws_FnExactNotChecked.j2 k y0 y1 y2) (laws_FnExactNotChecked.j2 (k + 1) y0 y1 y2))
 | 0 => ⟨fun _ _ _ _ _ _ _ _ _ _ r h => by simp [laws_FnExactNotChecked.j0] at h, fun _ _ _ _ _ _ _ r h => by simp [laws_FnExactNotChecked.j1] at h, fun _ _ _ r h => by simp [laws_FnExactNotChecked.j2] at h⟩
 | k + 1 => by
  obtain ⟨ih0, ih1, ih2⟩ := laws_FnExactNotChecked.mono_l k
  refine ⟨?_, ?_, ?_⟩
  ·intro y0 y1 y2 y3 y4 y5 y6 y7 y8 y9
   unfold laws_FnExactNotChecked.j0
   repeat' first
   | (with_reducible exact ih0 _ _ _ _ _ _ _ _ _ _)
   | (with_reducible exact ih1 _ _ _ _ _ _ _)
   | (with_reducible exact ih2 _ _ _)
   | (with_reducible exact impl_NotChecked.mono _ _ _ _)
   | (with_reducible exact laws_eqCheckS.mono _ _ _)
   | (with_reducible exact laws_eqGearS.mono _ _ _)
   | (with_reducible exact laws_eqStringS.mono _ _ _)
   | (with_reducible exact laws_heldStringS.mono _ _ _)
   | (with_reducible exact laws_markCheckS.mono _ _ _)
   | (with_reducible exact laws_markGearS.mono _ _ _)
   | (with_reducible exact laws_markStringS.mono _ _ _)
   | (with_reducible exact laws_szCheckS.mono _ _ _)
   | (with_reducible exact laws_szGearS.mono _ _ _)
   | (with_reducible exact laws_toCheckS.mono _ _)
   | (with_reducible exact laws_toGearS.mono _ _)
   | (with_reducible exact spec_NotChecked.mono _ _ _ _)
   | (with_reducible exact LeO.refl _)
   | (with_reducible exact LeO.none _)
   | (with_reducible refine LeO.ite ?_ ?_)
   | (with_reducible refine LeO.bind ?_ (fun _ => ?_))
   | exact ih0 _ _ _ _ _ _ _ _ _ _
   | exact ih1 _ _ _ _ _ _ _
   | exact ih2 _ _ _
   | exact impl_NotChecked.mono _ _ _ _
   | exact laws_eqCheckS.mono _ _ _
   | exact laws_eqGearS.mono _ _ _
   | exact laws_eqStringS.mono _ _ _
   | exact laws_heldStringS.mono _ _ _
   | exact laws_markCheckS.mono _ _ _
   | exact laws_markGearS.mono _ _ _
   | exact laws_markStringS.mono _ _ _
   | exact laws_szCheckS.mono _ _ _
   | exact laws_szGearS.mono _ _ _
   | exact laws_toCheckS.mono _ _
   | exact laws_toGearS.mono _ _
   | exact spec_NotChecked.mono _ _ _ _
   | exact LeO.none _
   | refine LeO.ite ?_ ?_
   | refine LeO.bind ?_ (fun _ => ?_)
  ·intro y0 y1 y2 y3 y4 y5 y6
   unfold laws_FnExactNotChecked.j1
   repeat' first
   | (with_reducible exact ih0 _ _ _ _ _ _ _ _ _ _)
   | (with_reducible exact ih1 _ _ _ _ _ _ _)
   | (with_reducible exact ih2 _ _ _)
   | (with_reducible exact impl_NotChecked.mono _ _ _ _)
   | (with_reducible exact laws_eqCheckS.mono _ _ _)
   | (with_reducible exact laws_eqGearS.mono _ _ _)
   | (with_reducible exact laws_eqStringS.mono _ _ _)
   | (with_reducible exact laws_heldStringS.mono _ _ _)
   | (with_reducible exact laws_markCheckS.mono _ _ _)
   | (with_reducible exact laws_markGearS.mono _ _ _)
   | (with_reducible exact laws_markStringS.mono _ _ _)
   | (with_reducible exact laws_szCheckS.mono _ _ _)
   | (with_reducible exact laws_szGearS.mono _ _ _)
   | (with_reducible exact laws_toCheckS.mono _ _)
   | (with_reducible exact laws_toGearS.mono _ _)
   | (with_reducible exact spec_NotChecked.mono _ _ _ _)
   | (with_reducible exact LeO.refl _)
   | (with_reducible exact LeO.none _)
   | (with_reducible refine LeO.ite ?_ ?_)
   | (with_reducible refine LeO.bind ?_ (fun _ => ?_))
   | exact ih0 _ _ _ _ _ _ _ _ _ _
   | exact ih1 _ _ _ _ _ _ _
   | exact ih2 _ _ _
   | exact impl_NotChecked.mono _ _ _ _
   | exact laws_eqCheckS.mono _ _ _
   | exact laws_eqGearS.mono _ _ _
   | exact laws_eqStringS.mono _ _ _
   | exact laws_heldStringS.mono _ _ _
   | exact laws_markCheckS.mono _ _ _
   | exact laws_markGearS.mono _ _ _
   | exact laws_markStringS.mono _ _ _
   | exact laws_szCheckS.mono _ _ _
   | exact laws_szGearS.mono _ _ _
   | exact laws_toCheckS.mono _ _
   | exact laws_toGearS.mono _ _
   | exact spec_NotChecked.mono _ _ _ _
   | exact LeO.none _
   | refine LeO.ite ?_ ?_
   | refine LeO.bind ?_ (fun _ => ?_)
  ·intro y0 y1 y2
   unfold laws_FnExactNotChecked.j2
   repeat' first
   | (with_reducible exact ih0 _ _ _ _ _ _ _ _ _ _)
   | (with_reducible exact ih1 _ _ _ _ _ _ _)
   | (with_reducible exact ih2 _ _ _)
   | (with_reducible exact impl_NotChecked.mono _ _ _ _)
   | (with_reducible exact laws_eqCheckS.mono _ _ _)
   | (with_reducible exact laws_eqGearS.mono _ _ _)
   | (with_reducible exact laws_eqStringS.mono _ _ _)
   | (with_reducible exact laws_heldStringS.mono _ _ _)
   | (with_reducible exact laws_markCheckS.mono _ _ _)
   | (with_reducible exact laws_markGearS.mono _ _ _)
   | (with_reducible exact laws_markStringS.mono _ _ _)
   | (with_reducible exact laws_szCheckS.mono _ _ _)
   | (with_reducible exact laws_szGearS.mono _ _ _)
   | (with_reducible exact laws_toCheckS.mono _ _)
   | (with_reducible exact laws_toGearS.mono _ _)
   | (with_reducible exact spec_NotChecked.mono _ _ _ _)
   | (with_reducible exact LeO.refl _)
   | (with_reducible exact LeO.none _)
   | (with_reducible refine LeO.ite ?_ ?_)
   | (with_reducible refine LeO.bind ?_ (fun _ => ?_))
   | exact ih0 _ _ _ _ _ _ _ _ _ _
   | exact ih1 _ _ _ _ _ _ _
   | exact ih2 _ _ _
   | exact impl_NotChecked.mono _ _ _ _
   | exact laws_eqCheckS.mono _ _ _
   | exact laws_eqGearS.mono _ _ _
   | exact laws_eqStringS.mono _ _ _
   | exact laws_heldStringS.mono _ _ _
   | exact laws_markCheckS.mono _ _ _
   | exact laws_markGearS.mono _ _ _
   | exact laws_markStringS.mono _ _ _
   | exact laws_szCheckS.mono _ _ _
   | exact laws_szGearS.mono _ _ _
   | exact laws_toCheckS.mono _ _
   | exact laws_toGearS.mono _ _
   | exact spec_NotChecked.mono _ _ _ _
   | exact LeO.none _
   | refine LeO.ite ?_ ?_
   | refine LeO.bind ?_ (fun _ => ?_)
theorem laws_FnExactNotChecked.mono : ∀ a0 a1 a2 k, LeO (laws_FnExactNotChecked.f k a0 a1 a2) (laws_FnExactNotChecked.f (k + 1) a0 a1 a2) := by
 intro a0 a1 a2 k
 obtain ⟨ih0, ih1, ih2⟩ := laws_FnExactNotChecked.mono_l k
 unfold laws_FnExactNotChecked.f
 repeat' first
   | (with_reducible exact ih0 _ _ _ _ _ _ _ _ _ _)
   | (with_reducible exact ih1 _ _ _ _ _ _ _)
   | (with_reducible exact ih2 _ _ _)
   | (with_reducible exact impl_NotChecked.mono _ _ _ _)
   | (with_reducible exact laws_eqCheckS.mono _ _ _)
   | (with_reducible exact laws_eqGearS.mono _ _ _)
   | (with_reducible exact laws_eqStringS.mono _ _ _)
   | (with_reducible exact laws_heldStringS.mono _ _ _)
   | (with_reducible exact laws_markCheckS.mono _ _ _)
   | (with_reducible exact laws_markGearS.mono _ _ _)
   | (with_reducible exact laws_markStringS.mono _ _ _)
   | (with_reducible exact laws_szCheckS.mono _ _ _)
   | (with_reducible exact laws_szGearS.mono _ _ _)
   | (with_reducible exact laws_toCheckS.mono _ _)
   | (with_reducible exact laws_toGearS.mono _ _)
   | (with_reducible exact spec_NotChecked.mono _ _ _ _)
   | (with_reducible exact LeO.refl _)
   | (with_reducible exact LeO.none _)
   | (with_reducible refine LeO.ite ?_ ?_)
   | (with_reducible refine LeO.bind ?_ (fun _ => ?_))
   | exact ih0 _ _ _ _ _ _ _ _ _ _
   | exact ih1 _ _ _ _ _ _ _
   | exact ih2 _ _ _
   | exact impl_NotChecked.mono _ _ _ _
   | exact laws_eqCheckS.mono _ _ _
   | exact laws_eqGearS.mono _ _ _
   | exact laws_eqStringS.mono _ _ _
   | exact laws_heldStringS.mono _ _ _
   | exact laws_markCheckS.mono _ _ _
   | exact laws_markGearS.mono _ _ _
   | exact laws_markStringS.mono _ _ _
   | exact laws_szCheckS.mono _ _ _
   | exact laws_szGearS.mono _ _ _
   | exact laws_toCheckS.mono _ _
   | exact laws_toGearS.mono _ _
   | exact spec_NotChecked.mono _ _ _ _
   | exact LeO.none _
   | refine LeO.ite ?_ ?_
   | refine LeO.bind ?_ (fun _ => ?_)
set_option maxHeartbeats 8000000 in
set_option maxRecDepth 100000 in
theorem laws_FnExactNotChecked.calls (k : Nat) (A0 : Option Addr) (c0 : Nat) (l0 : List (S72)) (A1 : Option Addr) (c1 : Nat) (l1 : List (S49)) (a2 : Int) (r : Bool) (w : World) (hr0 : Kd.C k72 w A0 l0.length l0) (hc0 : l0.length ≤ c0) (hr1 : Kd.C k49 w A1 l1.length l1) (hc1 : l1.length ≤ c1) (h : laws_FnExactNotChecked.f k l0 l1 a2 = some r) :
  Calls Try.prog 11 #[.slice A0 l0.length c0, .slice A1 l1.length c1, .int .i64 a2] w fun e w' => e = .returned (.bool r) ∧ Below w.heap.size w w' := by
 have HR0 := Aside0.mk hr0
 have HC0 := Aside0.mk hc0
 clear hr0 hc0
 have HR1 := Aside0.mk hr1
 have HC1 := Aside0.mk hc1
 clear hr1 hc1
 have HB := Aside0.mk (Below.refl w.heap.size w)
 have H : ((laws_szGearS.f k l0 1048576).bind fun t693 => (if t693 < 0 then (some true) else ((laws_szCheckS.f k l1 t693).bind fun t694 => (if t694 < 0 then (some true) else ((laws_toGearS.f k l0).bind fun t695 => ((laws_toCheckS.f k l1).bind fun t698 => ((spec_NotChecked.f k t695 t698 a2).bind fun bt701 => ((laws_toGearS.f k l0).bind fun t705 => ((laws_toCheckS.f k l1).bind fun t708 => ((impl_NotChecked.f k t705 t708 a2).bind fun bt711 => ((laws_eqStringS.f k bt711.1 bt701.1).bind fun t715 => (if t715 = true then (laws_FnExactNotChecked.j0 k l0 l1 a2 bt701.1 bt701.2 t705 t708 bt711.1 bt711.2 (bt711.2 != bt701.2)) else (laws_FnExactNotChecked.j0 k l0 l1 a2 bt701.1 bt701.2 t705 t708 bt711.1 bt711.2 true))))))))))))) = some r := h
 clear h
 replace H := Option.bind_eq_some_iff.mp H
 obtain ⟨t693, A40, H⟩ := H
 replace H : (if t693 < 0 then (some true) else ((laws_szCheckS.f k l1 t693).bind fun t694 => (if t694 < 0 then (some true) else ((laws_toGearS.f k l0).bind fun t695 => ((laws_toCheckS.f k l1).bind fun t698 => ((spec_NotChecked.f k t695 t698 a2).bind fun bt701 => ((laws_toGearS.f k l0).bind fun t705 => ((laws_toCheckS.f k l1).bind fun t708 => ((impl_NotChecked.f k t705 t708 a2).bind fun bt711 => ((laws_eqStringS.f k bt711.1 bt701.1).bind fun t715 => (if t715 = true then (laws_FnExactNotChecked.j0 k l0 l1 a2 bt701.1 bt701.2 t705 t708 bt711.1 bt711.2 (bt711.2 != bt701.2)) else (laws_FnExactNotChecked.j0 k l0 l1 a2 bt701.1 bt701.2 t705 t708 bt711.1 bt711.2 true)))))))))))) = some r := H
 have A4 := Aside0.mk A40
 clear A40
 by_cases c5 : t693 < 0
 ·rw [if_pos c5] at H
  have c5b0 : decide (t693 < 0) = true := decide_eq_true c5
  clear c5
  obtain rfl := Option.some.inj H
  go_enter Try.func11, Try.ntmps11
  go_wp2_with (first | ((with_reducible refine gate_callee (f := 20) rfl ?_); refine goesL_ (some 21) rfl rfl Try.func20 (by kernel_rfl) rfl #[.slice A0 l0.length c0, .int .i64 1048576] rfl ln_ ?_; (with_reducible refine (laws_szGearS.calls k _ _ l0 1048576 t693 _ ?side1 ?side2 A4.out).mono ?_); (case side1 => exact kc_ HR0.out); (case side2 => exact HC0.out); rintro e w6 ⟨rfl, hb⟩; refine ⟨_, rfl, ?_⟩; have n0_ := Aside0.mk (below_step hb_ hb); clear HB; have HB := n0_; clear n0_; (try clear hb); (try clear hb2); (try clear hk); (try clear hi)))
  go_ret
  exact ⟨ew_, hb_⟩
 ·rw [if_neg c5] at H
  have c5b0 : decide (t693 < 0) = false := decide_eq_false c5
  clear c5
  replace H := Option.bind_eq_some_iff.mp H
  obtain ⟨t694, A70, H⟩ := H
  replace H : (if t694 < 0 then (some true) else ((laws_toGearS.f k l0).bind fun t695 => ((laws_toCheckS.f k l1).bind fun t698 => ((spec_NotChecked.f k t695 t698 a2).bind fun bt701 => ((laws_toGearS.f k l0).bind fun t705 => ((laws_toCheckS.f k l1).bind fun t708 => ((impl_NotChecked.f k t705 t708 a2).bind fun bt711 => ((laws_eqStringS.f k bt711.1 bt701.1).bind fun t715 => (if t715 = true then (laws_FnExactNotChecked.j0 k l0 l1 a2 bt701.1 bt701.2 t705 t708 bt711.1 bt711.2 (bt711.2 != bt701.2)) else (laws_FnExactNotChecked.j0 k l0 l1 a2 bt701.1 bt701.2 t705 t708 bt711.1 bt711.2 true)))))))))) = some r := H
  have A7 := Aside0.mk A70
  clear A70
  by_cases c8 : t694 < 0
  ·rw [if_pos c8] at H
   have c8b0 : decide (t694 < 0) = true := decide_eq_true c8
   clear c8
   obtain rfl := Option.some.inj H
   go_enter Try.func11, Try.ntmps11
   go_wp2_with (first | ((with_reducible refine gate_callee (f := 20) rfl ?_); refine goesL_ (some 21) rfl rfl Try.func20 (by kernel_rfl) rfl #[.slice A0 l0.length c0, .int .i64 1048576] rfl ln_ ?_; (with_reducible refine (laws_szGearS.calls k _ _ l0 1048576 t693 _ ?side1 ?side2 A4.out).mono ?_); (case side1 => exact kc_ HR0.out); (case side2 => exact HC0.out); rintro e w9 ⟨rfl, hb⟩; refine ⟨_, rfl, ?_⟩; have n0_ := Aside0.mk (below_step hb_ hb); clear HB; have HB := n0_; clear n0_; (try clear hb); (try clear hb2); (try clear hk); (try clear hi)) | ((with_reducible refine gate_callee (f := 15) rfl ?_); refine goesL_ (some 26) rfl rfl Try.func15 (by kernel_rfl) rfl #[.slice A1 l1.length c1, .int .i64 t693] rfl ln_ ?_; (with_reducible refine (laws_szCheckS.calls k _ _ l1 t693 t694 _ ?side1 ?side2 A7.out).mono ?_); (case side1 => exact kc_ (Kd.C_below HR1.out HB.out)); (case side2 => exact HC1.out); rintro e w10 ⟨rfl, hb⟩; refine ⟨_, rfl, ?_⟩; have n0_ := Aside0.mk (below_step hb_ hb); clear HB; have HB := n0_; clear n0_; (try clear hb); (try clear hb2); (try clear hk); (try clear hi)))
   go_ret
   exact ⟨ew_, hb_⟩
  ·rw [if_neg c8] at H
   have c8b0 : decide (t694 < 0) = false := decide_eq_false c8
   clear c8
   replace H := Option.bind_eq_some_iff.mp H
   obtain ⟨t695, A110, H⟩ := H
   replace H : ((laws_toCheckS.f k l1).bind fun t698 => ((spec_NotChecked.f k t695 t698 a2).bind fun bt701 => ((laws_toGearS.f k l0).bind fun t705 => ((laws_toCheckS.f k l1).bind fun t708 => ((impl_NotChecked.f k t705 t708 a2).bind fun bt711 => ((laws_eqStringS.f k bt711.1 bt701.1).bind fun t715 => (if t715 = true then (laws_FnExactNotChecked.j0 k l0 l1 a2 bt701.1 bt701.2 t705 t708 bt711.1 bt711.2 (bt711.2 != bt701.2)) else (laws_FnExactNotChecked.j0 k l0 l1 a2 bt701.1 bt701.2 t705 t708 bt711.1 bt711.2 true)))))))) = some r := H
   have A11 := Aside0.mk A110
   clear A110
   replace H := Option.bind_eq_some_iff.mp H
   obtain ⟨t698, A120, H⟩ := H
   replace H : ((spec_NotChecked.f k t695 t698 a2).bind fun bt701 => ((laws_toGearS.f k l0).bind fun t705 => ((laws_toCheckS.f k l1).bind fun t708 => ((impl_NotChecked.f k t705 t708 a2).bind fun bt711 => ((laws_eqStringS.f k bt711.1 bt701.1).bind fun t715 => (if t715 = true then (laws_FnExactNotChecked.j0 k l0 l1 a2 bt701.1 bt701.2 t705 t708 bt711.1 bt711.2 (bt711.2 != bt701.2)) else (laws_FnExactNotChecked.j0 k l0 l1 a2 bt701.1 bt701.2 t705 t708 bt711.1 bt711.2 true))))))) = some r := H
   have A12 := Aside0.mk A120
   clear A120
   replace H := Option.bind_eq_some_iff.mp H
   obtain ⟨⟨t701, t702⟩, A130, H⟩ := H
   replace H : ((laws_toGearS.f k l0).bind fun t705 => ((laws_toCheckS.f k l1).bind fun t708 => ((impl_NotChecked.f k t705 t708 a2).bind fun bt711 => ((laws_eqStringS.f k bt711.1 t701).bind fun t715 => (if t715 = true then (laws_FnExactNotChecked.j0 k l0 l1 a2 t701 t702 t705 t708 bt711.1 bt711.2 (bt711.2 != t702)) else (laws_FnExactNotChecked.j0 k l0 l1 a2 t701 t702 t705 t708 bt711.1 bt711.2 true)))))) = some r := H
   have A13 := Aside0.mk A130
   clear A130
   replace H := Option.bind_eq_some_iff.mp H
   obtain ⟨t705, A140, H⟩ := H
   replace H : ((laws_toCheckS.f k l1).bind fun t708 => ((impl_NotChecked.f k t705 t708 a2).bind fun bt711 => ((laws_eqStringS.f k bt711.1 t701).bind fun t715 => (if t715 = true then (laws_FnExactNotChecked.j0 k l0 l1 a2 t701 t702 t705 t708 bt711.1 bt711.2 (bt711.2 != t702)) else (laws_FnExactNotChecked.j0 k l0 l1 a2 t701 t702 t705 t708 bt711.1 bt711.2 true))))) = some r := H
   have A14 := Aside0.mk A140
   clear A140
   replace H := Option.bind_eq_some_iff.mp H
   obtain ⟨t708, A150, H⟩ := H
   replace H : ((impl_NotChecked.f k t705 t708 a2).bind fun bt711 => ((laws_eqStringS.f k bt711.1 t701).bind fun t715 => (if t715 = true then (laws_FnExactNotChecked.j0 k l0 l1 a2 t701 t702 t705 t708 bt711.1 bt711.2 (bt711.2 != t702)) else (laws_FnExactNotChecked.j0 k l0 l1 a2 t701 t702 t705 t708 bt711.1 bt711.2 true)))) = some r := H
   have A15 := Aside0.mk A150
   clear A150
   replace H := Option.bind_eq_some_iff.mp H
   obtain ⟨⟨t711, t712⟩, A160, H⟩ := H
   replace H : ((laws_eqStringS.f k t711 t701).bind fun t715 => (if t715 = true then (laws_FnExactNotChecked.j0 k l0 l1 a2 t701 t702 t705 t708 t711 t712 (t712 != t702)) else (laws_FnExactNotChecked.j0 k l0 l1 a2 t701 t702 t705 t708 t711 t712 true))) = some r := H
   have A16 := Aside0.mk A160
   clear A160
   have HC17 := Aside0.mk H
   clear H
   go_enter Try.func11, Try.ntmps11
   go_upto_region 12 with (first | ((with_reducible refine gate_callee (f := 20) rfl ?_); refine goesL_ (some 21) rfl rfl Try.func20 (by kernel_rfl) rfl #[.slice A0 l0.length c0, .int .i64 1048576] rfl ln_ ?_; (with_reducible refine (laws_szGearS.calls k _ _ l0 1048576 t693 _ ?side1 ?side2 A4.out).mono ?_); (case side1 => exact kc_ HR0.out); (case side2 => exact HC0.out); rintro e w18 ⟨rfl, hb⟩; refine ⟨_, rfl, ?_⟩; have n0_ := Aside0.mk (below_step hb_ hb); clear HB; have HB := n0_; clear n0_; (try clear hb); (try clear hb2); (try clear hk); (try clear hi)) | ((with_reducible refine gate_callee (f := 15) rfl ?_); refine goesL_ (some 26) rfl rfl Try.func15 (by kernel_rfl) rfl #[.slice A1 l1.length c1, .int .i64 t693] rfl ln_ ?_; (with_reducible refine (laws_szCheckS.calls k _ _ l1 t693 t694 _ ?side1 ?side2 A7.out).mono ?_); (case side1 => exact kc_ (Kd.C_below HR1.out HB.out)); (case side2 => exact HC1.out); rintro e w19 ⟨rfl, hb⟩; refine ⟨_, rfl, ?_⟩; have n0_ := Aside0.mk (below_step hb_ hb); clear HB; have HB := n0_; clear n0_; (try clear hb); (try clear hb2); (try clear hk); (try clear hi)) | ((with_reducible refine gate_callee (f := 22) rfl ?_); refine goesL_ (some 31) rfl rfl Try.func22 (by kernel_rfl) rfl #[.slice A0 l0.length c0] rfl ln_ ?_; (with_reducible refine (laws_toGearS.calls k _ _ l0 t695 _ ?side1 ?side2 A11.out).mono ?_); (case side1 => exact kc_ (Kd.C_below HR0.out HB.out)); (case side2 => exact HC0.out); rintro e w20 ⟨v696, rfl, ho0, hb⟩; refine ⟨_, rfl, ?_⟩; have n0_ := Aside0.mk (Kd.R_lower ho0 (below_size hb_)); have n1_ := Aside0.mk (below_step hb_ hb); clear HB; have HO697 := n0_; have HB := n1_; clear n0_ n1_; (try clear hb); (try clear hb2); (try clear hk); (try clear hi); (try clear ho0)) | ((with_reducible refine gate_callee (f := 17) rfl ?_); refine goesL_ (some 33) rfl rfl Try.func17 (by kernel_rfl) rfl #[.slice A1 l1.length c1] rfl ln_ ?_; (with_reducible refine (laws_toCheckS.calls k _ _ l1 t698 _ ?side1 ?side2 A12.out).mono ?_); (case side1 => exact kc_ (Kd.C_below HR1.out HB.out)); (case side2 => exact HC1.out); rintro e w21 ⟨v699, rfl, ho0, hb⟩; refine ⟨_, rfl, ?_⟩; have n0_ := Aside0.mk (Kd.R_below (kr_ HO697) hb); have n1_ := Aside0.mk (Kd.R_lower ho0 (below_size hb_)); have n2_ := Aside0.mk (below_step hb_ hb); clear HO697; clear HB; have HO697 := n0_; have HO700 := n1_; have HB := n2_; clear n0_ n1_ n2_; (try clear hb); (try clear hb2); (try clear hk); (try clear hi); (try clear ho0); obtain ⟨Ao22, co22, eo22⟩ := Kd.R_slice HO697.out; subst eo22; obtain ⟨Ao23, co23, eo23⟩ := Kd.R_slice HO700.out; subst eo23) | ((with_reducible refine gate_callee (f := 43) rfl ?_); refine goesL_ (some 35) rfl rfl Try.func43 (by kernel_rfl) rfl #[.slice Ao22 t695.length co22, .slice Ao23 t698.length co23, .int .i64 a2] rfl ln_ ?_; (with_reducible refine (spec_NotChecked.calls k _ _ t695 _ _ t698 a2 t701 t702 _ ?side1 ?side2 ?side3 ?side4 A13.out).mono ?_); (case side1 => repeat (first | exact (Kd.R_reads' HO697.out).2.2 | (with_reducible refine Kd.C_alloc ?_ _) | (with_reducible refine Kd.C_drewN ?_ _) | (with_reducible refine Kd.C_drew ?_))); (case side2 => exact (Kd.R_reads' HO697.out).2.1); (case side3 => repeat (first | exact (Kd.R_reads' HO700.out).2.2 | (with_reducible refine Kd.C_alloc ?_ _) | (with_reducible refine Kd.C_drewN ?_ _) | (with_reducible refine Kd.C_drew ?_))); (case side4 => exact (Kd.R_reads' HO700.out).2.1); rintro e w24 ⟨v703, rfl, ho0, hb⟩; refine ⟨_, rfl, ?_⟩; have n0_ := Aside0.mk (Kd.R_below (kr_ HO697) hb); have n1_ := Aside0.mk (Kd.R_below (kr_ HO700) hb); have n2_ := Aside0.mk (Kd.R_lower ho0 (below_size hb_)); have n3_ := Aside0.mk (below_step hb_ hb); clear HO697; clear HO700; clear HB; have HO697 := n0_; have HO700 := n1_; have HO704 := n2_; have HB := n3_; clear n0_ n1_ n2_ n3_; (try clear hb); (try clear hb2); (try clear hk); (try clear hi); (try clear ho0)) | ((with_reducible refine gate_callee (f := 22) rfl ?_); refine goesL_ (some 39) rfl rfl Try.func22 (by kernel_rfl) rfl #[.slice A0 l0.length c0] rfl ln_ ?_; (with_reducible refine (laws_toGearS.calls k _ _ l0 t705 _ ?side1 ?side2 A14.out).mono ?_); (case side1 => exact kc_ (Kd.C_below HR0.out HB.out)); (case side2 => exact HC0.out); rintro e w25 ⟨v706, rfl, ho0, hb⟩; refine ⟨_, rfl, ?_⟩; have n0_ := Aside0.mk (Kd.R_elder' (kr_ HO697) (Kd.R_base ho0) hb); have n1_ := Aside0.mk (Kd.R_below (kr_ HO700) hb); have n2_ := Aside0.mk (Kd.R_below (kr_ HO704) hb); have n3_ := Aside0.mk (Kd.R_lower (Kd.R_new' ho0 (Kd.R_lt (kr_ HO697))) (below_size hb_)); have n4_ := Aside0.mk (below_step hb_ hb); clear HO697; clear HO700; clear HO704; clear HB; have HO697 := n0_; have HO700 := n1_; have HO704 := n2_; have HO707 := n3_; have HB := n4_; clear n0_ n1_ n2_ n3_ n4_; (try clear hb); (try clear hb2); (try clear hk); (try clear hi); (try clear ho0)) | ((with_reducible refine gate_callee (f := 17) rfl ?_); refine goesL_ (some 41) rfl rfl Try.func17 (by kernel_rfl) rfl #[.slice A1 l1.length c1] rfl ln_ ?_; (with_reducible refine (laws_toCheckS.calls k _ _ l1 t708 _ ?side1 ?side2 A15.out).mono ?_); (case side1 => exact kc_ (Kd.C_below HR1.out HB.out)); (case side2 => exact HC1.out); rintro e w26 ⟨v709, rfl, ho0, hb⟩; refine ⟨_, rfl, ?_⟩; have n0_ := Aside0.mk (Kd.R_below (kr_ HO697) hb); have n1_ := Aside0.mk (Kd.R_elder' (kr_ HO700) (Kd.R_base ho0) hb); have n2_ := Aside0.mk (Kd.R_below (kr_ HO704) hb); have n3_ := Aside0.mk (Kd.R_below (kr_ HO707) hb); have n4_ := Aside0.mk (Kd.R_lower (Kd.R_new' ho0 (Kd.R_lt (kr_ HO700))) (below_size hb_)); have n5_ := Aside0.mk (below_step hb_ hb); clear HO697; clear HO700; clear HO704; clear HO707; clear HB; have HO697 := n0_; have HO700 := n1_; have HO704 := n2_; have HO707 := n3_; have HO710 := n4_; have HB := n5_; clear n0_ n1_ n2_ n3_ n4_ n5_; (try clear hb); (try clear hb2); (try clear hk); (try clear hi); (try clear ho0); obtain ⟨Ao27, co27, eo27⟩ := Kd.R_slice HO707.out; subst eo27; obtain ⟨Ao28, co28, eo28⟩ := Kd.R_slice HO710.out; subst eo28) | ((with_reducible refine gate_callee (f := 44) rfl ?_); refine goesL_ (some 46) rfl rfl Try.func44 (by kernel_rfl) rfl #[.slice Ao27 t705.length co27, .slice Ao28 t708.length co28, .int .i64 a2] rfl ln_ ?_; (with_reducible refine (impl_NotChecked.calls k _ _ t705 _ _ t708 a2 t711 t712 _ ?side1 ?side2 ?side3 ?side4 A16.out).mono ?_); (case side1 => repeat (first | exact (Kd.R_reads' HO707.out).2.2 | (with_reducible refine Kd.C_alloc ?_ _) | (with_reducible refine Kd.C_drewN ?_ _) | (with_reducible refine Kd.C_drew ?_))); (case side2 => exact (Kd.R_reads' HO707.out).2.1); (case side3 => repeat (first | exact (Kd.R_reads' HO710.out).2.2 | (with_reducible refine Kd.C_alloc ?_ _) | (with_reducible refine Kd.C_drewN ?_ _) | (with_reducible refine Kd.C_drew ?_))); (case side4 => exact (Kd.R_reads' HO710.out).2.1); rintro e w29 ⟨v713, rfl, ho0, hb⟩; refine ⟨_, rfl, ?_⟩; have n0_ := Aside0.mk (Kd.R_below (kr_ HO697) hb); have n1_ := Aside0.mk (Kd.R_below (kr_ HO700) hb); have n2_ := Aside0.mk (Kd.R_elder' (kr_ HO704) (Kd.R_base ho0) hb); have n3_ := Aside0.mk (Kd.R_below (kr_ HO707) hb); have n4_ := Aside0.mk (Kd.R_below (kr_ HO710) hb); have n5_ := Aside0.mk (Kd.R_lower (Kd.R_new' ho0 (Kd.R_lt (kr_ HO704))) (below_size hb_)); have n6_ := Aside0.mk (below_step hb_ hb); clear HO697; clear HO700; clear HO704; clear HO707; clear HO710; clear HB; have HO697 := n0_; have HO700 := n1_; have HO704 := n2_; have HO707 := n3_; have HO710 := n4_; have HO714 := n5_; have HB := n6_; clear n0_ n1_ n2_ n3_ n4_ n5_ n6_; (try clear hb); (try clear hb2); (try clear hk); (try clear hi); (try clear ho0)))
   (try simp only [Act.put, List.setIfInBounds_toArray, List.set_cons_zero, List.set_cons_succ])
   go_cut [57] (fun v57 wc => ∃ (kq : Nat) (x57_16 : Bool), v57 = .bool x57_16 ∧ Aside0 (laws_FnExactNotChecked.j0 kq l0 l1 a2 t701 t702 t705 t708 t711 t712 x57_16 = some r) ∧ Aside0 (kq ≤ k) ∧ Aside0 (Kd.R Kd.string 9 wc w.heap.size (fun k_ => some k_ ≠ (v713 : Value).ownBlock) v703 t701) ∧ Aside0 (Kd.R k73 73 wc w.heap.size (fun _ => True) (.slice Ao27 t705.length co27) t705) ∧ Aside0 (Kd.R k53 53 wc w.heap.size (fun _ => True) (.slice Ao28 t708.length co28) t708) ∧ Aside0 (Kd.R Kd.string 9 wc w.heap.size (fun k_ => some k_ ≠ (v703 : Value).ownBlock) v713 t711) ∧ Aside0 (Below w.heap.size w wc))
   case first =>
    have H := HC17.out
    clear HC17
    replace H := Option.bind_eq_some_iff.mp H
    obtain ⟨t715, A300, H⟩ := H
    replace H : (if t715 = true then (laws_FnExactNotChecked.j0 k l0 l1 a2 t701 t702 t705 t708 t711 t712 (t712 != t702)) else (laws_FnExactNotChecked.j0 k l0 l1 a2 t701 t702 t705 t708 t711 t712 true)) = some r := H
    have A30 := Aside0.mk A300
    clear A300
    by_cases c31 : t715 = true
    ·subst c31
     have H1 : (laws_FnExactNotChecked.j0 k l0 l1 a2 t701 t702 t705 t708 t711 t712 (t712 != t702)) = some r := by rw [if_pos rfl] at H; exact H
     clear H
     have H := H1
     clear H1
     have H' := Aside0.mk H
     clear H
     obtain ⟨Ao32, co32, eo32⟩ := Kd.R_slice HO714.out
     subst eo32
     obtain ⟨Ao33, co33, eo33⟩ := Kd.R_slice HO704.out
     subst eo33
     go_wp2_with (first | ((with_reducible refine gate_callee (f := 45) rfl ?_); refine goesL_ (some 51) rfl rfl Try.func45 (by kernel_rfl) rfl #[.slice Ao32 t711.length co32, .slice Ao33 t701.length co33] rfl ln_ ?_; (with_reducible refine (laws_eqStringS.calls k _ _ t711 _ _ t701 true _ ?side1 ?side2 ?side3 ?side4 A30.out).mono ?_); (case side1 => repeat (first | exact (Kd.R_reads' HO714.out).2.2 | (with_reducible refine Kd.C_alloc ?_ _) | (with_reducible refine Kd.C_drewN ?_ _) | (with_reducible refine Kd.C_drew ?_))); (case side2 => exact (Kd.R_reads' HO714.out).2.1); (case side3 => repeat (first | exact (Kd.R_reads' HO704.out).2.2 | (with_reducible refine Kd.C_alloc ?_ _) | (with_reducible refine Kd.C_drewN ?_ _) | (with_reducible refine Kd.C_drew ?_))); (case side4 => exact (Kd.R_reads' HO704.out).2.1); rintro e w' ⟨rfl, ⟨nd, rfl⟩⟩; refine ⟨_, rfl, ?_⟩))
     go_meet
     case rel => exact ⟨_, ((t712 != t702)), (by first | rfl | (simp; done) | (simp [*]; done)), H', ⟨by first | omega | exact Nat.le_refl _⟩, ⟨by (with_reducible repeat (first | apply Kd.R_alloc | apply Kd.R_drewN | apply Kd.R_drew)); exact Kd.R_mono HO704.out (fun _ hk => hk.2)⟩, ⟨by (with_reducible repeat (first | apply Kd.R_alloc | apply Kd.R_drewN | apply Kd.R_drew)); exact Kd.R_mono HO707.out (fun _ hk => trivial)⟩, ⟨by (with_reducible repeat (first | apply Kd.R_alloc | apply Kd.R_drewN | apply Kd.R_drew)); exact Kd.R_mono HO710.out (fun _ hk => trivial)⟩, ⟨by (with_reducible repeat (first | apply Kd.R_alloc | apply Kd.R_drewN | apply Kd.R_drew)); exact Kd.R_mono HO714.out (fun _ hk => hk.2)⟩, ⟨hb_⟩⟩
    ·replace c31 := Bool.eq_false_iff.mpr c31
     subst c31
     have H1 : (laws_FnExactNotChecked.j0 k l0 l1 a2 t701 t702 t705 t708 t711 t712 true) = some r := by rw [if_neg (show ¬ (false = true) by decide)] at H; exact H
     clear H
     have H := H1
     clear H1
     have H' := Aside0.mk H
     clear H
     obtain ⟨Ao34, co34, eo34⟩ := Kd.R_slice HO714.out
     subst eo34
     obtain ⟨Ao35, co35, eo35⟩ := Kd.R_slice HO704.out
     subst eo35
     go_wp2_with (first | ((with_reducible refine gate_callee (f := 45) rfl ?_); refine goesL_ (some 51) rfl rfl Try.func45 (by kernel_rfl) rfl #[.slice Ao34 t711.length co34, .slice Ao35 t701.length co35] rfl ln_ ?_; (with_reducible refine (laws_eqStringS.calls k _ _ t711 _ _ t701 false _ ?side1 ?side2 ?side3 ?side4 A30.out).mono ?_); (case side1 => repeat (first | exact (Kd.R_reads' HO714.out).2.2 | (with_reducible refine Kd.C_alloc ?_ _) | (with_reducible refine Kd.C_drewN ?_ _) | (with_reducible refine Kd.C_drew ?_))); (case side2 => exact (Kd.R_reads' HO714.out).2.1); (case side3 => repeat (first | exact (Kd.R_reads' HO704.out).2.2 | (with_reducible refine Kd.C_alloc ?_ _) | (with_reducible refine Kd.C_drewN ?_ _) | (with_reducible refine Kd.C_drew ?_))); (case side4 => exact (Kd.R_reads' HO704.out).2.1); rintro e w' ⟨rfl, ⟨nd, rfl⟩⟩; refine ⟨_, rfl, ?_⟩))
     go_meet
     case rel => exact ⟨_, (true), (by first | rfl | (simp; done) | (simp [*]; done)), H', ⟨by first | omega | exact Nat.le_refl _⟩, ⟨by (with_reducible repeat (first | apply Kd.R_alloc | apply Kd.R_drewN | apply Kd.R_drew)); exact Kd.R_mono HO704.out (fun _ hk => hk.2)⟩, ⟨by (with_reducible repeat (first | apply Kd.R_alloc | apply Kd.R_drewN | apply Kd.R_drew)); exact Kd.R_mono HO707.out (fun _ hk => trivial)⟩, ⟨by (with_reducible repeat (first | apply Kd.R_alloc | apply Kd.R_drewN | apply Kd.R_drew)); exact Kd.R_mono HO710.out (fun _ hk => trivial)⟩, ⟨by (with_reducible repeat (first | apply Kd.R_alloc | apply Kd.R_drewN | apply Kd.R_drew)); exact Kd.R_mono HO714.out (fun _ hk => hk.2)⟩, ⟨hb_⟩⟩
   case rest =>
    clear HC17
    try clear c1
    try clear c2
    try clear p2
    try clear c3
    try clear c4
    try clear c5
    try clear c5b0
    try clear c8
    try clear c8b0
    try clear c11
    try clear c15
    try clear c17
    try clear c20
    try clear c22
    try clear c31
    obtain ⟨kq, x57_16, rfl, HA, HJ16, HO_8, HO_10, HO_11, HO_12, HB⟩ := hcut
    cases kq with
    | zero => exact absurd HA.out (by simp [laws_FnExactNotChecked.j0])
    | succ kj16 =>
     have H := HA.out
     clear HA
     simp only [laws_FnExactNotChecked.j0] at H
     by_cases c36 : x57_16 = true
     ·subst c36
      have H1 : (some false) = some r := by rw [if_pos rfl] at H; exact H
      clear H
      have H := H1
      clear H1
      obtain rfl := Option.some.inj H
      go_wp2
      go_ret
      exact ⟨ew_, hb_⟩
     ·replace c36 := Bool.eq_false_iff.mpr c36
      subst c36
      have H1 : ((laws_toGearS.f kj16 l0).bind fun t716 => ((laws_eqGearS.f kj16 t705 t716).bind fun t719 => (if t719 = true then ((laws_toCheckS.f kj16 l1).bind fun t720 => ((laws_eqCheckS.f kj16 t708 t720).bind fun t723 => (if t723 = true then ((laws_markGearS.f kj16 t705 1).bind fun bt724 => ((laws_markCheckS.f kj16 t708 bt724.1).bind fun bt726 => (if bt726.1 < 0 then (laws_FnExactNotChecked.j1 kj16 l0 l1 a2 t701 t702 t711 true) else ((laws_eqStringS.f kj16 t711 t701).bind fun t728 => (if t728 = true then (laws_FnExactNotChecked.j1 kj16 l0 l1 a2 t701 t702 t711 (t712 != t702)) else (laws_FnExactNotChecked.j1 kj16 l0 l1 a2 t701 t702 t711 true)))))) else (some false)))) else (some false)))) = some r := by rw [if_neg (show ¬ (false = true) by decide)] at H; exact H
      clear H
      have H := H1
      clear H1
      replace H := Option.bind_eq_some_iff.mp H
      obtain ⟨t716, A370, H⟩ := H
      replace H : ((laws_eqGearS.f kj16 t705 t716).bind fun t719 => (if t719 = true then ((laws_toCheckS.f kj16 l1).bind fun t720 => ((laws_eqCheckS.f kj16 t708 t720).bind fun t723 => (if t723 = true then ((laws_markGearS.f kj16 t705 1).bind fun bt724 => ((laws_markCheckS.f kj16 t708 bt724.1).bind fun bt726 => (if bt726.1 < 0 then (laws_FnExactNotChecked.j1 kj16 l0 l1 a2 t701 t702 t711 true) else ((laws_eqStringS.f kj16 t711 t701).bind fun t728 => (if t728 = true then (laws_FnExactNotChecked.j1 kj16 l0 l1 a2 t701 t702 t711 (t712 != t702)) else (laws_FnExactNotChecked.j1 kj16 l0 l1 a2 t701 t702 t711 true)))))) else (some false)))) else (some false))) = some r := H
      have A37 := Aside0.mk A370
      clear A370
      replace H := Option.bind_eq_some_iff.mp H
      obtain ⟨t719, A380, H⟩ := H
      replace H : (if t719 = true then ((laws_toCheckS.f kj16 l1).bind fun t720 => ((laws_eqCheckS.f kj16 t708 t720).bind fun t723 => (if t723 = true then ((laws_markGearS.f kj16 t705 1).bind fun bt724 => ((laws_markCheckS.f kj16 t708 bt724.1).bind fun bt726 => (if bt726.1 < 0 then (laws_FnExactNotChecked.j1 kj16 l0 l1 a2 t701 t702 t711 true) else ((laws_eqStringS.f kj16 t711 t701).bind fun t728 => (if t728 = true then (laws_FnExactNotChecked.j1 kj16 l0 l1 a2 t701 t702 t711 (t712 != t702)) else (laws_FnExactNotChecked.j1 kj16 l0 l1 a2 t701 t702 t711 true)))))) else (some false)))) else (some false)) = some r := H
      have A38 := Aside0.mk A380
      clear A380
      by_cases c39 : t719 = true
      ·subst c39
       have H1 : ((laws_toCheckS.f kj16 l1).bind fun t720 => ((laws_eqCheckS.f kj16 t708 t720).bind fun t723 => (if t723 = true then ((laws_markGearS.f kj16 t705 1).bind fun bt724 => ((laws_markCheckS.f kj16 t708 bt724.1).bind fun bt726 => (if bt726.1 < 0 then (laws_FnExactNotChecked.j1 kj16 l0 l1 a2 t701 t702 t711 true) else ((laws_eqStringS.f kj16 t711 t701).bind fun t728 => (if t728 = true then (laws_FnExactNotChecked.j1 kj16 l0 l1 a2 t701 t702 t711 (t712 != t702)) else (laws_FnExactNotChecked.j1 kj16 l0 l1 a2 t701 t702 t711 true)))))) else (some false)))) = some r := by rw [if_pos rfl] at H; exact H
       clear H
       have H := H1
       clear H1
       replace H := Option.bind_eq_some_iff.mp H
       obtain ⟨t720, A400, H⟩ := H
       replace H : ((laws_eqCheckS.f kj16 t708 t720).bind fun t723 => (if t723 = true then ((laws_markGearS.f kj16 t705 1).bind fun bt724 => ((laws_markCheckS.f kj16 t708 bt724.1).bind fun bt726 => (if bt726.1 < 0 then (laws_FnExactNotChecked.j1 kj16 l0 l1 a2 t701 t702 t711 true) else ((laws_eqStringS.f kj16 t711 t701).bind fun t728 => (if t728 = true then (laws_FnExactNotChecked.j1 kj16 l0 l1 a2 t701 t702 t711 (t712 != t702)) else (laws_FnExactNotChecked.j1 kj16 l0 l1 a2 t701 t702 t711 true)))))) else (some false))) = some r := H
       have A40 := Aside0.mk A400
       clear A400
       replace H := Option.bind_eq_some_iff.mp H
       obtain ⟨t723, A410, H⟩ := H
       replace H : (if t723 = true then ((laws_markGearS.f kj16 t705 1).bind fun bt724 => ((laws_markCheckS.f kj16 t708 bt724.1).bind fun bt726 => (if bt726.1 < 0 then (laws_FnExactNotChecked.j1 kj16 l0 l1 a2 t701 t702 t711 true) else ((laws_eqStringS.f kj16 t711 t701).bind fun t728 => (if t728 = true then (laws_FnExactNotChecked.j1 kj16 l0 l1 a2 t701 t702 t711 (t712 != t702)) else (laws_FnExactNotChecked.j1 kj16 l0 l1 a2 t701 t702 t711 true)))))) else (some false)) = some r := H
       have A41 := Aside0.mk A410
       clear A410
       by_cases c42 : t723 = true
       ·subst c42
        have H1 : ((laws_markGearS.f kj16 t705 1).bind fun bt724 => ((laws_markCheckS.f kj16 t708 bt724.1).bind fun bt726 => (if bt726.1 < 0 then (laws_FnExactNotChecked.j1 kj16 l0 l1 a2 t701 t702 t711 true) else ((laws_eqStringS.f kj16 t711 t701).bind fun t728 => (if t728 = true then (laws_FnExactNotChecked.j1 kj16 l0 l1 a2 t701 t702 t711 (t712 != t702)) else (laws_FnExactNotChecked.j1 kj16 l0 l1 a2 t701 t702 t711 true)))))) = some r := by rw [if_pos rfl] at H; exact H
        clear H
        have H := H1
        clear H1
        replace H := Option.bind_eq_some_iff.mp H
        obtain ⟨⟨t724, t725⟩, A430, H⟩ := H
        replace H : ((laws_markCheckS.f kj16 t708 t724).bind fun bt726 => (if bt726.1 < 0 then (laws_FnExactNotChecked.j1 kj16 l0 l1 a2 t701 t702 t711 true) else ((laws_eqStringS.f kj16 t711 t701).bind fun t728 => (if t728 = true then (laws_FnExactNotChecked.j1 kj16 l0 l1 a2 t701 t702 t711 (t712 != t702)) else (laws_FnExactNotChecked.j1 kj16 l0 l1 a2 t701 t702 t711 true))))) = some r := H
        have A43 := Aside0.mk A430
        clear A430
        replace H := Option.bind_eq_some_iff.mp H
        obtain ⟨⟨t726, t727⟩, A440, H⟩ := H
        replace H : (if t726 < 0 then (laws_FnExactNotChecked.j1 kj16 l0 l1 a2 t701 t702 t711 true) else ((laws_eqStringS.f kj16 t711 t701).bind fun t728 => (if t728 = true then (laws_FnExactNotChecked.j1 kj16 l0 l1 a2 t701 t702 t711 (t712 != t702)) else (laws_FnExactNotChecked.j1 kj16 l0 l1 a2 t701 t702 t711 true)))) = some r := H
        have A44 := Aside0.mk A440
        clear A440
        have HC45 := Aside0.mk H
        clear H
        go_upto_region 21 with (first | ((with_reducible refine gate_callee (f := 22) rfl ?_); refine goesL_ (some 60) rfl rfl Try.func22 (by kernel_rfl) rfl #[.slice A0 l0.length c0] rfl ln_ ?_; (with_reducible refine (laws_toGearS.calls kj16 _ _ l0 t716 _ ?side1 ?side2 A37.out).mono ?_); (case side1 => exact kc_ (Kd.C_below HR0.out HB.out)); (case side2 => exact HC0.out); rintro e w46 ⟨v717, rfl, ho0, hb⟩; refine ⟨_, rfl, ?_⟩; have n0_ := Aside0.mk (Kd.R_below (kr_ HO_8) hb); have n1_ := Aside0.mk (Kd.R_elder' (kr_ HO_10) (Kd.R_base ho0) hb); have n2_ := Aside0.mk (Kd.R_below (kr_ HO_11) hb); have n3_ := Aside0.mk (Kd.R_below (kr_ HO_12) hb); have n4_ := Aside0.mk (Kd.R_lower (Kd.R_new' ho0 (Kd.R_lt (kr_ HO_10))) (below_size hb_)); have n5_ := Aside0.mk (below_step hb_ hb); clear HO_8; clear HO_10; clear HO_11; clear HO_12; clear HB; have HO_8 := n0_; have HO_10 := n1_; have HO_11 := n2_; have HO_12 := n3_; have HO718 := n4_; have HB := n5_; clear n0_ n1_ n2_ n3_ n4_ n5_; (try clear hb); (try clear hb2); (try clear hk); (try clear hi); (try clear ho0); obtain ⟨Ao47, co47, eo47⟩ := Kd.R_slice HO718.out; subst eo47) | ((with_reducible refine gate_callee (f := 24) rfl ?_); refine goesL_ (some 61) rfl rfl Try.func24 (by kernel_rfl) rfl #[.slice Ao27 t705.length co27, .slice Ao47 t716.length co47] rfl ln_ ?_; (with_reducible refine (laws_eqGearS.calls kj16 _ _ t705 _ _ t716 true _ ?side1 ?side2 ?side3 ?side4 A38.out).mono ?_); (case side1 => repeat (first | exact (Kd.R_reads' HO_10.out).2.2 | (with_reducible refine Kd.C_alloc ?_ _) | (with_reducible refine Kd.C_drewN ?_ _) | (with_reducible refine Kd.C_drew ?_))); (case side2 => exact (Kd.R_reads' HO_10.out).2.1); (case side3 => repeat (first | exact (Kd.R_reads' HO718.out).2.2 | (with_reducible refine Kd.C_alloc ?_ _) | (with_reducible refine Kd.C_drewN ?_ _) | (with_reducible refine Kd.C_drew ?_))); (case side4 => exact (Kd.R_reads' HO718.out).2.1); rintro e w48 ⟨rfl, hb⟩; refine ⟨_, rfl, ?_⟩; have n0_ := Aside0.mk (Kd.R_below (kr_ HO_8) hb); have n1_ := Aside0.mk (Kd.R_below (kr_ HO_10) hb); have n2_ := Aside0.mk (Kd.R_below (kr_ HO_11) hb); have n3_ := Aside0.mk (Kd.R_below (kr_ HO_12) hb); have n4_ := Aside0.mk (Kd.R_below (kr_ HO718) hb); have n5_ := Aside0.mk (below_step hb_ hb); clear HO_8; clear HO_10; clear HO_11; clear HO_12; clear HO718; clear HB; have HO_8 := n0_; have HO_10 := n1_; have HO_11 := n2_; have HO_12 := n3_; have HO718 := n4_; have HB := n5_; clear n0_ n1_ n2_ n3_ n4_ n5_; (try clear hb); (try clear hb2); (try clear hk); (try clear hi)) | ((with_reducible refine gate_callee (f := 17) rfl ?_); refine goesL_ (some 65) rfl rfl Try.func17 (by kernel_rfl) rfl #[.slice A1 l1.length c1] rfl ln_ ?_; (with_reducible refine (laws_toCheckS.calls kj16 _ _ l1 t720 _ ?side1 ?side2 A40.out).mono ?_); (case side1 => exact kc_ (Kd.C_below HR1.out HB.out)); (case side2 => exact HC1.out); rintro e w49 ⟨v721, rfl, ho0, hb⟩; refine ⟨_, rfl, ?_⟩; have n0_ := Aside0.mk (Kd.R_below (kr_ HO_8) hb); have n1_ := Aside0.mk (Kd.R_below (kr_ HO_10) hb); have n2_ := Aside0.mk (Kd.R_elder' (kr_ HO_11) (Kd.R_base ho0) hb); have n3_ := Aside0.mk (Kd.R_below (kr_ HO_12) hb); have n4_ := Aside0.mk (Kd.R_below (kr_ HO718) hb); have n5_ := Aside0.mk (Kd.R_lower (Kd.R_new' ho0 (Kd.R_lt (kr_ HO_11))) (below_size hb_)); have n6_ := Aside0.mk (below_step hb_ hb); clear HO_8; clear HO_10; clear HO_11; clear HO_12; clear HO718; clear HB; have HO_8 := n0_; have HO_10 := n1_; have HO_11 := n2_; have HO_12 := n3_; have HO718 := n4_; have HO722 := n5_; have HB := n6_; clear n0_ n1_ n2_ n3_ n4_ n5_ n6_; (try clear hb); (try clear hb2); (try clear hk); (try clear hi); (try clear ho0); obtain ⟨Ao50, co50, eo50⟩ := Kd.R_slice HO722.out; subst eo50) | ((with_reducible refine gate_callee (f := 19) rfl ?_); refine goesL_ (some 66) rfl rfl Try.func19 (by kernel_rfl) rfl #[.slice Ao28 t708.length co28, .slice Ao50 t720.length co50] rfl ln_ ?_; (with_reducible refine (laws_eqCheckS.calls kj16 _ _ t708 _ _ t720 true _ ?side1 ?side2 ?side3 ?side4 A41.out).mono ?_); (case side1 => repeat (first | exact (Kd.R_reads' HO_11.out).2.2 | (with_reducible refine Kd.C_alloc ?_ _) | (with_reducible refine Kd.C_drewN ?_ _) | (with_reducible refine Kd.C_drew ?_))); (case side2 => exact (Kd.R_reads' HO_11.out).2.1); (case side3 => repeat (first | exact (Kd.R_reads' HO722.out).2.2 | (with_reducible refine Kd.C_alloc ?_ _) | (with_reducible refine Kd.C_drewN ?_ _) | (with_reducible refine Kd.C_drew ?_))); (case side4 => exact (Kd.R_reads' HO722.out).2.1); rintro e w51 ⟨rfl, hb⟩; refine ⟨_, rfl, ?_⟩; have n0_ := Aside0.mk (Kd.R_below (kr_ HO_8) hb); have n1_ := Aside0.mk (Kd.R_below (kr_ HO_10) hb); have n2_ := Aside0.mk (Kd.R_below (kr_ HO_11) hb); have n3_ := Aside0.mk (Kd.R_below (kr_ HO_12) hb); have n4_ := Aside0.mk (Kd.R_below (kr_ HO718) hb); have n5_ := Aside0.mk (Kd.R_below (kr_ HO722) hb); have n6_ := Aside0.mk (below_step hb_ hb); clear HO_8; clear HO_10; clear HO_11; clear HO_12; clear HO718; clear HO722; clear HB; have HO_8 := n0_; have HO_10 := n1_; have HO_11 := n2_; have HO_12 := n3_; have HO718 := n4_; have HO722 := n5_; have HB := n6_; clear n0_ n1_ n2_ n3_ n4_ n5_ n6_; (try clear hb); (try clear hb2); (try clear hk); (try clear hi)) | ((with_reducible refine gate_callee (f := 29) rfl ?_); refine goesL_ (some 70) rfl rfl Try.func29 (by kernel_rfl) rfl #[.slice Ao27 t705.length co27, .int .i64 1] rfl ln_ ?_; (with_reducible refine (laws_markGearS.calls kj16 (fun k_ => some k_ = (.slice Ao27 t705.length co27 : Value).ownBlock) (.slice Ao27 t705.length co27) t705 1 t724 t725 w _ ?side1 ?side2 A43.out).mono ?_); (case side1 => repeat (first | (with_reducible first | exact HB.out | apply below_alloc | apply pw_below_drewN | apply below_drew1) | exact HB.out)); (case side2 => exact Kd.R_tight rfl HO_10.out); rintro e w52 ⟨rfl, hy0, hb, hkp⟩; refine ⟨_, rfl, ?_⟩; have n0_ := Aside0.mk (Kd.R_mono (ok' := fun k_ => some k_ ≠ (v713 : Value).ownBlock) (Kd.R_keptB ((Kd.R_apart' HO_8.out (Kd.R_typed HO_10.out) (by decide))) hkp (fun k_ hk_ hs_ => (hk_.2) hs_)) (fun k_ hk_ => hk_.1.1)); have n1_ := Aside0.mk (Kd.R_reok rfl hy0 (fun k_ e_ => HO_10.out.1 k_ e_)); have n2_ := Aside0.mk (Kd.R_mono (ok' := fun k_ => some k_ ≠ (.slice Ao50 t720.length co50 : Value).ownBlock) (Kd.R_keptB ((Kd.R_apart' HO_11.out (Kd.R_typed HO_10.out) (by decide))) hkp (fun k_ hk_ hs_ => (hk_.2) hs_)) (fun k_ hk_ => hk_.1.1.2)); have n3_ := Aside0.mk (Kd.R_mono (ok' := fun k_ => some k_ ≠ (v703 : Value).ownBlock) (Kd.R_keptB ((Kd.R_apart' HO_12.out (Kd.R_typed HO_10.out) (by decide))) hkp (fun k_ hk_ hs_ => (hk_.2) hs_)) (fun k_ hk_ => hk_.1.1)); have n4_ := Aside0.mk (Kd.R_mono (ok' := fun k_ => some k_ ≠ (.slice Ao27 t705.length co27 : Value).ownBlock) (Kd.R_keptB (HO718.out) hkp (fun k_ hk_ hs_ => (hk_.2) hs_)) (fun k_ hk_ => hk_.1.2)); have n5_ := Aside0.mk (Kd.R_mono (ok' := fun k_ => some k_ ≠ (.slice Ao28 t708.length co28 : Value).ownBlock) (Kd.R_keptB ((Kd.R_apart' HO722.out (Kd.R_typed HO_10.out) (by decide))) hkp (fun k_ hk_ hs_ => (hk_.2) hs_)) (fun k_ hk_ => hk_.1.1.2)); have n6_ := Aside0.mk (hb); clear HO_8; clear HO_10; clear HO_11; clear HO_12; clear HO718; clear HO722; clear HB; have HO_8 := n0_; have HO_10 := n1_; have HO_11 := n2_; have HO_12 := n3_; have HO718 := n4_; have HO722 := n5_; have HB := n6_; clear n0_ n1_ n2_ n3_ n4_ n5_ n6_; (try clear hb); (try clear hkp); (try clear hy0)) | ((with_reducible refine gate_callee (f := 41) rfl ?_); refine goesL_ (some 73) rfl rfl Try.func41 (by kernel_rfl) rfl #[.slice Ao28 t708.length co28, .int .i64 t724] rfl ln_ ?_; (with_reducible refine (laws_markCheckS.calls kj16 (fun k_ => some k_ = (.slice Ao28 t708.length co28 : Value).ownBlock) (.slice Ao28 t708.length co28) t708 t724 t726 t727 w _ ?side1 ?side2 A44.out).mono ?_); (case side1 => repeat (first | (with_reducible first | exact HB.out | apply below_alloc | apply pw_below_drewN | apply below_drew1) | exact HB.out)); (case side2 => exact Kd.R_tight rfl HO_11.out); rintro e w53 ⟨rfl, hy0, hb, hkp⟩; refine ⟨_, rfl, ?_⟩; have n0_ := Aside0.mk (Kd.R_mono (ok' := fun k_ => some k_ ≠ (v713 : Value).ownBlock) (Kd.R_keptB ((Kd.R_apart' HO_8.out (Kd.R_typed HO_11.out) (by decide))) hkp (fun k_ hk_ hs_ => (hk_.2) hs_)) (fun k_ hk_ => hk_.1.1)); have n1_ := Aside0.mk (Kd.R_mono (ok' := fun k_ => some k_ ≠ (.slice Ao47 t716.length co47 : Value).ownBlock) (Kd.R_keptB ((Kd.R_apart' HO_10.out (Kd.R_typed HO_11.out) (by decide))) hkp (fun k_ hk_ hs_ => (hk_.2) hs_)) (fun k_ hk_ => hk_.1.1.2)); have n2_ := Aside0.mk (Kd.R_reok rfl hy0 (fun k_ e_ => HO_11.out.1 k_ e_)); have n3_ := Aside0.mk (Kd.R_mono (ok' := fun k_ => some k_ ≠ (v703 : Value).ownBlock) (Kd.R_keptB ((Kd.R_apart' HO_12.out (Kd.R_typed HO_11.out) (by decide))) hkp (fun k_ hk_ hs_ => (hk_.2) hs_)) (fun k_ hk_ => hk_.1.1)); have n4_ := Aside0.mk (Kd.R_mono (ok' := fun k_ => some k_ ≠ (.slice Ao27 t705.length co27 : Value).ownBlock) (Kd.R_keptB ((Kd.R_apart' HO718.out (Kd.R_typed HO_11.out) (by decide))) hkp (fun k_ hk_ hs_ => (hk_.2) hs_)) (fun k_ hk_ => hk_.1.1)); have n5_ := Aside0.mk (Kd.R_mono (ok' := fun k_ => some k_ ≠ (.slice Ao28 t708.length co28 : Value).ownBlock) (Kd.R_keptB (HO722.out) hkp (fun k_ hk_ hs_ => (hk_) hs_)) (fun k_ hk_ => hk_.1)); have n6_ := Aside0.mk (hb); clear HO_8; clear HO_10; clear HO_11; clear HO_12; clear HO718; clear HO722; clear HB; have HO_8 := n0_; have HO_10 := n1_; have HO_11 := n2_; have HO_12 := n3_; have HO718 := n4_; have HO722 := n5_; have HB := n6_; clear n0_ n1_ n2_ n3_ n4_ n5_ n6_; (try clear hb); (try clear hkp); (try clear hy0)))
        (try simp only [Act.put, List.setIfInBounds_toArray, List.set_cons_zero, List.set_cons_succ])
        go_cut [86] (fun v86 wc => ∃ (kq : Nat) (x86_44 : Bool), v86 = .bool x86_44 ∧ Aside0 (laws_FnExactNotChecked.j1 kq l0 l1 a2 t701 t702 t711 x86_44 = some r) ∧ Aside0 (kq ≤ kj16) ∧ Aside0 (Kd.R Kd.string 9 wc w.heap.size (fun k_ => some k_ ≠ (v713 : Value).ownBlock) v703 t701) ∧ Aside0 (Kd.R Kd.string 9 wc w.heap.size (fun k_ => some k_ ≠ (v703 : Value).ownBlock) v713 t711) ∧ Aside0 (Below w.heap.size w wc))
        case first =>
         have H := HC45.out
         clear HC45
         by_cases c54 : t726 < 0
         ·rw [if_pos c54] at H
          have c54b0 : decide (t726 < 0) = true := decide_eq_true c54
          clear c54
          (first | rw [c54b0] | (simp only [i64_w, i32_w]; rw [c54b0]) | skip)
          have H' := Aside0.mk H
          clear H
          go_wp2
          go_meet
          case rel => exact ⟨_, (true), (by first | rfl | (simp; done) | (simp [*]; done)), H', ⟨by have := HJ16.out; first | omega | exact Nat.le_refl _⟩, ⟨by (with_reducible repeat (first | apply Kd.R_alloc | apply Kd.R_drewN | apply Kd.R_drew)); exact HO_8.out⟩, ⟨by (with_reducible repeat (first | apply Kd.R_alloc | apply Kd.R_drewN | apply Kd.R_drew)); exact HO_12.out⟩, ⟨hb_⟩⟩
         ·rw [if_neg c54] at H
          have c54b0 : decide (t726 < 0) = false := decide_eq_false c54
          clear c54
          (first | rw [c54b0] | (simp only [i64_w, i32_w]; rw [c54b0]) | skip)
          replace H := Option.bind_eq_some_iff.mp H
          obtain ⟨t728, A550, H⟩ := H
          replace H : (if t728 = true then (laws_FnExactNotChecked.j1 kj16 l0 l1 a2 t701 t702 t711 (t712 != t702)) else (laws_FnExactNotChecked.j1 kj16 l0 l1 a2 t701 t702 t711 true)) = some r := H
          have A55 := Aside0.mk A550
          clear A550
          by_cases c56 : t728 = true
          ·subst c56
           have H1 : (laws_FnExactNotChecked.j1 kj16 l0 l1 a2 t701 t702 t711 (t712 != t702)) = some r := by rw [if_pos rfl] at H; exact H
           clear H
           have H := H1
           clear H1
           have H' := Aside0.mk H
           clear H
           obtain ⟨Ao57, co57, eo57⟩ := Kd.R_slice HO_12.out
           subst eo57
           obtain ⟨Ao58, co58, eo58⟩ := Kd.R_slice HO_8.out
           subst eo58
           go_wp2_with (first | (go_at_call 45; (with_reducible refine (laws_eqStringS.calls kj16 _ _ t711 _ _ t701 true _ ?side1 ?side2 ?side3 ?side4 A55.out).mono ?_); (case side1 => repeat (first | exact (Kd.R_reads' HO_12.out).2.2 | (with_reducible refine Kd.C_alloc ?_ _) | (with_reducible refine Kd.C_drewN ?_ _) | (with_reducible refine Kd.C_drew ?_))); (case side2 => exact (Kd.R_reads' HO_12.out).2.1); (case side3 => repeat (first | exact (Kd.R_reads' HO_8.out).2.2 | (with_reducible refine Kd.C_alloc ?_ _) | (with_reducible refine Kd.C_drewN ?_ _) | (with_reducible refine Kd.C_drew ?_))); (case side4 => exact (Kd.R_reads' HO_8.out).2.1); rintro e w' ⟨rfl, ⟨nd, rfl⟩⟩))
           go_meet
           case rel => exact ⟨_, ((t712 != t702)), (by first | rfl | (simp; done) | (simp [*]; done)), H', ⟨by have := HJ16.out; first | omega | exact Nat.le_refl _⟩, ⟨by (with_reducible repeat (first | apply Kd.R_alloc | apply Kd.R_drewN | apply Kd.R_drew)); exact HO_8.out⟩, ⟨by (with_reducible repeat (first | apply Kd.R_alloc | apply Kd.R_drewN | apply Kd.R_drew)); exact HO_12.out⟩, ⟨hb_⟩⟩
          ·replace c56 := Bool.eq_false_iff.mpr c56
           subst c56
           have H1 : (laws_FnExactNotChecked.j1 kj16 l0 l1 a2 t701 t702 t711 true) = some r := by rw [if_neg (show ¬ (false = true) by decide)] at H; exact H
           clear H
           have H := H1
           clear H1
           have H' := Aside0.mk H
           clear H
           obtain ⟨Ao59, co59, eo59⟩ := Kd.R_slice HO_12.out
           subst eo59
           obtain ⟨Ao60, co60, eo60⟩ := Kd.R_slice HO_8.out
           subst eo60
           go_wp2_with (first | (go_at_call 45; (with_reducible refine (laws_eqStringS.calls kj16 _ _ t711 _ _ t701 false _ ?side1 ?side2 ?side3 ?side4 A55.out).mono ?_); (case side1 => repeat (first | exact (Kd.R_reads' HO_12.out).2.2 | (with_reducible refine Kd.C_alloc ?_ _) | (with_reducible refine Kd.C_drewN ?_ _) | (with_reducible refine Kd.C_drew ?_))); (case side2 => exact (Kd.R_reads' HO_12.out).2.1); (case side3 => repeat (first | exact (Kd.R_reads' HO_8.out).2.2 | (with_reducible refine Kd.C_alloc ?_ _) | (with_reducible refine Kd.C_drewN ?_ _) | (with_reducible refine Kd.C_drew ?_))); (case side4 => exact (Kd.R_reads' HO_8.out).2.1); rintro e w' ⟨rfl, ⟨nd, rfl⟩⟩))
           go_meet
           case rel => exact ⟨_, (true), (by first | rfl | (simp; done) | (simp [*]; done)), H', ⟨by have := HJ16.out; first | omega | exact Nat.le_refl _⟩, ⟨by (with_reducible repeat (first | apply Kd.R_alloc | apply Kd.R_drewN | apply Kd.R_drew)); exact HO_8.out⟩, ⟨by (with_reducible repeat (first | apply Kd.R_alloc | apply Kd.R_drewN | apply Kd.R_drew)); exact HO_12.out⟩, ⟨hb_⟩⟩
        case rest =>
         clear HC45
         try clear c1
         try clear c2
         try clear p2
         try clear c3
         try clear c4
         try clear c5
         try clear c5b0
         try clear c8
         try clear c8b0
         try clear c11
         try clear c15
         try clear c17
         try clear c19
         try clear c20
         try clear c22
         try clear c24
         try clear c29
         try clear c31
         try clear c36
         try clear c39
         try clear c41
         try clear c42
         try clear c43
         try clear c44
         try clear c45
         try clear c54
         try clear c54b0
         try clear c56
         try clear p2
         obtain ⟨kq, x86_44, rfl, HA, HJ44, HO_8, HO_12, HB⟩ := hcut
         cases kq with
         | zero => exact absurd HA.out (by simp [laws_FnExactNotChecked.j1])
         | succ kj44 =>
          have H := HA.out
          clear HA
          simp only [laws_FnExactNotChecked.j1] at H
          by_cases c61 : x86_44 = true
          ·subst c61
           have H1 : (some false) = some r := by rw [if_pos rfl] at H; exact H
           clear H
           have H := H1
           clear H1
           obtain rfl := Option.some.inj H
           go_wp2
           go_ret
           exact ⟨ew_, hb_⟩
          ·replace c61 := Bool.eq_false_iff.mpr c61
           subst c61
           have H1 : ((laws_markStringS.f kj44 t711 1).bind fun bt729 => ((laws_heldStringS.f kj44 bt729.2 1).bind fun t731 => (if t731 < 0 then (some false) else (if t731 = bt729.1 then ((laws_toGearS.f kj44 l0).bind fun t732 => ((laws_toCheckS.f kj44 l1).bind fun t735 => ((impl_NotChecked.f kj44 t732 t735 a2).bind fun bt738 => ((laws_eqStringS.f kj44 bt738.1 t701).bind fun t742 => (if t742 = true then (laws_FnExactNotChecked.j2 kj44 bt729.2 bt729.1 (bt738.2 != t702)) else (laws_FnExactNotChecked.j2 kj44 bt729.2 bt729.1 true)))))) else (some false))))) = some r := by rw [if_neg (show ¬ (false = true) by decide)] at H; exact H
           clear H
           have H := H1
           clear H1
           replace H := Option.bind_eq_some_iff.mp H
           obtain ⟨⟨t729, t730⟩, A620, H⟩ := H
           replace H : ((laws_heldStringS.f kj44 t730 1).bind fun t731 => (if t731 < 0 then (some false) else (if t731 = t729 then ((laws_toGearS.f kj44 l0).bind fun t732 => ((laws_toCheckS.f kj44 l1).bind fun t735 => ((impl_NotChecked.f kj44 t732 t735 a2).bind fun bt738 => ((laws_eqStringS.f kj44 bt738.1 t701).bind fun t742 => (if t742 = true then (laws_FnExactNotChecked.j2 kj44 t730 t729 (bt738.2 != t702)) else (laws_FnExactNotChecked.j2 kj44 t730 t729 true)))))) else (some false)))) = some r := H
           have A62 := Aside0.mk A620
           clear A620
           replace H := Option.bind_eq_some_iff.mp H
           obtain ⟨t731, A630, H⟩ := H
           replace H : (if t731 < 0 then (some false) else (if t731 = t729 then ((laws_toGearS.f kj44 l0).bind fun t732 => ((laws_toCheckS.f kj44 l1).bind fun t735 => ((impl_NotChecked.f kj44 t732 t735 a2).bind fun bt738 => ((laws_eqStringS.f kj44 bt738.1 t701).bind fun t742 => (if t742 = true then (laws_FnExactNotChecked.j2 kj44 t730 t729 (bt738.2 != t702)) else (laws_FnExactNotChecked.j2 kj44 t730 t729 true)))))) else (some false))) = some r := H
           have A63 := Aside0.mk A630
           clear A630
           by_cases c64 : t731 < 0
           ·rw [if_pos c64] at H
            have c64b0 : decide (t731 < 0) = true := decide_eq_true c64
            clear c64
            obtain rfl := Option.some.inj H
            obtain ⟨Ao65, co65, eo65⟩ := Kd.R_slice HO_12.out
            subst eo65
            go_wp2_with (first | ((with_reducible refine gate_callee (f := 46) rfl ?_); refine goesL_ (some 89) rfl rfl Try.func46 (by kernel_rfl) rfl #[.slice Ao65 t711.length co65, .int .i64 1] rfl ln_ ?_; (with_reducible refine (laws_markStringS.calls kj44 (fun k_ => some k_ = (.slice Ao65 t711.length co65 : Value).ownBlock) (.slice Ao65 t711.length co65) t711 1 t729 t730 w _ ?side1 ?side2 A62.out).mono ?_); (case side1 => repeat (first | (with_reducible first | exact HB.out | apply below_alloc | apply pw_below_drewN | apply below_drew1) | exact HB.out)); (case side2 => exact Kd.R_tight rfl HO_12.out); rintro e w66 ⟨rfl, hy0, hb, hkp⟩; refine ⟨_, rfl, ?_⟩; have n0_ := Aside0.mk (Kd.R_mono (ok' := fun k_ => some k_ ≠ (.slice Ao65 t711.length co65 : Value).ownBlock) (Kd.R_keptB (HO_8.out) hkp (fun k_ hk_ hs_ => (hk_) hs_)) (fun k_ hk_ => hk_.1)); have n1_ := Aside0.mk (Kd.R_reok rfl hy0 (fun k_ e_ => HO_12.out.1 k_ e_)); have n2_ := Aside0.mk (hb); clear HO_8; clear HO_12; clear HB; have HO_8 := n0_; have HO_12 := n1_; have HB := n2_; clear n0_ n1_ n2_; (try clear hb); (try clear hkp); (try clear hy0)) | ((with_reducible refine gate_callee (f := 47) rfl ?_); refine goesL_ (some 92) rfl rfl Try.func47 (by kernel_rfl) rfl #[.slice Ao65 t730.length co65, .int .i64 1] rfl (by (try simp only [List.map_toArray, List.map_cons, List.map_nil]); first | done | (rw [show t730.length = t711.length from (Kd.R_reads' HO_12.out).1.symm] <;> rfl) | rfl | (simp only [List.length_drop, List.length_take]; rfl)) ?_; (with_reducible refine (laws_heldStringS.calls kj44 _ _ t730 1 t731 _ ?side1 ?side2 A63.out).mono ?_); (case side1 => repeat (first | exact (Kd.R_reads' HO_12.out).2.2 | (with_reducible refine Kd.C_alloc ?_ _) | (with_reducible refine Kd.C_drewN ?_ _) | (with_reducible refine Kd.C_drew ?_))); (case side2 => rw [show t730.length = t711.length from (Kd.R_reads' HO_12.out).1.symm]; exact (Kd.R_reads' HO_12.out).2.1); rintro e w67 ⟨rfl, hb⟩; refine ⟨_, rfl, ?_⟩; have n0_ := Aside0.mk (Kd.R_below (kr_ HO_8) hb); have n1_ := Aside0.mk (Kd.R_below (kr_ HO_12) hb); have n2_ := Aside0.mk (below_step hb_ hb); clear HO_8; clear HO_12; clear HB; have HO_8 := n0_; have HO_12 := n1_; have HB := n2_; clear n0_ n1_ n2_; (try clear hb); (try clear hb2); (try clear hk); (try clear hi)))
            go_ret
            exact ⟨ew_, hb_⟩
           ·rw [if_neg c64] at H
            have c64b0 : decide (t731 < 0) = false := decide_eq_false c64
            clear c64
            by_cases c68 : t731 = t729
            ·rw [if_pos c68] at H
             have c68b0 : (t731 == t729) = true := beq_iff_eq.mpr c68
             have c68b1 : (t731 != t729) = false := bne_eq_false_iff_eq.mpr c68
             clear c68
             replace H := Option.bind_eq_some_iff.mp H
             obtain ⟨t732, A690, H⟩ := H
             replace H : ((laws_toCheckS.f kj44 l1).bind fun t735 => ((impl_NotChecked.f kj44 t732 t735 a2).bind fun bt738 => ((laws_eqStringS.f kj44 bt738.1 t701).bind fun t742 => (if t742 = true then (laws_FnExactNotChecked.j2 kj44 t730 t729 (bt738.2 != t702)) else (laws_FnExactNotChecked.j2 kj44 t730 t729 true))))) = some r := H
             have A69 := Aside0.mk A690
             clear A690
             replace H := Option.bind_eq_some_iff.mp H
             obtain ⟨t735, A700, H⟩ := H
             replace H : ((impl_NotChecked.f kj44 t732 t735 a2).bind fun bt738 => ((laws_eqStringS.f kj44 bt738.1 t701).bind fun t742 => (if t742 = true then (laws_FnExactNotChecked.j2 kj44 t730 t729 (bt738.2 != t702)) else (laws_FnExactNotChecked.j2 kj44 t730 t729 true)))) = some r := H
             have A70 := Aside0.mk A700
             clear A700
             replace H := Option.bind_eq_some_iff.mp H
             obtain ⟨⟨t738, t739⟩, A710, H⟩ := H
             replace H : ((laws_eqStringS.f kj44 t738 t701).bind fun t742 => (if t742 = true then (laws_FnExactNotChecked.j2 kj44 t730 t729 (t739 != t702)) else (laws_FnExactNotChecked.j2 kj44 t730 t729 true))) = some r := H
             have A71 := Aside0.mk A710
             clear A710
             have HC72 := Aside0.mk H
             clear H
             obtain ⟨Ao73, co73, eo73⟩ := Kd.R_slice HO_12.out
             subst eo73
             go_upto_region 32 with (first | ((with_reducible refine gate_callee (f := 46) rfl ?_); refine goesL_ (some 89) rfl rfl Try.func46 (by kernel_rfl) rfl #[.slice Ao73 t711.length co73, .int .i64 1] rfl ln_ ?_; (with_reducible refine (laws_markStringS.calls kj44 (fun k_ => some k_ = (.slice Ao73 t711.length co73 : Value).ownBlock) (.slice Ao73 t711.length co73) t711 1 t729 t730 w _ ?side1 ?side2 A62.out).mono ?_); (case side1 => repeat (first | (with_reducible first | exact HB.out | apply below_alloc | apply pw_below_drewN | apply below_drew1) | exact HB.out)); (case side2 => exact Kd.R_tight rfl HO_12.out); rintro e w74 ⟨rfl, hy0, hb, hkp⟩; refine ⟨_, rfl, ?_⟩; have n0_ := Aside0.mk (Kd.R_mono (ok' := fun k_ => some k_ ≠ (.slice Ao73 t711.length co73 : Value).ownBlock) (Kd.R_keptB (HO_8.out) hkp (fun k_ hk_ hs_ => (hk_) hs_)) (fun k_ hk_ => hk_.1)); have n1_ := Aside0.mk (Kd.R_reok rfl hy0 (fun k_ e_ => HO_12.out.1 k_ e_)); have n2_ := Aside0.mk (hb); clear HO_8; clear HO_12; clear HB; have HO_8 := n0_; have HO_12 := n1_; have HB := n2_; clear n0_ n1_ n2_; (try clear hb); (try clear hkp); (try clear hy0)) | ((with_reducible refine gate_callee (f := 47) rfl ?_); refine goesL_ (some 92) rfl rfl Try.func47 (by kernel_rfl) rfl #[.slice Ao73 t730.length co73, .int .i64 1] rfl (by (try simp only [List.map_toArray, List.map_cons, List.map_nil]); first | done | (rw [show t730.length = t711.length from (Kd.R_reads' HO_12.out).1.symm] <;> rfl) | rfl | (simp only [List.length_drop, List.length_take]; rfl)) ?_; (with_reducible refine (laws_heldStringS.calls kj44 _ _ t730 1 t731 _ ?side1 ?side2 A63.out).mono ?_); (case side1 => repeat (first | exact (Kd.R_reads' HO_12.out).2.2 | (with_reducible refine Kd.C_alloc ?_ _) | (with_reducible refine Kd.C_drewN ?_ _) | (with_reducible refine Kd.C_drew ?_))); (case side2 => rw [show t730.length = t711.length from (Kd.R_reads' HO_12.out).1.symm]; exact (Kd.R_reads' HO_12.out).2.1); rintro e w75 ⟨rfl, hb⟩; refine ⟨_, rfl, ?_⟩; have n0_ := Aside0.mk (Kd.R_below (kr_ HO_8) hb); have n1_ := Aside0.mk (Kd.R_below (kr_ HO_12) hb); have n2_ := Aside0.mk (below_step hb_ hb); clear HO_8; clear HO_12; clear HB; have HO_8 := n0_; have HO_12 := n1_; have HB := n2_; clear n0_ n1_ n2_; (try clear hb); (try clear hb2); (try clear hk); (try clear hi)) | ((with_reducible refine gate_callee (f := 22) rfl ?_); refine goesL_ (some 100) rfl rfl Try.func22 (by kernel_rfl) rfl #[.slice A0 l0.length c0] rfl ln_ ?_; (with_reducible refine (laws_toGearS.calls kj44 _ _ l0 t732 _ ?side1 ?side2 A69.out).mono ?_); (case side1 => exact kc_ (Kd.C_below HR0.out HB.out)); (case side2 => exact HC0.out); rintro e w76 ⟨v733, rfl, ho0, hb⟩; refine ⟨_, rfl, ?_⟩; have n0_ := Aside0.mk (Kd.R_below (kr_ HO_8) hb); have n1_ := Aside0.mk (Kd.R_below (kr_ HO_12) hb); have n2_ := Aside0.mk (Kd.R_lower ho0 (below_size hb_)); have n3_ := Aside0.mk (below_step hb_ hb); clear HO_8; clear HO_12; clear HB; have HO_8 := n0_; have HO_12 := n1_; have HO734 := n2_; have HB := n3_; clear n0_ n1_ n2_ n3_; (try clear hb); (try clear hb2); (try clear hk); (try clear hi); (try clear ho0)) | ((with_reducible refine gate_callee (f := 17) rfl ?_); refine goesL_ (some 102) rfl rfl Try.func17 (by kernel_rfl) rfl #[.slice A1 l1.length c1] rfl ln_ ?_; (with_reducible refine (laws_toCheckS.calls kj44 _ _ l1 t735 _ ?side1 ?side2 A70.out).mono ?_); (case side1 => exact kc_ (Kd.C_below HR1.out HB.out)); (case side2 => exact HC1.out); rintro e w77 ⟨v736, rfl, ho0, hb⟩; refine ⟨_, rfl, ?_⟩; have n0_ := Aside0.mk (Kd.R_below (kr_ HO_8) hb); have n1_ := Aside0.mk (Kd.R_below (kr_ HO_12) hb); have n2_ := Aside0.mk (Kd.R_below (kr_ HO734) hb); have n3_ := Aside0.mk (Kd.R_lower ho0 (below_size hb_)); have n4_ := Aside0.mk (below_step hb_ hb); clear HO_8; clear HO_12; clear HO734; clear HB; have HO_8 := n0_; have HO_12 := n1_; have HO734 := n2_; have HO737 := n3_; have HB := n4_; clear n0_ n1_ n2_ n3_ n4_; (try clear hb); (try clear hb2); (try clear hk); (try clear hi); (try clear ho0); obtain ⟨Ao78, co78, eo78⟩ := Kd.R_slice HO734.out; subst eo78; obtain ⟨Ao79, co79, eo79⟩ := Kd.R_slice HO737.out; subst eo79) | ((with_reducible refine gate_callee (f := 44) rfl ?_); refine goesL_ (some 104) rfl rfl Try.func44 (by kernel_rfl) rfl #[.slice Ao78 t732.length co78, .slice Ao79 t735.length co79, .int .i64 a2] rfl ln_ ?_; (with_reducible refine (impl_NotChecked.calls kj44 _ _ t732 _ _ t735 a2 t738 t739 _ ?side1 ?side2 ?side3 ?side4 A71.out).mono ?_); (case side1 => repeat (first | exact (Kd.R_reads' HO734.out).2.2 | (with_reducible refine Kd.C_alloc ?_ _) | (with_reducible refine Kd.C_drewN ?_ _) | (with_reducible refine Kd.C_drew ?_))); (case side2 => exact (Kd.R_reads' HO734.out).2.1); (case side3 => repeat (first | exact (Kd.R_reads' HO737.out).2.2 | (with_reducible refine Kd.C_alloc ?_ _) | (with_reducible refine Kd.C_drewN ?_ _) | (with_reducible refine Kd.C_drew ?_))); (case side4 => exact (Kd.R_reads' HO737.out).2.1); rintro e w80 ⟨v740, rfl, ho0, hb⟩; refine ⟨_, rfl, ?_⟩; have n0_ := Aside0.mk (Kd.R_elder' (kr_ HO_8) (Kd.R_base ho0) hb); have n1_ := Aside0.mk (Kd.R_elder' (kr_ HO_12) (Kd.R_base ho0) hb); have n2_ := Aside0.mk (Kd.R_below (kr_ HO734) hb); have n3_ := Aside0.mk (Kd.R_below (kr_ HO737) hb); have n4_ := Aside0.mk (Kd.R_lower (Kd.R_new' (Kd.R_new' ho0 (Kd.R_lt (kr_ HO_8))) (Kd.R_lt (kr_ HO_12))) (below_size hb_)); have n5_ := Aside0.mk (below_step hb_ hb); clear HO_8; clear HO_12; clear HO734; clear HO737; clear HB; have HO_8 := n0_; have HO_12 := n1_; have HO734 := n2_; have HO737 := n3_; have HO741 := n4_; have HB := n5_; clear n0_ n1_ n2_ n3_ n4_ n5_; (try clear hb); (try clear hb2); (try clear hk); (try clear hi); (try clear ho0)))
             (try simp only [Act.put, List.setIfInBounds_toArray, List.set_cons_zero, List.set_cons_succ])
             go_cut [115] (fun v115 wc => ∃ (kq : Nat) (x115_71 : Bool), v115 = .bool x115_71 ∧ Aside0 (laws_FnExactNotChecked.j2 kq t730 t729 x115_71 = some r) ∧ Aside0 (kq ≤ kj44) ∧ Aside0 (Kd.R Kd.string 9 wc w.heap.size (fun _ => True) (.slice Ao73 t711.length co73) t730) ∧ Aside0 (Below w.heap.size w wc))
             case first =>
              have H := HC72.out
              clear HC72
              replace H := Option.bind_eq_some_iff.mp H
              obtain ⟨t742, A810, H⟩ := H
              replace H : (if t742 = true then (laws_FnExactNotChecked.j2 kj44 t730 t729 (t739 != t702)) else (laws_FnExactNotChecked.j2 kj44 t730 t729 true)) = some r := H
              have A81 := Aside0.mk A810
              clear A810
              by_cases c82 : t742 = true
              ·subst c82
               have H1 : (laws_FnExactNotChecked.j2 kj44 t730 t729 (t739 != t702)) = some r := by rw [if_pos rfl] at H; exact H
               clear H
               have H := H1
               clear H1
               have H' := Aside0.mk H
               clear H
               obtain ⟨Ao83, co83, eo83⟩ := Kd.R_slice HO741.out
               subst eo83
               obtain ⟨Ao84, co84, eo84⟩ := Kd.R_slice HO_8.out
               subst eo84
               go_wp2_with (first | ((with_reducible refine gate_callee (f := 45) rfl ?_); refine goesL_ (some 109) rfl rfl Try.func45 (by kernel_rfl) rfl #[.slice Ao83 t738.length co83, .slice Ao84 t701.length co84] rfl ln_ ?_; (with_reducible refine (laws_eqStringS.calls kj44 _ _ t738 _ _ t701 true _ ?side1 ?side2 ?side3 ?side4 A81.out).mono ?_); (case side1 => repeat (first | exact (Kd.R_reads' HO741.out).2.2 | (with_reducible refine Kd.C_alloc ?_ _) | (with_reducible refine Kd.C_drewN ?_ _) | (with_reducible refine Kd.C_drew ?_))); (case side2 => exact (Kd.R_reads' HO741.out).2.1); (case side3 => repeat (first | exact (Kd.R_reads' HO_8.out).2.2 | (with_reducible refine Kd.C_alloc ?_ _) | (with_reducible refine Kd.C_drewN ?_ _) | (with_reducible refine Kd.C_drew ?_))); (case side4 => exact (Kd.R_reads' HO_8.out).2.1); rintro e w' ⟨rfl, ⟨nd, rfl⟩⟩; refine ⟨_, rfl, ?_⟩))
               go_meet
               case rel => exact ⟨_, ((t739 != t702)), (by first | rfl | (simp; done) | (simp [*]; done)), H', ⟨by have := HJ16.out; have := HJ44.out; first | omega | exact Nat.le_refl _⟩, ⟨by (with_reducible repeat (first | apply Kd.R_alloc | apply Kd.R_drewN | apply Kd.R_drew)); exact Kd.R_mono HO_12.out (fun _ hk => trivial)⟩, ⟨hb_⟩⟩
              ·replace c82 := Bool.eq_false_iff.mpr c82
               subst c82
               have H1 : (laws_FnExactNotChecked.j2 kj44 t730 t729 true) = some r := by rw [if_neg (show ¬ (false = true) by decide)] at H; exact H
               clear H
               have H := H1
               clear H1
               have H' := Aside0.mk H
               clear H
               obtain ⟨Ao85, co85, eo85⟩ := Kd.R_slice HO741.out
               subst eo85
               obtain ⟨Ao86, co86, eo86⟩ := Kd.R_slice HO_8.out
               subst eo86
               go_wp2_with (first | ((with_reducible refine gate_callee (f := 45) rfl ?_); refine goesL_ (some 109) rfl rfl Try.func45 (by kernel_rfl) rfl #[.slice Ao85 t738.length co85, .slice Ao86 t701.length co86] rfl ln_ ?_; (with_reducible refine (laws_eqStringS.calls kj44 _ _ t738 _ _ t701 false _ ?side1 ?side2 ?side3 ?side4 A81.out).mono ?_); (case side1 => repeat (first | exact (Kd.R_reads' HO741.out).2.2 | (with_reducible refine Kd.C_alloc ?_ _) | (with_reducible refine Kd.C_drewN ?_ _) | (with_reducible refine Kd.C_drew ?_))); (case side2 => exact (Kd.R_reads' HO741.out).2.1); (case side3 => repeat (first | exact (Kd.R_reads' HO_8.out).2.2 | (with_reducible refine Kd.C_alloc ?_ _) | (with_reducible refine Kd.C_drewN ?_ _) | (with_reducible refine Kd.C_drew ?_))); (case side4 => exact (Kd.R_reads' HO_8.out).2.1); rintro e w' ⟨rfl, ⟨nd, rfl⟩⟩; refine ⟨_, rfl, ?_⟩))
               go_meet
               case rel => exact ⟨_, (true), (by first | rfl | (simp; done) | (simp [*]; done)), H', ⟨by have := HJ16.out; have := HJ44.out; first | omega | exact Nat.le_refl _⟩, ⟨by (with_reducible repeat (first | apply Kd.R_alloc | apply Kd.R_drewN | apply Kd.R_drew)); exact Kd.R_mono HO_12.out (fun _ hk => trivial)⟩, ⟨hb_⟩⟩
             case rest =>
              clear HC72
              try clear c1
              try clear c2
              try clear p2
              try clear c3
              try clear c4
              try clear c5
              try clear c5b0
              try clear c6
              try clear c8
              try clear c8b0
              try clear c11
              try clear c15
              try clear c17
              try clear c19
              try clear c20
              try clear c22
              try clear c24
              try clear c29
              try clear c31
              try clear c36
              try clear c39
              try clear c41
              try clear c42
              try clear c43
              try clear c44
              try clear c45
              try clear c46
              try clear c47
              try clear c54
              try clear c54b0
              try clear c56
              try clear c61
              try clear c64
              try clear c64b0
              try clear c68
              try clear c68b0
              try clear c68b1
              try clear c82
              try clear p2
              obtain ⟨kq, x115_71, rfl, HA, HJ71, HO_12, HB⟩ := hcut
              have hl12_71 := (Kd.R_reads' HO_12.out).1
              rw [hl12_71] at HO_12
              (try simp only [hl12_71])
              cases kq with
              | zero => exact absurd HA.out (by simp [laws_FnExactNotChecked.j2])
              | succ kj71 =>
               have H := HA.out
               clear HA
               simp only [laws_FnExactNotChecked.j2] at H
               by_cases c87 : x115_71 = true
               ·subst c87
                have H1 : (some false) = some r := by rw [if_pos rfl] at H; exact H
                clear H
                have H := H1
                clear H1
                obtain rfl := Option.some.inj H
                go_wp2
                go_ret
                exact ⟨ew_, hb_⟩
               ·replace c87 := Bool.eq_false_iff.mpr c87
                subst c87
                have H1 : ((laws_heldStringS.f kj71 t730 1).bind fun t743 => (if t743 < 0 then (some false) else (if t743 = t729 then (some true) else (some false)))) = some r := by rw [if_neg (show ¬ (false = true) by decide)] at H; exact H
                clear H
                have H := H1
                clear H1
                replace H := Option.bind_eq_some_iff.mp H
                obtain ⟨t743, A880, H⟩ := H
                replace H : (if t743 < 0 then (some false) else (if t743 = t729 then (some true) else (some false))) = some r := H
                have A88 := Aside0.mk A880
                clear A880
                by_cases c89 : t743 < 0
                ·rw [if_pos c89] at H
                 have c89b0 : decide (t743 < 0) = true := decide_eq_true c89
                 clear c89
                 obtain rfl := Option.some.inj H
                 go_wp2_with (first | ((with_reducible refine gate_callee (f := 47) rfl ?_); refine goesL_ (some 118) rfl rfl Try.func47 (by kernel_rfl) rfl #[.slice Ao73 t730.length co73, .int .i64 1] rfl ln_ ?_; (with_reducible refine (laws_heldStringS.calls kj71 _ _ t730 1 t743 _ ?side1 ?side2 A88.out).mono ?_); (case side1 => repeat (first | exact (Kd.R_reads' HO_12.out).2.2 | (with_reducible refine Kd.C_alloc ?_ _) | (with_reducible refine Kd.C_drewN ?_ _) | (with_reducible refine Kd.C_drew ?_))); (case side2 => exact (Kd.R_reads' HO_12.out).2.1); rintro e w90 ⟨rfl, hb⟩; refine ⟨_, rfl, ?_⟩; have n0_ := Aside0.mk (Kd.R_below (kr_ HO_12) hb); have n1_ := Aside0.mk (below_step hb_ hb); clear HO_12; clear HB; have HO_12 := n0_; have HB := n1_; clear n0_ n1_; (try clear hb); (try clear hb2); (try clear hk); (try clear hi)))
                 go_ret
                 exact ⟨ew_, hb_⟩
                ·rw [if_neg c89] at H
                 have c89b0 : decide (t743 < 0) = false := decide_eq_false c89
                 clear c89
                 by_cases c91 : t743 = t729
                 ·rw [if_pos c91] at H
                  have c91b0 : (t743 == t729) = true := beq_iff_eq.mpr c91
                  have c91b1 : (t743 != t729) = false := bne_eq_false_iff_eq.mpr c91
                  clear c91
                  obtain rfl := Option.some.inj H
                  go_wp2_with (first | ((with_reducible refine gate_callee (f := 47) rfl ?_); refine goesL_ (some 118) rfl rfl Try.func47 (by kernel_rfl) rfl #[.slice Ao73 t730.length co73, .int .i64 1] rfl ln_ ?_; (with_reducible refine (laws_heldStringS.calls kj71 _ _ t730 1 t743 _ ?side1 ?side2 A88.out).mono ?_); (case side1 => repeat (first | exact (Kd.R_reads' HO_12.out).2.2 | (with_reducible refine Kd.C_alloc ?_ _) | (with_reducible refine Kd.C_drewN ?_ _) | (with_reducible refine Kd.C_drew ?_))); (case side2 => exact (Kd.R_reads' HO_12.out).2.1); rintro e w92 ⟨rfl, hb⟩; refine ⟨_, rfl, ?_⟩; have n0_ := Aside0.mk (Kd.R_below (kr_ HO_12) hb); have n1_ := Aside0.mk (below_step hb_ hb); clear HO_12; clear HB; have HO_12 := n0_; have HB := n1_; clear n0_ n1_; (try clear hb); (try clear hb2); (try clear hk); (try clear hi)))
                  go_ret
                  exact ⟨ew_, hb_⟩
                 ·rw [if_neg c91] at H
                  have c91b0 : (t743 == t729) = false := beq_eq_false_iff_ne.mpr c91
                  have c91b1 : (t743 != t729) = true := bne_iff_ne.mpr c91
                  obtain rfl := Option.some.inj H
                  go_wp2_with (first | ((with_reducible refine gate_callee (f := 47) rfl ?_); refine goesL_ (some 118) rfl rfl Try.func47 (by kernel_rfl) rfl #[.slice Ao73 t730.length co73, .int .i64 1] rfl ln_ ?_; (with_reducible refine (laws_heldStringS.calls kj71 _ _ t730 1 t743 _ ?side1 ?side2 A88.out).mono ?_); (case side1 => repeat (first | exact (Kd.R_reads' HO_12.out).2.2 | (with_reducible refine Kd.C_alloc ?_ _) | (with_reducible refine Kd.C_drewN ?_ _) | (with_reducible refine Kd.C_drew ?_))); (case side2 => exact (Kd.R_reads' HO_12.out).2.1); rintro e w93 ⟨rfl, hb⟩; refine ⟨_, rfl, ?_⟩; have n0_ := Aside0.mk (Kd.R_below (kr_ HO_12) hb); have n1_ := Aside0.mk (below_step hb_ hb); clear HO_12; clear HB; have HO_12 := n0_; have HB := n1_; clear n0_ n1_; (try clear hb); (try clear hb2); (try clear hk); (try clear hi)))
                  go_ret
                  exact ⟨ew_, hb_⟩
            ·rw [if_neg c68] at H
             have c68b0 : (t731 == t729) = false := beq_eq_false_iff_ne.mpr c68
             have c68b1 : (t731 != t729) = true := bne_iff_ne.mpr c68
             obtain rfl := Option.some.inj H
             obtain ⟨Ao94, co94, eo94⟩ := Kd.R_slice HO_12.out
             subst eo94
             go_wp2_with (first | ((with_reducible refine gate_callee (f := 46) rfl ?_); refine goesL_ (some 89) rfl rfl Try.func46 (by kernel_rfl) rfl #[.slice Ao94 t711.length co94, .int .i64 1] rfl ln_ ?_; (with_reducible refine (laws_markStringS.calls kj44 (fun k_ => some k_ = (.slice Ao94 t711.length co94 : Value).ownBlock) (.slice Ao94 t711.length co94) t711 1 t729 t730 w _ ?side1 ?side2 A62.out).mono ?_); (case side1 => repeat (first | (with_reducible first | exact HB.out | apply below_alloc | apply pw_below_drewN | apply below_drew1) | exact HB.out)); (case side2 => exact Kd.R_tight rfl HO_12.out); rintro e w95 ⟨rfl, hy0, hb, hkp⟩; refine ⟨_, rfl, ?_⟩; have n0_ := Aside0.mk (Kd.R_mono (ok' := fun k_ => some k_ ≠ (.slice Ao94 t711.length co94 : Value).ownBlock) (Kd.R_keptB (HO_8.out) hkp (fun k_ hk_ hs_ => (hk_) hs_)) (fun k_ hk_ => hk_.1)); have n1_ := Aside0.mk (Kd.R_reok rfl hy0 (fun k_ e_ => HO_12.out.1 k_ e_)); have n2_ := Aside0.mk (hb); clear HO_8; clear HO_12; clear HB; have HO_8 := n0_; have HO_12 := n1_; have HB := n2_; clear n0_ n1_ n2_; (try clear hb); (try clear hkp); (try clear hy0)) | ((with_reducible refine gate_callee (f := 47) rfl ?_); refine goesL_ (some 92) rfl rfl Try.func47 (by kernel_rfl) rfl #[.slice Ao94 t730.length co94, .int .i64 1] rfl (by (try simp only [List.map_toArray, List.map_cons, List.map_nil]); first | done | (rw [show t730.length = t711.length from (Kd.R_reads' HO_12.out).1.symm] <;> rfl) | rfl | (simp only [List.length_drop, List.length_take]; rfl)) ?_; (with_reducible refine (laws_heldStringS.calls kj44 _ _ t730 1 t731 _ ?side1 ?side2 A63.out).mono ?_); (case side1 => repeat (first | exact (Kd.R_reads' HO_12.out).2.2 | (with_reducible refine Kd.C_alloc ?_ _) | (with_reducible refine Kd.C_drewN ?_ _) | (with_reducible refine Kd.C_drew ?_))); (case side2 => rw [show t730.length = t711.length from (Kd.R_reads' HO_12.out).1.symm]; exact (Kd.R_reads' HO_12.out).2.1); rintro e w96 ⟨rfl, hb⟩; refine ⟨_, rfl, ?_⟩; have n0_ := Aside0.mk (Kd.R_below (kr_ HO_8) hb); have n1_ := Aside0.mk (Kd.R_below (kr_ HO_12) hb); have n2_ := Aside0.mk (below_step hb_ hb); clear HO_8; clear HO_12; clear HB; have HO_8 := n0_; have HO_12 := n1_; have HB := n2_; clear n0_ n1_ n2_; (try clear hb); (try clear hb2); (try clear hk); (try clear hi)))
             go_ret
             exact ⟨ew_, hb_⟩
       ·replace c42 := Bool.eq_false_iff.mpr c42
        subst c42
        have H1 : (some false) = some r := by rw [if_neg (show ¬ (false = true) by decide)] at H; exact H
        clear H
        have H := H1
        clear H1
        obtain rfl := Option.some.inj H
        go_wp2_with (first | ((with_reducible refine gate_callee (f := 22) rfl ?_); refine goesL_ (some 60) rfl rfl Try.func22 (by kernel_rfl) rfl #[.slice A0 l0.length c0] rfl ln_ ?_; (with_reducible refine (laws_toGearS.calls kj16 _ _ l0 t716 _ ?side1 ?side2 A37.out).mono ?_); (case side1 => exact kc_ (Kd.C_below HR0.out HB.out)); (case side2 => exact HC0.out); rintro e w97 ⟨v717, rfl, ho0, hb⟩; refine ⟨_, rfl, ?_⟩; have n0_ := Aside0.mk (Kd.R_below (kr_ HO_8) hb); have n1_ := Aside0.mk (Kd.R_elder' (kr_ HO_10) (Kd.R_base ho0) hb); have n2_ := Aside0.mk (Kd.R_below (kr_ HO_11) hb); have n3_ := Aside0.mk (Kd.R_below (kr_ HO_12) hb); have n4_ := Aside0.mk (Kd.R_lower (Kd.R_new' ho0 (Kd.R_lt (kr_ HO_10))) (below_size hb_)); have n5_ := Aside0.mk (below_step hb_ hb); clear HO_8; clear HO_10; clear HO_11; clear HO_12; clear HB; have HO_8 := n0_; have HO_10 := n1_; have HO_11 := n2_; have HO_12 := n3_; have HO718 := n4_; have HB := n5_; clear n0_ n1_ n2_ n3_ n4_ n5_; (try clear hb); (try clear hb2); (try clear hk); (try clear hi); (try clear ho0); obtain ⟨Ao98, co98, eo98⟩ := Kd.R_slice HO718.out; subst eo98) | ((with_reducible refine gate_callee (f := 24) rfl ?_); refine goesL_ (some 61) rfl rfl Try.func24 (by kernel_rfl) rfl #[.slice Ao27 t705.length co27, .slice Ao98 t716.length co98] rfl ln_ ?_; (with_reducible refine (laws_eqGearS.calls kj16 _ _ t705 _ _ t716 true _ ?side1 ?side2 ?side3 ?side4 A38.out).mono ?_); (case side1 => repeat (first | exact (Kd.R_reads' HO_10.out).2.2 | (with_reducible refine Kd.C_alloc ?_ _) | (with_reducible refine Kd.C_drewN ?_ _) | (with_reducible refine Kd.C_drew ?_))); (case side2 => exact (Kd.R_reads' HO_10.out).2.1); (case side3 => repeat (first | exact (Kd.R_reads' HO718.out).2.2 | (with_reducible refine Kd.C_alloc ?_ _) | (with_reducible refine Kd.C_drewN ?_ _) | (with_reducible refine Kd.C_drew ?_))); (case side4 => exact (Kd.R_reads' HO718.out).2.1); rintro e w99 ⟨rfl, hb⟩; refine ⟨_, rfl, ?_⟩; have n0_ := Aside0.mk (Kd.R_below (kr_ HO_8) hb); have n1_ := Aside0.mk (Kd.R_below (kr_ HO_10) hb); have n2_ := Aside0.mk (Kd.R_below (kr_ HO_11) hb); have n3_ := Aside0.mk (Kd.R_below (kr_ HO_12) hb); have n4_ := Aside0.mk (Kd.R_below (kr_ HO718) hb); have n5_ := Aside0.mk (below_step hb_ hb); clear HO_8; clear HO_10; clear HO_11; clear HO_12; clear HO718; clear HB; have HO_8 := n0_; have HO_10 := n1_; have HO_11 := n2_; have HO_12 := n3_; have HO718 := n4_; have HB := n5_; clear n0_ n1_ n2_ n3_ n4_ n5_; (try clear hb); (try clear hb2); (try clear hk); (try clear hi)) | ((with_reducible refine gate_callee (f := 17) rfl ?_); refine goesL_ (some 65) rfl rfl Try.func17 (by kernel_rfl) rfl #[.slice A1 l1.length c1] rfl ln_ ?_; (with_reducible refine (laws_toCheckS.calls kj16 _ _ l1 t720 _ ?side1 ?side2 A40.out).mono ?_); (case side1 => exact kc_ (Kd.C_below HR1.out HB.out)); (case side2 => exact HC1.out); rintro e w100 ⟨v721, rfl, ho0, hb⟩; refine ⟨_, rfl, ?_⟩; have n0_ := Aside0.mk (Kd.R_below (kr_ HO_8) hb); have n1_ := Aside0.mk (Kd.R_below (kr_ HO_10) hb); have n2_ := Aside0.mk (Kd.R_elder' (kr_ HO_11) (Kd.R_base ho0) hb); have n3_ := Aside0.mk (Kd.R_below (kr_ HO_12) hb); have n4_ := Aside0.mk (Kd.R_below (kr_ HO718) hb); have n5_ := Aside0.mk (Kd.R_lower (Kd.R_new' ho0 (Kd.R_lt (kr_ HO_11))) (below_size hb_)); have n6_ := Aside0.mk (below_step hb_ hb); clear HO_8; clear HO_10; clear HO_11; clear HO_12; clear HO718; clear HB; have HO_8 := n0_; have HO_10 := n1_; have HO_11 := n2_; have HO_12 := n3_; have HO718 := n4_; have HO722 := n5_; have HB := n6_; clear n0_ n1_ n2_ n3_ n4_ n5_ n6_; (try clear hb); (try clear hb2); (try clear hk); (try clear hi); (try clear ho0); obtain ⟨Ao101, co101, eo101⟩ := Kd.R_slice HO722.out; subst eo101) | ((with_reducible refine gate_callee (f := 19) rfl ?_); refine goesL_ (some 66) rfl rfl Try.func19 (by kernel_rfl) rfl #[.slice Ao28 t708.length co28, .slice Ao101 t720.length co101] rfl ln_ ?_; (with_reducible refine (laws_eqCheckS.calls kj16 _ _ t708 _ _ t720 false _ ?side1 ?side2 ?side3 ?side4 A41.out).mono ?_); (case side1 => repeat (first | exact (Kd.R_reads' HO_11.out).2.2 | (with_reducible refine Kd.C_alloc ?_ _) | (with_reducible refine Kd.C_drewN ?_ _) | (with_reducible refine Kd.C_drew ?_))); (case side2 => exact (Kd.R_reads' HO_11.out).2.1); (case side3 => repeat (first | exact (Kd.R_reads' HO722.out).2.2 | (with_reducible refine Kd.C_alloc ?_ _) | (with_reducible refine Kd.C_drewN ?_ _) | (with_reducible refine Kd.C_drew ?_))); (case side4 => exact (Kd.R_reads' HO722.out).2.1); rintro e w102 ⟨rfl, hb⟩; refine ⟨_, rfl, ?_⟩; have n0_ := Aside0.mk (Kd.R_below (kr_ HO_8) hb); have n1_ := Aside0.mk (Kd.R_below (kr_ HO_10) hb); have n2_ := Aside0.mk (Kd.R_below (kr_ HO_11) hb); have n3_ := Aside0.mk (Kd.R_below (kr_ HO_12) hb); have n4_ := Aside0.mk (Kd.R_below (kr_ HO718) hb); have n5_ := Aside0.mk (Kd.R_below (kr_ HO722) hb); have n6_ := Aside0.mk (below_step hb_ hb); clear HO_8; clear HO_10; clear HO_11; clear HO_12; clear HO718; clear HO722; clear HB; have HO_8 := n0_; have HO_10 := n1_; have HO_11 := n2_; have HO_12 := n3_; have HO718 := n4_; have HO722 := n5_; have HB := n6_; clear n0_ n1_ n2_ n3_ n4_ n5_ n6_; (try clear hb); (try clear hb2); (try clear hk); (try clear hi)))
        go_ret
        exact ⟨ew_, hb_⟩
      ·replace c39 := Bool.eq_false_iff.mpr c39
       subst c39
       have H1 : (some false) = some r := by rw [if_neg (show ¬ (false = true) by decide)] at H; exact H
       clear H
       have H := H1
       clear H1
       obtain rfl := Option.some.inj H
       go_wp2_with (first | ((with_reducible refine gate_callee (f := 22) rfl ?_); refine goesL_ (some 60) rfl rfl Try.func22 (by kernel_rfl) rfl #[.slice A0 l0.length c0] rfl ln_ ?_; (with_reducible refine (laws_toGearS.calls kj16 _ _ l0 t716 _ ?side1 ?side2 A37.out).mono ?_); (case side1 => exact kc_ (Kd.C_below HR0.out HB.out)); (case side2 => exact HC0.out); rintro e w103 ⟨v717, rfl, ho0, hb⟩; refine ⟨_, rfl, ?_⟩; have n0_ := Aside0.mk (Kd.R_below (kr_ HO_8) hb); have n1_ := Aside0.mk (Kd.R_elder' (kr_ HO_10) (Kd.R_base ho0) hb); have n2_ := Aside0.mk (Kd.R_below (kr_ HO_11) hb); have n3_ := Aside0.mk (Kd.R_below (kr_ HO_12) hb); have n4_ := Aside0.mk (Kd.R_lower (Kd.R_new' ho0 (Kd.R_lt (kr_ HO_10))) (below_size hb_)); have n5_ := Aside0.mk (below_step hb_ hb); clear HO_8; clear HO_10; clear HO_11; clear HO_12; clear HB; have HO_8 := n0_; have HO_10 := n1_; have HO_11 := n2_; have HO_12 := n3_; have HO718 := n4_; have HB := n5_; clear n0_ n1_ n2_ n3_ n4_ n5_; (try clear hb); (try clear hb2); (try clear hk); (try clear hi); (try clear ho0); obtain ⟨Ao104, co104, eo104⟩ := Kd.R_slice HO718.out; subst eo104) | ((with_reducible refine gate_callee (f := 24) rfl ?_); refine goesL_ (some 61) rfl rfl Try.func24 (by kernel_rfl) rfl #[.slice Ao27 t705.length co27, .slice Ao104 t716.length co104] rfl ln_ ?_; (with_reducible refine (laws_eqGearS.calls kj16 _ _ t705 _ _ t716 false _ ?side1 ?side2 ?side3 ?side4 A38.out).mono ?_); (case side1 => repeat (first | exact (Kd.R_reads' HO_10.out).2.2 | (with_reducible refine Kd.C_alloc ?_ _) | (with_reducible refine Kd.C_drewN ?_ _) | (with_reducible refine Kd.C_drew ?_))); (case side2 => exact (Kd.R_reads' HO_10.out).2.1); (case side3 => repeat (first | exact (Kd.R_reads' HO718.out).2.2 | (with_reducible refine Kd.C_alloc ?_ _) | (with_reducible refine Kd.C_drewN ?_ _) | (with_reducible refine Kd.C_drew ?_))); (case side4 => exact (Kd.R_reads' HO718.out).2.1); rintro e w105 ⟨rfl, hb⟩; refine ⟨_, rfl, ?_⟩; have n0_ := Aside0.mk (Kd.R_below (kr_ HO_8) hb); have n1_ := Aside0.mk (Kd.R_below (kr_ HO_10) hb); have n2_ := Aside0.mk (Kd.R_below (kr_ HO_11) hb); have n3_ := Aside0.mk (Kd.R_below (kr_ HO_12) hb); have n4_ := Aside0.mk (Kd.R_below (kr_ HO718) hb); have n5_ := Aside0.mk (below_step hb_ hb); clear HO_8; clear HO_10; clear HO_11; clear HO_12; clear HO718; clear HB; have HO_8 := n0_; have HO_10 := n1_; have HO_11 := n2_; have HO_12 := n3_; have HO718 := n4_; have HB := n5_; clear n0_ n1_ n2_ n3_ n4_ n5_; (try clear hb); (try clear hb2); (try clear hk); (try clear hi)))
       go_ret
       exact ⟨ew_, hb_⟩

end Go.Proofs.Ytdbigcfpinpnpaa.P
