/- Texts of this claim, packed: Px2. -/
import Derived.Test.YtcenjcgfdghfnaaDoorZYtcenjcgfdghfnaaDoorCardFnExactRigText1
section
-- Written by gprint.py (own program, over the printer of the kit) out of the translation. Lean checks it.
namespace Go.Proofs.YtcenjcgfdghfnaaDoor.P
open Go.RowKit Go.Proofs.YtcenjcgfdghfnaaDoorW.PrintWords Go.Proofs.YtcenjcgfdghfnaaDoorW.PrintLast Go.Proofs.YtcenjcgfdghfnaaDoorW.PrintMore Go.Proofs.YtcenjcgfdghfnaaDoorW.Pk
open Bool renaming true → T_, false → F_
open List renaming setIfInBounds_toArray → sT_, set_cons_zero → s0_, set_cons_succ → sS_
attribute [local go_sem] max2_int min2_int max_two min_two max_three min_three max_four min_four   -- for this text's walks alone
set_option linter.unusedVariables false
set_option linter.unusedSimpArgs false

/-! ### laws_toRail: function 75 -/
def laws_toRail.f (a0_0 : ByteArray) (a0_1 : ByteArray) (a0_2 : Int) : Option (ByteArray × ByteArray × Int) := some (a0_0, a0_1, a0_2)
set_option maxHeartbeats 8000000 in
set_option maxRecDepth 100000 in
theorem laws_toRail.calls (a0_0 : ByteArray) (a0_1 : ByteArray) (a0_2 : Int) (r1 : ByteArray) (r2 : ByteArray) (r3 : Int) (w : World) (h : laws_toRail.f a0_0 a0_1 a0_2 = some (r1, r2, r3)) :
  Calls Tryd.prog 75 #[.agg #[.string a0_0, .string a0_1, .int .i64 a0_2]] w fun e w' => e = .returned (.agg #[.string r1, .string r2, .int .i64 r3]) ∧ Below w.heap.size w w' := by
 have hu92 := Tryd.underlying92
 have hu64 := Tryd.underlying64
 have HB := Aside0.mk (Below.refl w.heap.size w)
 have H : (some (a0_0, a0_1, a0_2)) = some (r1, r2, r3) := h
 clear h
 simp only [Option.some.injEq, Prod.mk.injEq] at H
 obtain ⟨rfl, rfl, rfl⟩ := H
 go_enter Tryd.func75, Tryd.ntmps75
 go_wp2_with (first | ((with_reducible refine gate_dst (N := 1) rfl ?_); refine box_event ?hg (N := 1) ?hd (cs := #[.string a0_0, .string a0_1, .int .i64 a0_2]) (t := 92) ?hr ?_; (case hd => rfl); (case hg => rfl); (case hr => first | (go_simp; done) | (go_simp; rfl)); intro gb155 hg w2 hbox hb; have n0_ := Aside0.mk (below_step hb_ hb); have n1_ := Aside0.mk (hbox); have n2_ := Aside0.mk ((by rw [hg]; exact (below_size hb_) : w.heap.size ≤ gb155)); have n3_ := Aside0.mk ((by rw [hg]; exact (below_size hb_) : w.heap.size ≤ gb155)); clear HB; have HB := n0_; have BK155 := n1_; have GW155 := n2_; have GE155 := n3_; clear n0_ n1_ n2_ n3_; clear hb hbox hg) | ((with_reducible refine gate_dst (N := 2) rfl ?_); refine box_event ?hg (N := 2) ?hd (cs := #[.string (⟨#[]⟩ : ByteArray), .string (⟨#[]⟩ : ByteArray), .int .i64 0]) (t := 64) ?hr ?_; (case hd => rfl); (case hg => rfl); (case hr => first | (go_simp; done) | (go_simp; rfl)); intro gb156 hg w3 hbox hb; have n0_ := Aside0.mk (blk_below (g := gb155) (o := .cells #[.string a0_0, .string a0_1, .int .i64 a0_2] 92 (0, 0)) (bk_ BK155) hb); have n1_ := Aside0.mk (below_step (hg_ GE155) hb); have n2_ := Aside0.mk (hbox); have n3_ := Aside0.mk ((by rw [hg]; exact (below_size (hg_ GE155)) : w.heap.size ≤ gb156)); have n4_ := Aside0.mk ((by rw [hg]; exact (below_size (hg_ GE155)) : w.heap.size ≤ gb156)); have n5_ := Aside0.mk ((by rw [hg]; exact Nat.ne_of_lt (blk_lt (g := gb155) (o := .cells #[.string a0_0, .string a0_1, .int .i64 a0_2] 92 (0, 0)) (bk_ BK155)) : gb155 ≠ gb156)); have n6_ := Aside0.mk ((by rw [hg]; exact Nat.ne_of_gt (blk_lt (g := gb155) (o := .cells #[.string a0_0, .string a0_1, .int .i64 a0_2] 92 (0, 0)) (bk_ BK155)) : gb156 ≠ gb155)); clear BK155; clear HB; have BK155 := n0_; have HB := n1_; have BK156 := n2_; have GW156 := n3_; have GE156 := n4_; have NB155_156 := n5_; have NB156_155 := n6_; clear n0_ n1_ n2_ n3_ n4_ n5_ n6_; clear hb hbox hg) | ((with_reducible refine gate_dst (N := 3) rfl ?_); refine box_event ?hg (N := 3) ?hd (cs := #[.string (⟨#[]⟩ : ByteArray), .string (⟨#[]⟩ : ByteArray), .int .i64 0]) (t := 64) ?hr ?_; (case hd => rfl); (case hg => rfl); (case hr => first | (go_simp; done) | (go_simp; rfl)); intro gb157 hg w4 hbox hb; have n0_ := Aside0.mk (blk_below (g := gb155) (o := .cells #[.string a0_0, .string a0_1, .int .i64 a0_2] 92 (0, 0)) (bk_ BK155) hb); have n1_ := Aside0.mk (blk_below (g := gb156) (o := .cells #[.string (⟨#[]⟩ : ByteArray), .string (⟨#[]⟩ : ByteArray), .int .i64 0] 64 (0, 0)) (bk_ BK156) hb); have n2_ := Aside0.mk (below_step (hg2_ GE155 GE156) hb); have n3_ := Aside0.mk (hbox); have n4_ := Aside0.mk ((by rw [hg]; exact (below_size (hg2_ GE155 GE156)) : w.heap.size ≤ gb157)); have n5_ := Aside0.mk ((by rw [hg]; exact (below_size (hg2_ GE155 GE156)) : w.heap.size ≤ gb157)); have n6_ := Aside0.mk ((by rw [hg]; exact Nat.ne_of_lt (blk_lt (g := gb155) (o := .cells #[.string a0_0, .string a0_1, .int .i64 a0_2] 92 (0, 0)) (bk_ BK155)) : gb155 ≠ gb157)); have n7_ := Aside0.mk ((by rw [hg]; exact Nat.ne_of_gt (blk_lt (g := gb155) (o := .cells #[.string a0_0, .string a0_1, .int .i64 a0_2] 92 (0, 0)) (bk_ BK155)) : gb157 ≠ gb155)); have n8_ := Aside0.mk ((by rw [hg]; exact Nat.ne_of_lt (blk_lt (g := gb156) (o := .cells #[.string (⟨#[]⟩ : ByteArray), .string (⟨#[]⟩ : ByteArray), .int .i64 0] 64 (0, 0)) (bk_ BK156)) : gb156 ≠ gb157)); have n9_ := Aside0.mk ((by rw [hg]; exact Nat.ne_of_gt (blk_lt (g := gb156) (o := .cells #[.string (⟨#[]⟩ : ByteArray), .string (⟨#[]⟩ : ByteArray), .int .i64 0] 64 (0, 0)) (bk_ BK156)) : gb157 ≠ gb156)); clear BK155; clear BK156; clear HB; have BK155 := n0_; have BK156 := n1_; have HB := n2_; have BK157 := n3_; have GW157 := n4_; have GE157 := n5_; have NB155_157 := n6_; have NB157_155 := n7_; have NB156_157 := n8_; have NB157_156 := n9_; clear n0_ n1_ n2_ n3_ n4_ n5_ n6_ n7_ n8_ n9_; clear hb hbox hg; have hnb5 := NB155_156.out; have hnc5 := NB156_155.out; have hnb6 := NB155_157.out; have hnc6 := NB157_155.out; have hcz7_0 : w4.cell? ⟨gb155, 0, none⟩ = some (.string a0_0) := (blk_cell BK155.out 0).trans rfl; have hcz7_1 : w4.cell? ⟨gb155, 1, none⟩ = some (.string a0_1) := (blk_cell BK155.out 1).trans rfl; have hcz7_2 : w4.cell? ⟨gb155, 2, none⟩ = some (.int .i64 a0_2) := (blk_cell BK155.out 2).trans rfl; have hfz7_0 := blk_frozen BK155.out 0; have hfz7_1 := blk_frozen BK155.out 1; have hfz7_2 := blk_frozen BK155.out 2; have hnb8 := NB157_156.out; have hnc8 := NB156_157.out; have hcz9_0 : w4.cell? ⟨gb157, 0, none⟩ = some (.string (⟨#[]⟩ : ByteArray)) := (blk_cell BK157.out 0).trans rfl; have hcz9_1 : w4.cell? ⟨gb157, 1, none⟩ = some (.string (⟨#[]⟩ : ByteArray)) := (blk_cell BK157.out 1).trans rfl; have hcz9_2 : w4.cell? ⟨gb157, 2, none⟩ = some (.int .i64 0) := (blk_cell BK157.out 2).trans rfl; have hfz9_0 := blk_frozen BK157.out 0; have hfz9_1 := blk_frozen BK157.out 1; have hfz9_2 := blk_frozen BK157.out 2; have hcz10_0 : w4.cell? ⟨gb156, 0, none⟩ = some (.string (⟨#[]⟩ : ByteArray)) := (blk_cell BK156.out 0).trans rfl; have hcz10_1 : w4.cell? ⟨gb156, 1, none⟩ = some (.string (⟨#[]⟩ : ByteArray)) := (blk_cell BK156.out 1).trans rfl; have hcz10_2 : w4.cell? ⟨gb156, 2, none⟩ = some (.int .i64 0) := (blk_cell BK156.out 2).trans rfl; have hfz10_0 := blk_frozen BK156.out 0; have hfz10_1 := blk_frozen BK156.out 1; have hfz10_2 := blk_frozen BK156.out 2))
 refine bodyPost_ret (results_cell_row rfl _ _ gb156 64 #[.string a0_0, .string a0_1, .int .i64 a0_2] (0, 0) _ rfl (by (with_reducible repeat (first | refine blk_drewN ?_ _ | refine blk_drew ?_ | refine blk_alloc ?_ _)); refine blk_put (cs := #[.string a0_0, .string a0_1, .int .i64 0]) ?_ 2 _ rfl; (with_reducible repeat (first | refine blk_drewN ?_ _ | refine blk_drew ?_ | refine blk_alloc ?_ _)); refine blk_put (cs := #[.string a0_0, .string (⟨#[]⟩ : ByteArray), .int .i64 0]) ?_ 1 _ rfl; (with_reducible repeat (first | refine blk_drewN ?_ _ | refine blk_drew ?_ | refine blk_alloc ?_ _)); refine blk_put (cs := #[.string (⟨#[]⟩ : ByteArray), .string (⟨#[]⟩ : ByteArray), .int .i64 0]) ?_ 0 _ rfl; (with_reducible repeat (first | refine blk_drewN ?_ _ | refine blk_drew ?_ | refine blk_alloc ?_ _)); refine blk_far ?_ NB156_157.out _; (with_reducible repeat (first | refine blk_drewN ?_ _ | refine blk_drew ?_ | refine blk_alloc ?_ _)); refine blk_far ?_ NB156_157.out _; (with_reducible repeat (first | refine blk_drewN ?_ _ | refine blk_drew ?_ | refine blk_alloc ?_ _)); refine blk_far ?_ NB156_157.out _; (with_reducible repeat (first | refine blk_drewN ?_ _ | refine blk_drew ?_ | refine blk_alloc ?_ _)); exact BK156.out) Tryd.underlying64 rfl (by kernel_rfl)) rfl ?_
 exact ⟨ew_, by repeat (first | (with_reducible first | exact HB.out | apply below_alloc | apply pw_below_drewN | apply below_drew1 | refine below_set ?_ GE155.out | refine below_set ?_ GE156.out | refine below_set ?_ GE157.out) | exact HB.out)⟩

/-! ### laws_toRailS: function 34 -/
def laws_toRailS.l0 : Nat → List (S92) → List (S64) → Int → Option ((List (S64)))
 | 0, _, _, _ => none
 | k + 1, x0, x3, x4 => if x4 < (x0.length : Int) then (if 0 ≤ x4 then ((laws_toRail.f ((rd_T92 x0 x4).f0) ((rd_T92 x0 x4).f1) ((rd_T92 x0 x4).f2)).bind fun bt162 => (if x4 < (x3.length : Int) then (laws_toRailS.l0 k x0 (x3.set (x4 : Int).toNat (⟨bt162.1, bt162.2.1, bt162.2.2⟩ : S64)) (wrap64 (x4 + 1))) else (none))) else (none)) else (some x3)
def laws_toRailS.f (k : Nat) (l0 : List (S92)) : Option ((List (S64))) := if 0 ≤ (l0.length : Int) then (if ((l0.length : Int) : Int).toNat ≤ 7036874417766 then (laws_toRailS.l0 k l0 (List.replicate ((l0.length : Int) : Int).toNat z64) 0) else (none)) else (none)
set_option maxHeartbeats 8000000 in
set_option maxRecDepth 100000 in
theorem laws_toRailS.calls (k : Nat) (A0 : Option Addr) (c0 : Nat) (l0 : List (S92)) (r : List (S64)) (w : World) (hr0 : Kd.C k92 w A0 l0.length l0) (hc0 : l0.length ≤ c0) (h : laws_toRailS.f k l0 = some r) :
  Calls Tryd.prog 34 #[.slice A0 l0.length c0] w fun e w' => ∃ v0_ : Value, e = .returned (v0_) ∧ Kd.R k64 64 w' w.heap.size (fun _ => True) v0_ r ∧ Below w.heap.size w w' := by
 have hu92 := Tryd.underlying92
 have hu64 := Tryd.underlying64
 have HR0 := Aside0.mk hr0
 have HC0 := Aside0.mk hc0
 clear hr0 hc0
 have HB := Aside0.mk (Below.refl w.heap.size w)
 have H : (if 0 ≤ (l0.length : Int) then (if ((l0.length : Int) : Int).toNat ≤ 7036874417766 then (laws_toRailS.l0 k l0 (List.replicate ((l0.length : Int) : Int).toNat z64) 0) else (none)) else (none)) = some r := h
 clear h
 by_cases c2 : 0 ≤ (l0.length : Int)
 ·rw [if_pos c2] at H
  have c2b0 := eq_true c2
  have c2b1 : decide (0 ≤ (l0.length : Int)) = true := decide_eq_true c2
  clear c2
  by_cases c3 : ((l0.length : Int) : Int).toNat ≤ 7036874417766
  ·rw [if_pos c3] at H
   have c3b0 := eq_true c3
   have c3b1 : decide (((l0.length : Int) : Int).toNat ≤ 7036874417766) = true := decide_eq_true c3
   clear c3
   obtain ⟨y158, hy158⟩ : ∃ y_ : List (S64), y_ = (List.replicate ((l0.length : Int) : Int).toNat z64) := ⟨_, rfl⟩
   replace H : (laws_toRailS.l0 k l0 y158 0) = some r := by first | (rw [hy158]; with_reducible exact H) | (have H2_ := (Option.bind_some _ _).symm.trans H; rw [hy158]; with_reducible exact H2_) | (have H2_ := (Option.bind_some _ _).symm.trans H; with_reducible exact H2_) | with_reducible exact H | (rw [hy158]; exact H) | exact H
   have Ny158 := Aside0.mk hy158
   clear hy158
   have H' := Aside0.mk H
   clear H
   go_enter Tryd.func34, Tryd.ntmps34
   go_wp2_with (first | ((with_reducible refine gate_dst (N := 7) rfl ?_); refine Kd.R_make k64 _ 64 rfl (N := 7) rfl 29 _ _ rfl (l0.length : Int) rfl rfl Tryd.underlying29 (.agg #[(.string ⟨#[]⟩), (.string ⟨#[]⟩), (.int .i64 0)]) 40 info64 rfl (by decide) (by omega) z64 (ok := fun _ => True) (okp := fun _ => True) (k64_mkM _ _ _ z64 ) (fun _ hk => hk) trivial (od_) (Nat.le_trans (Nat.mul_le_mul_right _ (od_ : (l0.length : Int).toNat ≤ 7036874417766)) (by omega)) (Below.refl _ _) (Nat.le_refl _) ?_; intro v159 w4 ho5 hb hg_ hnew_; clear hg_ hnew_; (first | rw [← Ny158.out] at ho5 | (simp only [Int.reduceToNat] at ho5; rw [← Ny158.out] at ho5)); have n0_ := Aside0.mk (Kd.R_lower ho5 (below_size hb_)); have n1_ := Aside0.mk (below_step hb_ hb); clear HB; have HO160 := n0_; have HB := n1_; clear n0_ n1_; clear hb ho5))
   go_loopg [4] k (fun kq v4 w' => ∃ (x3_1 : List (S64)) (x4_1 : Int), v4 = .int .i64 x4_1 ∧ Aside0 (laws_toRailS.l0 kq l0 x3_1 x4_1 = some r) ∧ Aside0 (kq ≤ k) ∧ Aside0 (Kd.R k64 64 w' w.heap.size (fun _ => True) v159 x3_1) ∧ Aside0 (Below w.heap.size w w'))
   case atStart => exact ⟨(y158), (0), (by first | rfl | (simp; done) | (simp [*]; done)), H', ⟨Nat.le_refl _⟩, ⟨by (with_reducible repeat (first | apply Kd.R_alloc | apply Kd.R_drewN | apply Kd.R_drew)); exact HO160.out⟩, ⟨hb_⟩⟩
   case round =>
    clear H'
    try clear c2
    try clear c2b0
    try clear c2b1
    try clear p2
    try clear c3
    try clear c3b0
    try clear c3b1
    obtain ⟨x3_1, x4_1, rfl, HA, HK1, HO_3, HB⟩ := hrel
    cases gk with
    | zero => exact absurd HA.out (by simp [laws_toRailS.l0])
    | succ k1 =>
     have H := HA.out
     clear HA
     simp only [laws_toRailS.l0] at H
     by_cases c6 : x4_1 < (l0.length : Int)
     ·rw [if_pos c6] at H
      have c6b0 : decide (x4_1 < (l0.length : Int)) = true := decide_eq_true c6
      clear c6
      by_cases c7 : 0 ≤ x4_1
      ·rw [if_pos c7] at H
       have c7b0 : decide (0 ≤ x4_1) = true := decide_eq_true c7
       clear c7
       replace H := Option.bind_eq_some_iff.mp H
       obtain ⟨⟨t162, t163, t164⟩, A80, H⟩ := H
       replace H : (if x4_1 < (x3_1.length : Int) then (laws_toRailS.l0 k1 l0 (x3_1.set (x4_1 : Int).toNat (⟨t162, t163, t164⟩ : S64)) (wrap64 (x4_1 + 1))) else (none)) = some r := H
       have A8 := Aside0.mk A80
       clear A80
       by_cases c9 : x4_1 < (x3_1.length : Int)
       ·rw [if_pos c9] at H
        have c9b0 : decide (x4_1 < (x3_1.length : Int)) = true := decide_eq_true c9
        clear c9
        obtain ⟨y165, hy165⟩ : ∃ y_ : List (S64), y_ = (x3_1.set (x4_1 : Int).toNat (⟨t162, t163, t164⟩ : S64)) := ⟨_, rfl⟩
        replace H : (laws_toRailS.l0 k1 l0 y165 (wrap64 (x4_1 + 1))) = some r := by first | (rw [hy165]; with_reducible exact H) | (have H2_ := (Option.bind_some _ _).symm.trans H; rw [hy165]; with_reducible exact H2_) | (have H2_ := (Option.bind_some _ _).symm.trans H; with_reducible exact H2_) | with_reducible exact H | (rw [hy165]; exact H) | exact H
        have Ny165 := Aside0.mk hy165
        clear hy165
        have H' := Aside0.mk H
        clear H
        have p161 : 0 ≤ (x4_1 : Int) := od_
        have q161 : x4_1 < (l0.length : Int) := od_
        obtain ⟨ad161, e161, hx161_0, hx161_1, hx161_2⟩ := at_T92 HR0.out x4_1 p161 q161
        cases e161
        replace hx161_0 := cq_ HB hx161_0
        replace hx161_1 := cq_ HB hx161_1
        replace hx161_2 := cq_ HB hx161_2
        replace p161 := eq_true p161
        replace q161 := eq_true q161
        go_wp2_with (first | ((with_reducible refine gate_callee (f := 75) rfl ?_); refine goesL_ (some 20) rfl rfl Tryd.func75 (by kernel_rfl) rfl #[.agg #[.string ((rd_T92 l0 x4_1).f0), .string ((rd_T92 l0 x4_1).f1), .int .i64 ((rd_T92 l0 x4_1).f2)]] rfl ln_ ?_; (with_reducible refine (laws_toRail.calls ((rd_T92 l0 x4_1).f0) ((rd_T92 l0 x4_1).f1) ((rd_T92 l0 x4_1).f2) t162 t163 t164 _ A8.out).mono ?_); rintro e w11 ⟨rfl, hb⟩; refine ⟨_, rfl, ?_⟩; have n0_ := Aside0.mk (Kd.R_below (kr_ HO_3) hb); have n1_ := Aside0.mk (below_step hb_ hb); clear HO_3; clear HB; have HO_3 := n0_; have HB := n1_; clear n0_ n1_; (try clear hb); (try clear hb2); (try clear hk); (try clear hi); have p10 : 0 ≤ (x4_1 : Int) := od_; have q10 : (x4_1 : Int) < ((x3_1.length : Int) : Int) := od_; obtain ⟨go10, co10, eo10, gb10, gl10, cl10, HG10⟩ := Kd.R_form HO_3.out (by omega); (first | cases eo10 | (injection eo10 with ea_ en_ ec_; (first | subst ea_ | (injection ea_ with ea_; subst ea_)); subst ec_; clear en_)); have GB10 := Aside0.mk gb10; have GG10 := Aside0.mk HG10; clear gb10 gl10 HG10; obtain ⟨ce10, hcl10, hM10, hcc10, hfr10⟩ := Kd.R_elem HO_3.out z64 (x4_1 : Int) p10 q10; obtain rfl := k64_openM hM10; have hx10_0 : w11.cell? ⟨go10, (x4_1 : Int).toNat * 3, none⟩ = some (.string ((rd_T64 x3_1 x4_1).f0)) := hcc10 0 _ rfl; have hx10_1 : w11.cell? ⟨go10, (x4_1 : Int).toNat * 3 + 1, none⟩ = some (.string ((rd_T64 x3_1 x4_1).f1)) := hcc10 1 _ rfl; have hx10_2 : w11.cell? ⟨go10, (x4_1 : Int).toNat * 3 + 2, none⟩ = some (.int .i64 ((rd_T64 x3_1 x4_1).f2)) := hcc10 2 _ rfl; have hf10_0 : w11.frozen? ⟨go10, (x4_1 : Int).toNat * 3, none⟩ = false := hfr10 0; have hf10_1 : w11.frozen? ⟨go10, (x4_1 : Int).toNat * 3 + 1, none⟩ = false := hfr10 1; have hf10_2 : w11.frozen? ⟨go10, (x4_1 : Int).toNat * 3 + 2, none⟩ = false := hfr10 2; (try clear hcl10); (try clear hcc10); (try clear hfr10); (try clear hM10); replace p10 := eq_true p10; replace q10 := eq_true q10; have HX12 := Aside0.mk (show Kd.R k64 64 w11 w.heap.size (fun _ => True) (.slice (some ⟨go10, 0, none⟩) x3_1.length co10) x3_1 from (kr_ HO_3)); obtain ⟨ce12, hcl12, hM12, hcc12, hfr12⟩ := Kd.R_elem HX12.out z64 (x4_1 : Int) (od_) (by have h_ : (x4_1 : Int) < ((x3_1.length : Int) : Int) := od_; first | exact h_ | (have e_ := (Kd.R_reads' HO_3.out).1; omega) | simpa using h_); obtain rfl := k64_openM hM12; have HP12 := Kd.R_seg HX12.out (x4_1 : Int) (od_) (by have h_ : (x4_1 : Int) < ((x3_1.length : Int) : Int) := od_; first | exact h_ | (have e_ := (Kd.R_reads' HO_3.out).1; omega) | simpa using h_) (seg := [.string t162, .string t163, .int .i64 t164]) (j := 0) hcl12 hcc12 (show 3 ≤ 3 from by decide) (x' := (⟨t162, t163, t164⟩ : S64)) (k64_mkM _ _ _ (⟨t162, t163, t164⟩ : S64) ) (fun _ hk => hk); have hx12_0 := hcc12 0 _ rfl; (try simp only [show (k64).sz = 3 from rfl, Nat.mul_one, Nat.add_zero] at hx12_0); have hf12_0 := hfr12 0; (try simp only [show (k64).sz = 3 from rfl, Nat.mul_one, Nat.add_zero] at hf12_0); have hx12_1 := hcc12 1 _ rfl; (try simp only [show (k64).sz = 3 from rfl, Nat.mul_one, Nat.add_zero] at hx12_1); have hf12_1 := hfr12 1; (try simp only [show (k64).sz = 3 from rfl, Nat.mul_one, Nat.add_zero] at hf12_1); have hx12_2 := hcc12 2 _ rfl; (try simp only [show (k64).sz = 3 from rfl, Nat.mul_one, Nat.add_zero] at hx12_2); have hf12_2 := hfr12 2; (try simp only [show (k64).sz = 3 from rfl, Nat.mul_one, Nat.add_zero] at hf12_2); (try clear hcl12); (try clear hcc12); (try clear hfr12); (try clear hM12)) | ((with_reducible refine gate_store (t := 64) (p := 21) rfl ?_); refine store_event (t := 64) (p := 21) (v := ?vo_w13) (w1 := (((w11.setCell ⟨go10, (x4_1 : Int).toNat * 3, none⟩ (.string t162)).setCell ⟨go10, (x4_1 : Int).toNat * 3 + 1, none⟩ (.string t163)).setCell ⟨go10, (x4_1 : Int).toNat * 3 + 2, none⟩ (.int .i64 t164))) ?hg ?ho ?hn ?hr ?_; (case ho => rfl); (case hg => rfl); (case hn => rfl); (case hr => first | (go_simp; done) | (go_simp; rfl)); intro w13 hw; have hg : w11.grownBy w13 (some go10) := (by rw [hw]; exact HP12.2); have hp_ : Kd.R k64 64 w13 w.heap.size (fun _ => True) (.slice (some ⟨go10, 0, none⟩) x3_1.length co10) y165 := (by rw [hw, Ny165.out]; exact HP12.1); clear HP12; have n0_ := Aside0.mk (hp_); have n1_ := Aside0.mk ((by rw [hw]; exact below_set (below_set (below_set (HB.out) GB10.out) GB10.out) GB10.out : Below w.heap.size w w13)); clear HO_3; clear HB; have HO_3 := n0_; have HB := n1_; clear n0_ n1_; clear hg hw hp_))
        go_roundg k1
        case measure => have := HK1.out; omega
        case rel => exact ⟨(y165), (wrap64 (x4_1 + 1)), (by first | rfl | (simp; done) | (simp [*]; done)), H', ⟨by have := HK1.out; omega⟩, ⟨by (with_reducible repeat (first | apply Kd.R_alloc | apply Kd.R_drewN | apply Kd.R_drew)); exact HO_3.out⟩, ⟨hb_⟩⟩
       ·rw [if_neg c9] at H
        exact absurd H (by simp)
      ·rw [if_neg c7] at H
       exact absurd H (by simp)
     ·rw [if_neg c6] at H
      have c6b0 : decide (x4_1 < (l0.length : Int)) = false := decide_eq_false c6
      clear c6
      obtain rfl := Option.some.inj H
      go_wp2
      go_ret
      exact ⟨_, ew_, by (with_reducible repeat (first | apply Kd.R_alloc | apply Kd.R_drewN | apply Kd.R_drew)); exact HO_3.out, hb_⟩
  ·rw [if_neg c3] at H
   exact absurd H (by simp)
 ·rw [if_neg c2] at H
  exact absurd H (by simp)

/-! ### laws_toStringS: function 35 -/
def laws_toStringS.l0 : Nat → List ByteArray → List ByteArray → Int → Option (List ByteArray)
 | 0, _, _, _ => none
 | k + 1, x0, x3, x4 => if x4 < (x0.length : Int) then (if 0 ≤ x4 then (if x4 < (x3.length : Int) then (laws_toStringS.l0 k x0 (x3.set (x4 : Int).toNat (rdOf ByteArray.empty x0 x4)) (wrap64 (x4 + 1))) else (none)) else (none)) else (some x3)
def laws_toStringS.f (k : Nat) (l0 : List ByteArray) : Option (List ByteArray) := if 0 ≤ (l0.length : Int) then (if ((l0.length : Int) : Int).toNat ≤ 17592186044416 then (laws_toStringS.l0 k l0 (List.replicate ((l0.length : Int) : Int).toNat (⟨#[]⟩ : ByteArray)) 0) else (none)) else (none)
set_option maxHeartbeats 8000000 in
set_option maxRecDepth 100000 in
theorem laws_toStringS.calls (k : Nat) (A0 : Option Addr) (c0 : Nat) (l0 : List ByteArray) (r : List ByteArray) (w : World) (hr0 : Kd.C Kd.string w A0 l0.length l0) (hc0 : l0.length ≤ c0) (h : laws_toStringS.f k l0 = some r) :
  Calls Tryd.prog 35 #[.slice A0 l0.length c0] w fun e w' => ∃ v0_ : Value, e = .returned (v0_) ∧ Kd.R Kd.string 9 w' w.heap.size (fun _ => True) v0_ r ∧ Below w.heap.size w w' := by
 have HR0 := Aside0.mk hr0
 have HC0 := Aside0.mk hc0
 clear hr0 hc0
 have HB := Aside0.mk (Below.refl w.heap.size w)
 have H : (if 0 ≤ (l0.length : Int) then (if ((l0.length : Int) : Int).toNat ≤ 17592186044416 then (laws_toStringS.l0 k l0 (List.replicate ((l0.length : Int) : Int).toNat (⟨#[]⟩ : ByteArray)) 0) else (none)) else (none)) = some r := h
 clear h
 by_cases c2 : 0 ≤ (l0.length : Int)
 ·rw [if_pos c2] at H
  have c2b0 := eq_true c2
  have c2b1 : decide (0 ≤ (l0.length : Int)) = true := decide_eq_true c2
  clear c2
  by_cases c3 : ((l0.length : Int) : Int).toNat ≤ 17592186044416
  ·rw [if_pos c3] at H
   have c3b0 := eq_true c3
   have c3b1 : decide (((l0.length : Int) : Int).toNat ≤ 17592186044416) = true := decide_eq_true c3
   clear c3
   obtain ⟨y166, hy166⟩ : ∃ y_ : List ByteArray, y_ = (List.replicate ((l0.length : Int) : Int).toNat (⟨#[]⟩ : ByteArray)) := ⟨_, rfl⟩
   replace H : (laws_toStringS.l0 k l0 y166 0) = some r := by first | (rw [hy166]; with_reducible exact H) | (have H2_ := (Option.bind_some _ _).symm.trans H; rw [hy166]; with_reducible exact H2_) | (have H2_ := (Option.bind_some _ _).symm.trans H; with_reducible exact H2_) | with_reducible exact H | (rw [hy166]; exact H) | exact H
   have Ny166 := Aside0.mk hy166
   clear hy166
   have H' := Aside0.mk H
   clear H
   go_enter Tryd.func35, Tryd.ntmps35
   go_wp2_with (first | ((with_reducible refine gate_dst (N := 7) rfl ?_); refine Kd.R_make Kd.string _ 9 rfl (N := 7) rfl 23 _ _ rfl (l0.length : Int) rfl rfl Tryd.underlying23 (.string ⟨#[]⟩) 16 info9 rfl (by decide) (by omega) (⟨#[]⟩ : ByteArray) (ok := fun _ => True) (okp := fun _ => True) rfl (fun _ hk => hk) trivial (od_) (Nat.le_trans (Nat.mul_le_mul_right _ (od_ : (l0.length : Int).toNat ≤ 17592186044416)) (by omega)) (Below.refl _ _) (Nat.le_refl _) ?_; intro v167 w4 ho5 hb hg_ hnew_; clear hg_ hnew_; (first | rw [← Ny166.out] at ho5 | (simp only [Int.reduceToNat] at ho5; rw [← Ny166.out] at ho5)); have n0_ := Aside0.mk (Kd.R_lower ho5 (below_size hb_)); have n1_ := Aside0.mk (below_step hb_ hb); clear HB; have HO168 := n0_; have HB := n1_; clear n0_ n1_; clear hb ho5))
   go_loopg [4] k (fun kq v4 w' => ∃ (x3_1 : List ByteArray) (x4_1 : Int), v4 = .int .i64 x4_1 ∧ Aside0 (laws_toStringS.l0 kq l0 x3_1 x4_1 = some r) ∧ Aside0 (kq ≤ k) ∧ Aside0 (Kd.R Kd.string 9 w' w.heap.size (fun _ => True) v167 x3_1) ∧ Aside0 (Below w.heap.size w w'))
   case atStart => exact ⟨(y166), (0), (by first | rfl | (simp; done) | (simp [*]; done)), H', ⟨Nat.le_refl _⟩, ⟨by (with_reducible repeat (first | apply Kd.R_alloc | apply Kd.R_drewN | apply Kd.R_drew)); exact HO168.out⟩, ⟨hb_⟩⟩
   case round =>
    clear H'
    try clear c2
    try clear c2b0
    try clear c2b1
    try clear p2
    try clear c3
    try clear c3b0
    try clear c3b1
    obtain ⟨x3_1, x4_1, rfl, HA, HK1, HO_3, HB⟩ := hrel
    cases gk with
    | zero => exact absurd HA.out (by simp [laws_toStringS.l0])
    | succ k1 =>
     have H := HA.out
     clear HA
     simp only [laws_toStringS.l0] at H
     by_cases c6 : x4_1 < (l0.length : Int)
     ·rw [if_pos c6] at H
      have c6b0 : decide (x4_1 < (l0.length : Int)) = true := decide_eq_true c6
      clear c6
      by_cases c7 : 0 ≤ x4_1
      ·rw [if_pos c7] at H
       have c7b0 : decide (0 ≤ x4_1) = true := decide_eq_true c7
       clear c7
       by_cases c8 : x4_1 < (x3_1.length : Int)
       ·rw [if_pos c8] at H
        have c8b0 : decide (x4_1 < (x3_1.length : Int)) = true := decide_eq_true c8
        clear c8
        obtain ⟨y170, hy170⟩ : ∃ y_ : List ByteArray, y_ = (x3_1.set (x4_1 : Int).toNat (rdOf ByteArray.empty l0 x4_1)) := ⟨_, rfl⟩
        replace H : (laws_toStringS.l0 k1 l0 y170 (wrap64 (x4_1 + 1))) = some r := by first | (rw [hy170]; with_reducible exact H) | (have H2_ := (Option.bind_some _ _).symm.trans H; rw [hy170]; with_reducible exact H2_) | (have H2_ := (Option.bind_some _ _).symm.trans H; with_reducible exact H2_) | with_reducible exact H | (rw [hy170]; exact H) | exact H
        have Ny170 := Aside0.mk hy170
        clear hy170
        have H' := Aside0.mk H
        clear H
        have p169 : 0 ≤ (x4_1 : Int) := od_
        have q169 : x4_1 < (l0.length : Int) := od_
        obtain ⟨ad169, e169, hx169_0⟩ := Kd.at_string HR0.out x4_1 p169 q169
        cases e169
        replace hx169_0 := cq_ HB hx169_0
        replace p169 := eq_true p169
        replace q169 := eq_true q169
        have p9 : 0 ≤ (x4_1 : Int) := od_
        have q9 : (x4_1 : Int) < ((x3_1.length : Int) : Int) := od_
        obtain ⟨go9, co9, eo9, gb9, gl9, cl9, HG9⟩ := Kd.R_form HO_3.out (by omega)
        (first | cases eo9 | (injection eo9 with ea_ en_ ec_; (first | subst ea_ | (injection ea_ with ea_; subst ea_)); subst ec_; clear en_))
        have GB9 := Aside0.mk gb9
        have GG9 := Aside0.mk HG9
        clear gb9 gl9 HG9
        obtain ⟨hx9_0, hf9_0⟩ := Kd.R_celln (⟨#[]⟩ : ByteArray) HO_3.out (x4_1 : Int) p9 q9
        replace p9 := eq_true p9
        replace q9 := eq_true q9
        have HP10 := Kd.R_putg HO_3.out (x4_1 : Int) (rdOf ByteArray.empty l0 x4_1)
        go_wp2_with (first | ((with_reducible refine gate_store (t := 9) (p := 20) rfl ?_); refine store_event (t := 9) (p := 20) (v := ?vo_w11) (w1 := (wr.setCell ⟨go9, (x4_1 : Int).toNat, none⟩ (.string (rdOf ByteArray.empty l0 x4_1)))) ?hg ?ho ?hn ?hr ?_; (case ho => rfl); (case hg => rfl); (case hn => rfl); (case hr => first | (go_simp; done) | (go_simp; rfl)); intro w11 hw; have hg : wr.grownBy w11 (some go9) := (by rw [hw]; exact HP10.2); have hp_ : Kd.R Kd.string 9 w11 w.heap.size (fun _ => True) (.slice (some ⟨go9, 0, none⟩) x3_1.length co9) y170 := (by rw [hw, Ny170.out]; exact HP10.1); clear HP10; have n0_ := Aside0.mk (hp_); have n1_ := Aside0.mk ((by rw [hw]; exact below_set (HB.out) GB9.out : Below w.heap.size w w11)); clear HO_3; clear HB; have HO_3 := n0_; have HB := n1_; clear n0_ n1_; clear hg hw hp_))
        go_roundg k1
        case measure => have := HK1.out; omega
        case rel => exact ⟨(y170), (wrap64 (x4_1 + 1)), (by first | rfl | (simp; done) | (simp [*]; done)), H', ⟨by have := HK1.out; omega⟩, ⟨by (with_reducible repeat (first | apply Kd.R_alloc | apply Kd.R_drewN | apply Kd.R_drew)); exact HO_3.out⟩, ⟨hb_⟩⟩
       ·rw [if_neg c8] at H
        exact absurd H (by simp)
      ·rw [if_neg c7] at H
       exact absurd H (by simp)
     ·rw [if_neg c6] at H
      have c6b0 : decide (x4_1 < (l0.length : Int)) = false := decide_eq_false c6
      clear c6
      obtain rfl := Option.some.inj H
      go_wp2
      go_ret
      exact ⟨_, ew_, by (with_reducible repeat (first | apply Kd.R_alloc | apply Kd.R_drewN | apply Kd.R_drew)); exact HO_3.out, hb_⟩
  ·rw [if_neg c3] at H
   exact absurd H (by simp)
 ·rw [if_neg c2] at H
  exact absurd H (by simp)

/-! ### laws_toBelay: function 76 -/
def laws_toBelay.f (a0_0 : ByteArray) (a0_1 : ByteArray) (a0_2 : Int) : Option (ByteArray × ByteArray × Int) := some (a0_0, a0_1, a0_2)
set_option maxHeartbeats 8000000 in
set_option maxRecDepth 100000 in
theorem laws_toBelay.calls (a0_0 : ByteArray) (a0_1 : ByteArray) (a0_2 : Int) (r1 : ByteArray) (r2 : ByteArray) (r3 : Int) (w : World) (h : laws_toBelay.f a0_0 a0_1 a0_2 = some (r1, r2, r3)) :
  Calls Tryd.prog 76 #[.agg #[.string a0_0, .string a0_1, .int .i64 a0_2]] w fun e w' => e = .returned (.agg #[.string r1, .string r2, .int .i64 r3]) ∧ Below w.heap.size w w' := by
 have hu94 := Tryd.underlying94
 have hu67 := Tryd.underlying67
 have HB := Aside0.mk (Below.refl w.heap.size w)
 have H : (some (a0_0, a0_1, a0_2)) = some (r1, r2, r3) := h
 clear h
 simp only [Option.some.injEq, Prod.mk.injEq] at H
 obtain ⟨rfl, rfl, rfl⟩ := H
 go_enter Tryd.func76, Tryd.ntmps76
 go_wp2_with (first | ((with_reducible refine gate_dst (N := 1) rfl ?_); refine box_event ?hg (N := 1) ?hd (cs := #[.string a0_0, .string a0_1, .int .i64 a0_2]) (t := 94) ?hr ?_; (case hd => rfl); (case hg => rfl); (case hr => first | (go_simp; done) | (go_simp; rfl)); intro gb171 hg w2 hbox hb; have n0_ := Aside0.mk (below_step hb_ hb); have n1_ := Aside0.mk (hbox); have n2_ := Aside0.mk ((by rw [hg]; exact (below_size hb_) : w.heap.size ≤ gb171)); have n3_ := Aside0.mk ((by rw [hg]; exact (below_size hb_) : w.heap.size ≤ gb171)); clear HB; have HB := n0_; have BK171 := n1_; have GW171 := n2_; have GE171 := n3_; clear n0_ n1_ n2_ n3_; clear hb hbox hg) | ((with_reducible refine gate_dst (N := 2) rfl ?_); refine box_event ?hg (N := 2) ?hd (cs := #[.string (⟨#[]⟩ : ByteArray), .string (⟨#[]⟩ : ByteArray), .int .i64 0]) (t := 67) ?hr ?_; (case hd => rfl); (case hg => rfl); (case hr => first | (go_simp; done) | (go_simp; rfl)); intro gb172 hg w3 hbox hb; have n0_ := Aside0.mk (blk_below (g := gb171) (o := .cells #[.string a0_0, .string a0_1, .int .i64 a0_2] 94 (0, 0)) (bk_ BK171) hb); have n1_ := Aside0.mk (below_step (hg_ GE171) hb); have n2_ := Aside0.mk (hbox); have n3_ := Aside0.mk ((by rw [hg]; exact (below_size (hg_ GE171)) : w.heap.size ≤ gb172)); have n4_ := Aside0.mk ((by rw [hg]; exact (below_size (hg_ GE171)) : w.heap.size ≤ gb172)); have n5_ := Aside0.mk ((by rw [hg]; exact Nat.ne_of_lt (blk_lt (g := gb171) (o := .cells #[.string a0_0, .string a0_1, .int .i64 a0_2] 94 (0, 0)) (bk_ BK171)) : gb171 ≠ gb172)); have n6_ := Aside0.mk ((by rw [hg]; exact Nat.ne_of_gt (blk_lt (g := gb171) (o := .cells #[.string a0_0, .string a0_1, .int .i64 a0_2] 94 (0, 0)) (bk_ BK171)) : gb172 ≠ gb171)); clear BK171; clear HB; have BK171 := n0_; have HB := n1_; have BK172 := n2_; have GW172 := n3_; have GE172 := n4_; have NB171_172 := n5_; have NB172_171 := n6_; clear n0_ n1_ n2_ n3_ n4_ n5_ n6_; clear hb hbox hg) | ((with_reducible refine gate_dst (N := 3) rfl ?_); refine box_event ?hg (N := 3) ?hd (cs := #[.string (⟨#[]⟩ : ByteArray), .string (⟨#[]⟩ : ByteArray), .int .i64 0]) (t := 67) ?hr ?_; (case hd => rfl); (case hg => rfl); (case hr => first | (go_simp; done) | (go_simp; rfl)); intro gb173 hg w4 hbox hb; have n0_ := Aside0.mk (blk_below (g := gb171) (o := .cells #[.string a0_0, .string a0_1, .int .i64 a0_2] 94 (0, 0)) (bk_ BK171) hb); have n1_ := Aside0.mk (blk_below (g := gb172) (o := .cells #[.string (⟨#[]⟩ : ByteArray), .string (⟨#[]⟩ : ByteArray), .int .i64 0] 67 (0, 0)) (bk_ BK172) hb); have n2_ := Aside0.mk (below_step (hg2_ GE171 GE172) hb); have n3_ := Aside0.mk (hbox); have n4_ := Aside0.mk ((by rw [hg]; exact (below_size (hg2_ GE171 GE172)) : w.heap.size ≤ gb173)); have n5_ := Aside0.mk ((by rw [hg]; exact (below_size (hg2_ GE171 GE172)) : w.heap.size ≤ gb173)); have n6_ := Aside0.mk ((by rw [hg]; exact Nat.ne_of_lt (blk_lt (g := gb171) (o := .cells #[.string a0_0, .string a0_1, .int .i64 a0_2] 94 (0, 0)) (bk_ BK171)) : gb171 ≠ gb173)); have n7_ := Aside0.mk ((by rw [hg]; exact Nat.ne_of_gt (blk_lt (g := gb171) (o := .cells #[.string a0_0, .string a0_1, .int .i64 a0_2] 94 (0, 0)) (bk_ BK171)) : gb173 ≠ gb171)); have n8_ := Aside0.mk ((by rw [hg]; exact Nat.ne_of_lt (blk_lt (g := gb172) (o := .cells #[.string (⟨#[]⟩ : ByteArray), .string (⟨#[]⟩ : ByteArray), .int .i64 0] 67 (0, 0)) (bk_ BK172)) : gb172 ≠ gb173)); have n9_ := Aside0.mk ((by rw [hg]; exact Nat.ne_of_gt (blk_lt (g := gb172) (o := .cells #[.string (⟨#[]⟩ : ByteArray), .string (⟨#[]⟩ : ByteArray), .int .i64 0] 67 (0, 0)) (bk_ BK172)) : gb173 ≠ gb172)); clear BK171; clear BK172; clear HB; have BK171 := n0_; have BK172 := n1_; have HB := n2_; have BK173 := n3_; have GW173 := n4_; have GE173 := n5_; have NB171_173 := n6_; have NB173_171 := n7_; have NB172_173 := n8_; have NB173_172 := n9_; clear n0_ n1_ n2_ n3_ n4_ n5_ n6_ n7_ n8_ n9_; clear hb hbox hg; have hnb5 := NB171_172.out; have hnc5 := NB172_171.out; have hnb6 := NB171_173.out; have hnc6 := NB173_171.out; have hcz7_0 : w4.cell? ⟨gb171, 0, none⟩ = some (.string a0_0) := (blk_cell BK171.out 0).trans rfl; have hcz7_1 : w4.cell? ⟨gb171, 1, none⟩ = some (.string a0_1) := (blk_cell BK171.out 1).trans rfl; have hcz7_2 : w4.cell? ⟨gb171, 2, none⟩ = some (.int .i64 a0_2) := (blk_cell BK171.out 2).trans rfl; have hfz7_0 := blk_frozen BK171.out 0; have hfz7_1 := blk_frozen BK171.out 1; have hfz7_2 := blk_frozen BK171.out 2; have hnb8 := NB173_172.out; have hnc8 := NB172_173.out; have hcz9_0 : w4.cell? ⟨gb173, 0, none⟩ = some (.string (⟨#[]⟩ : ByteArray)) := (blk_cell BK173.out 0).trans rfl; have hcz9_1 : w4.cell? ⟨gb173, 1, none⟩ = some (.string (⟨#[]⟩ : ByteArray)) := (blk_cell BK173.out 1).trans rfl; have hcz9_2 : w4.cell? ⟨gb173, 2, none⟩ = some (.int .i64 0) := (blk_cell BK173.out 2).trans rfl; have hfz9_0 := blk_frozen BK173.out 0; have hfz9_1 := blk_frozen BK173.out 1; have hfz9_2 := blk_frozen BK173.out 2; have hcz10_0 : w4.cell? ⟨gb172, 0, none⟩ = some (.string (⟨#[]⟩ : ByteArray)) := (blk_cell BK172.out 0).trans rfl; have hcz10_1 : w4.cell? ⟨gb172, 1, none⟩ = some (.string (⟨#[]⟩ : ByteArray)) := (blk_cell BK172.out 1).trans rfl; have hcz10_2 : w4.cell? ⟨gb172, 2, none⟩ = some (.int .i64 0) := (blk_cell BK172.out 2).trans rfl; have hfz10_0 := blk_frozen BK172.out 0; have hfz10_1 := blk_frozen BK172.out 1; have hfz10_2 := blk_frozen BK172.out 2))
 refine bodyPost_ret (results_cell_row rfl _ _ gb172 67 #[.string a0_0, .string a0_1, .int .i64 a0_2] (0, 0) _ rfl (by (with_reducible repeat (first | refine blk_drewN ?_ _ | refine blk_drew ?_ | refine blk_alloc ?_ _)); refine blk_put (cs := #[.string a0_0, .string a0_1, .int .i64 0]) ?_ 2 _ rfl; (with_reducible repeat (first | refine blk_drewN ?_ _ | refine blk_drew ?_ | refine blk_alloc ?_ _)); refine blk_put (cs := #[.string a0_0, .string (⟨#[]⟩ : ByteArray), .int .i64 0]) ?_ 1 _ rfl; (with_reducible repeat (first | refine blk_drewN ?_ _ | refine blk_drew ?_ | refine blk_alloc ?_ _)); refine blk_put (cs := #[.string (⟨#[]⟩ : ByteArray), .string (⟨#[]⟩ : ByteArray), .int .i64 0]) ?_ 0 _ rfl; (with_reducible repeat (first | refine blk_drewN ?_ _ | refine blk_drew ?_ | refine blk_alloc ?_ _)); refine blk_far ?_ NB172_173.out _; (with_reducible repeat (first | refine blk_drewN ?_ _ | refine blk_drew ?_ | refine blk_alloc ?_ _)); refine blk_far ?_ NB172_173.out _; (with_reducible repeat (first | refine blk_drewN ?_ _ | refine blk_drew ?_ | refine blk_alloc ?_ _)); refine blk_far ?_ NB172_173.out _; (with_reducible repeat (first | refine blk_drewN ?_ _ | refine blk_drew ?_ | refine blk_alloc ?_ _)); exact BK172.out) Tryd.underlying67 rfl (by kernel_rfl)) rfl ?_
 exact ⟨ew_, by repeat (first | (with_reducible first | exact HB.out | apply below_alloc | apply pw_below_drewN | apply below_drew1 | refine below_set ?_ GE171.out | refine below_set ?_ GE172.out | refine below_set ?_ GE173.out) | exact HB.out)⟩

/-! ### laws_toBelayS: function 36 -/
def laws_toBelayS.l0 : Nat → List (S94) → List (S67) → Int → Option ((List (S67)))
 | 0, _, _, _ => none
 | k + 1, x0, x3, x4 => if x4 < (x0.length : Int) then (if 0 ≤ x4 then ((laws_toBelay.f ((rd_T94 x0 x4).f0) ((rd_T94 x0 x4).f1) ((rd_T94 x0 x4).f2)).bind fun bt178 => (if x4 < (x3.length : Int) then (laws_toBelayS.l0 k x0 (x3.set (x4 : Int).toNat (⟨bt178.1, bt178.2.1, bt178.2.2⟩ : S67)) (wrap64 (x4 + 1))) else (none))) else (none)) else (some x3)
def laws_toBelayS.f (k : Nat) (l0 : List (S94)) : Option ((List (S67))) := if 0 ≤ (l0.length : Int) then (if ((l0.length : Int) : Int).toNat ≤ 7036874417766 then (laws_toBelayS.l0 k l0 (List.replicate ((l0.length : Int) : Int).toNat z67) 0) else (none)) else (none)
set_option maxHeartbeats 8000000 in
set_option maxRecDepth 100000 in
theorem laws_toBelayS.calls (k : Nat) (A0 : Option Addr) (c0 : Nat) (l0 : List (S94)) (r : List (S67)) (w : World) (hr0 : Kd.C k94 w A0 l0.length l0) (hc0 : l0.length ≤ c0) (h : laws_toBelayS.f k l0 = some r) :
  Calls Tryd.prog 36 #[.slice A0 l0.length c0] w fun e w' => ∃ v0_ : Value, e = .returned (v0_) ∧ Kd.R k67 67 w' w.heap.size (fun _ => True) v0_ r ∧ Below w.heap.size w w' := by
 have hu94 := Tryd.underlying94
 have hu67 := Tryd.underlying67
 have HR0 := Aside0.mk hr0
 have HC0 := Aside0.mk hc0
 clear hr0 hc0
 have HB := Aside0.mk (Below.refl w.heap.size w)
 have H : (if 0 ≤ (l0.length : Int) then (if ((l0.length : Int) : Int).toNat ≤ 7036874417766 then (laws_toBelayS.l0 k l0 (List.replicate ((l0.length : Int) : Int).toNat z67) 0) else (none)) else (none)) = some r := h
 clear h
 by_cases c2 : 0 ≤ (l0.length : Int)
 ·rw [if_pos c2] at H
  have c2b0 := eq_true c2
  have c2b1 : decide (0 ≤ (l0.length : Int)) = true := decide_eq_true c2
  clear c2
  by_cases c3 : ((l0.length : Int) : Int).toNat ≤ 7036874417766
  ·rw [if_pos c3] at H
   have c3b0 := eq_true c3
   have c3b1 : decide (((l0.length : Int) : Int).toNat ≤ 7036874417766) = true := decide_eq_true c3
   clear c3
   obtain ⟨y174, hy174⟩ : ∃ y_ : List (S67), y_ = (List.replicate ((l0.length : Int) : Int).toNat z67) := ⟨_, rfl⟩
   replace H : (laws_toBelayS.l0 k l0 y174 0) = some r := by first | (rw [hy174]; with_reducible exact H) | (have H2_ := (Option.bind_some _ _).symm.trans H; rw [hy174]; with_reducible exact H2_) | (have H2_ := (Option.bind_some _ _).symm.trans H; with_reducible exact H2_) | with_reducible exact H | (rw [hy174]; exact H) | exact H
   have Ny174 := Aside0.mk hy174
   clear hy174
   have H' := Aside0.mk H
   clear H
   go_enter Tryd.func36, Tryd.ntmps36
   go_wp2_with (first | ((with_reducible refine gate_dst (N := 7) rfl ?_); refine Kd.R_make k67 _ 67 rfl (N := 7) rfl 30 _ _ rfl (l0.length : Int) rfl rfl Tryd.underlying30 (.agg #[(.string ⟨#[]⟩), (.string ⟨#[]⟩), (.int .i64 0)]) 40 info67 rfl (by decide) (by omega) z67 (ok := fun _ => True) (okp := fun _ => True) (k67_mkM _ _ _ z67 ) (fun _ hk => hk) trivial (od_) (Nat.le_trans (Nat.mul_le_mul_right _ (od_ : (l0.length : Int).toNat ≤ 7036874417766)) (by omega)) (Below.refl _ _) (Nat.le_refl _) ?_; intro v175 w4 ho5 hb hg_ hnew_; clear hg_ hnew_; (first | rw [← Ny174.out] at ho5 | (simp only [Int.reduceToNat] at ho5; rw [← Ny174.out] at ho5)); have n0_ := Aside0.mk (Kd.R_lower ho5 (below_size hb_)); have n1_ := Aside0.mk (below_step hb_ hb); clear HB; have HO176 := n0_; have HB := n1_; clear n0_ n1_; clear hb ho5))
   go_loopg [4] k (fun kq v4 w' => ∃ (x3_1 : List (S67)) (x4_1 : Int), v4 = .int .i64 x4_1 ∧ Aside0 (laws_toBelayS.l0 kq l0 x3_1 x4_1 = some r) ∧ Aside0 (kq ≤ k) ∧ Aside0 (Kd.R k67 67 w' w.heap.size (fun _ => True) v175 x3_1) ∧ Aside0 (Below w.heap.size w w'))
   case atStart => exact ⟨(y174), (0), (by first | rfl | (simp; done) | (simp [*]; done)), H', ⟨Nat.le_refl _⟩, ⟨by (with_reducible repeat (first | apply Kd.R_alloc | apply Kd.R_drewN | apply Kd.R_drew)); exact HO176.out⟩, ⟨hb_⟩⟩
   case round =>
    clear H'
    try clear c2
    try clear c2b0
    try clear c2b1
    try clear p2
    try clear c3
    try clear c3b0
    try clear c3b1
    obtain ⟨x3_1, x4_1, rfl, HA, HK1, HO_3, HB⟩ := hrel
    cases gk with
    | zero => exact absurd HA.out (by simp [laws_toBelayS.l0])
    | succ k1 =>
     have H := HA.out
     clear HA
     simp only [laws_toBelayS.l0] at H
     by_cases c6 : x4_1 < (l0.length : Int)
     ·rw [if_pos c6] at H
      have c6b0 : decide (x4_1 < (l0.length : Int)) = true := decide_eq_true c6
      clear c6
      by_cases c7 : 0 ≤ x4_1
      ·rw [if_pos c7] at H
       have c7b0 : decide (0 ≤ x4_1) = true := decide_eq_true c7
       clear c7
       replace H := Option.bind_eq_some_iff.mp H
       obtain ⟨⟨t178, t179, t180⟩, A80, H⟩ := H
       replace H : (if x4_1 < (x3_1.length : Int) then (laws_toBelayS.l0 k1 l0 (x3_1.set (x4_1 : Int).toNat (⟨t178, t179, t180⟩ : S67)) (wrap64 (x4_1 + 1))) else (none)) = some r := H
       have A8 := Aside0.mk A80
       clear A80
       by_cases c9 : x4_1 < (x3_1.length : Int)
       ·rw [if_pos c9] at H
        have c9b0 : decide (x4_1 < (x3_1.length : Int)) = true := decide_eq_true c9
        clear c9
        obtain ⟨y181, hy181⟩ : ∃ y_ : List (S67), y_ = (x3_1.set (x4_1 : Int).toNat (⟨t178, t179, t180⟩ : S67)) := ⟨_, rfl⟩
        replace H : (laws_toBelayS.l0 k1 l0 y181 (wrap64 (x4_1 + 1))) = some r := by first | (rw [hy181]; with_reducible exact H) | (have H2_ := (Option.bind_some _ _).symm.trans H; rw [hy181]; with_reducible exact H2_) | (have H2_ := (Option.bind_some _ _).symm.trans H; with_reducible exact H2_) | with_reducible exact H | (rw [hy181]; exact H) | exact H
        have Ny181 := Aside0.mk hy181
        clear hy181
        have H' := Aside0.mk H
        clear H
        have p177 : 0 ≤ (x4_1 : Int) := od_
        have q177 : x4_1 < (l0.length : Int) := od_
        obtain ⟨ad177, e177, hx177_0, hx177_1, hx177_2⟩ := at_T94 HR0.out x4_1 p177 q177
        cases e177
        replace hx177_0 := cq_ HB hx177_0
        replace hx177_1 := cq_ HB hx177_1
        replace hx177_2 := cq_ HB hx177_2
        replace p177 := eq_true p177
        replace q177 := eq_true q177
        go_wp2_with (first | ((with_reducible refine gate_callee (f := 76) rfl ?_); refine goesL_ (some 20) rfl rfl Tryd.func76 (by kernel_rfl) rfl #[.agg #[.string ((rd_T94 l0 x4_1).f0), .string ((rd_T94 l0 x4_1).f1), .int .i64 ((rd_T94 l0 x4_1).f2)]] rfl ln_ ?_; (with_reducible refine (laws_toBelay.calls ((rd_T94 l0 x4_1).f0) ((rd_T94 l0 x4_1).f1) ((rd_T94 l0 x4_1).f2) t178 t179 t180 _ A8.out).mono ?_); rintro e w11 ⟨rfl, hb⟩; refine ⟨_, rfl, ?_⟩; have n0_ := Aside0.mk (Kd.R_below (kr_ HO_3) hb); have n1_ := Aside0.mk (below_step hb_ hb); clear HO_3; clear HB; have HO_3 := n0_; have HB := n1_; clear n0_ n1_; (try clear hb); (try clear hb2); (try clear hk); (try clear hi); have p10 : 0 ≤ (x4_1 : Int) := od_; have q10 : (x4_1 : Int) < ((x3_1.length : Int) : Int) := od_; obtain ⟨go10, co10, eo10, gb10, gl10, cl10, HG10⟩ := Kd.R_form HO_3.out (by omega); (first | cases eo10 | (injection eo10 with ea_ en_ ec_; (first | subst ea_ | (injection ea_ with ea_; subst ea_)); subst ec_; clear en_)); have GB10 := Aside0.mk gb10; have GG10 := Aside0.mk HG10; clear gb10 gl10 HG10; obtain ⟨ce10, hcl10, hM10, hcc10, hfr10⟩ := Kd.R_elem HO_3.out z67 (x4_1 : Int) p10 q10; obtain rfl := k67_openM hM10; have hx10_0 : w11.cell? ⟨go10, (x4_1 : Int).toNat * 3, none⟩ = some (.string ((rd_T67 x3_1 x4_1).f0)) := hcc10 0 _ rfl; have hx10_1 : w11.cell? ⟨go10, (x4_1 : Int).toNat * 3 + 1, none⟩ = some (.string ((rd_T67 x3_1 x4_1).f1)) := hcc10 1 _ rfl; have hx10_2 : w11.cell? ⟨go10, (x4_1 : Int).toNat * 3 + 2, none⟩ = some (.int .i64 ((rd_T67 x3_1 x4_1).f2)) := hcc10 2 _ rfl; have hf10_0 : w11.frozen? ⟨go10, (x4_1 : Int).toNat * 3, none⟩ = false := hfr10 0; have hf10_1 : w11.frozen? ⟨go10, (x4_1 : Int).toNat * 3 + 1, none⟩ = false := hfr10 1; have hf10_2 : w11.frozen? ⟨go10, (x4_1 : Int).toNat * 3 + 2, none⟩ = false := hfr10 2; (try clear hcl10); (try clear hcc10); (try clear hfr10); (try clear hM10); replace p10 := eq_true p10; replace q10 := eq_true q10; have HX12 := Aside0.mk (show Kd.R k67 67 w11 w.heap.size (fun _ => True) (.slice (some ⟨go10, 0, none⟩) x3_1.length co10) x3_1 from (kr_ HO_3)); obtain ⟨ce12, hcl12, hM12, hcc12, hfr12⟩ := Kd.R_elem HX12.out z67 (x4_1 : Int) (od_) (by have h_ : (x4_1 : Int) < ((x3_1.length : Int) : Int) := od_; first | exact h_ | (have e_ := (Kd.R_reads' HO_3.out).1; omega) | simpa using h_); obtain rfl := k67_openM hM12; have HP12 := Kd.R_seg HX12.out (x4_1 : Int) (od_) (by have h_ : (x4_1 : Int) < ((x3_1.length : Int) : Int) := od_; first | exact h_ | (have e_ := (Kd.R_reads' HO_3.out).1; omega) | simpa using h_) (seg := [.string t178, .string t179, .int .i64 t180]) (j := 0) hcl12 hcc12 (show 3 ≤ 3 from by decide) (x' := (⟨t178, t179, t180⟩ : S67)) (k67_mkM _ _ _ (⟨t178, t179, t180⟩ : S67) ) (fun _ hk => hk); have hx12_0 := hcc12 0 _ rfl; (try simp only [show (k67).sz = 3 from rfl, Nat.mul_one, Nat.add_zero] at hx12_0); have hf12_0 := hfr12 0; (try simp only [show (k67).sz = 3 from rfl, Nat.mul_one, Nat.add_zero] at hf12_0); have hx12_1 := hcc12 1 _ rfl; (try simp only [show (k67).sz = 3 from rfl, Nat.mul_one, Nat.add_zero] at hx12_1); have hf12_1 := hfr12 1; (try simp only [show (k67).sz = 3 from rfl, Nat.mul_one, Nat.add_zero] at hf12_1); have hx12_2 := hcc12 2 _ rfl; (try simp only [show (k67).sz = 3 from rfl, Nat.mul_one, Nat.add_zero] at hx12_2); have hf12_2 := hfr12 2; (try simp only [show (k67).sz = 3 from rfl, Nat.mul_one, Nat.add_zero] at hf12_2); (try clear hcl12); (try clear hcc12); (try clear hfr12); (try clear hM12)) | ((with_reducible refine gate_store (t := 67) (p := 21) rfl ?_); refine store_event (t := 67) (p := 21) (v := ?vo_w13) (w1 := (((w11.setCell ⟨go10, (x4_1 : Int).toNat * 3, none⟩ (.string t178)).setCell ⟨go10, (x4_1 : Int).toNat * 3 + 1, none⟩ (.string t179)).setCell ⟨go10, (x4_1 : Int).toNat * 3 + 2, none⟩ (.int .i64 t180))) ?hg ?ho ?hn ?hr ?_; (case ho => rfl); (case hg => rfl); (case hn => rfl); (case hr => first | (go_simp; done) | (go_simp; rfl)); intro w13 hw; have hg : w11.grownBy w13 (some go10) := (by rw [hw]; exact HP12.2); have hp_ : Kd.R k67 67 w13 w.heap.size (fun _ => True) (.slice (some ⟨go10, 0, none⟩) x3_1.length co10) y181 := (by rw [hw, Ny181.out]; exact HP12.1); clear HP12; have n0_ := Aside0.mk (hp_); have n1_ := Aside0.mk ((by rw [hw]; exact below_set (below_set (below_set (HB.out) GB10.out) GB10.out) GB10.out : Below w.heap.size w w13)); clear HO_3; clear HB; have HO_3 := n0_; have HB := n1_; clear n0_ n1_; clear hg hw hp_))
        go_roundg k1
        case measure => have := HK1.out; omega
        case rel => exact ⟨(y181), (wrap64 (x4_1 + 1)), (by first | rfl | (simp; done) | (simp [*]; done)), H', ⟨by have := HK1.out; omega⟩, ⟨by (with_reducible repeat (first | apply Kd.R_alloc | apply Kd.R_drewN | apply Kd.R_drew)); exact HO_3.out⟩, ⟨hb_⟩⟩
       ·rw [if_neg c9] at H
        exact absurd H (by simp)
      ·rw [if_neg c7] at H
       exact absurd H (by simp)
     ·rw [if_neg c6] at H
      have c6b0 : decide (x4_1 < (l0.length : Int)) = false := decide_eq_false c6
      clear c6
      obtain rfl := Option.some.inj H
      go_wp2
      go_ret
      exact ⟨_, ew_, by (with_reducible repeat (first | apply Kd.R_alloc | apply Kd.R_drewN | apply Kd.R_drew)); exact HO_3.out, hb_⟩
  ·rw [if_neg c3] at H
   exact absurd H (by simp)
 ·rw [if_neg c2] at H
  exact absurd H (by simp)

/-! ### laws_toRig: function 8 -/
def laws_toRig.f (k : Nat) (l0_0 : List (S92)) (l0_1 : List ByteArray) (l0_2 : List (S94)) : Option ((List (S64)) × List ByteArray × (List (S67))) := (laws_toRailS.f k l0_0).bind fun t185 => ((laws_toStringS.f k l0_1).bind fun t188 => ((laws_toBelayS.f k l0_2).bind fun t191 => (some (t185, t188, t191))))
set_option maxHeartbeats 8000000 in
set_option maxRecDepth 100000 in
theorem laws_toRig.calls (k : Nat) (A0_0 : Option Addr) (c0_0 : Nat) (l0_0 : List (S92)) (A0_1 : Option Addr) (c0_1 : Nat) (l0_1 : List ByteArray) (A0_2 : Option Addr) (c0_2 : Nat) (l0_2 : List (S94)) (r1 : List (S64)) (r2 : List ByteArray) (r3 : List (S67)) (w : World) (hr0_0 : Kd.C k92 w A0_0 l0_0.length l0_0) (hc0_0 : l0_0.length ≤ c0_0) (hr0_1 : Kd.C Kd.string w A0_1 l0_1.length l0_1) (hc0_1 : l0_1.length ≤ c0_1) (hr0_2 : Kd.C k94 w A0_2 l0_2.length l0_2) (hc0_2 : l0_2.length ≤ c0_2) (h : laws_toRig.f k l0_0 l0_1 l0_2 = some (r1, r2, r3)) :
  Calls Tryd.prog 8 #[.agg #[.slice A0_0 l0_0.length c0_0, .slice A0_1 l0_1.length c0_1, .slice A0_2 l0_2.length c0_2]] w fun e w' => ∃ v0_ v1_ v2_ : Value, e = .returned (.agg #[v0_, v1_, v2_]) ∧ Kd.R k64 64 w' w.heap.size (fun _ => True) v0_ r1 ∧ Kd.R Kd.string 9 w' w.heap.size (fun _ => True) v1_ r2 ∧ Kd.R k67 67 w' w.heap.size (fun _ => True) v2_ r3 ∧ Below w.heap.size w w' := by
 have hu26 := Tryd.underlying26
 have hu32 := Tryd.underlying32
 have HR0_0 := Aside0.mk hr0_0
 have HC0_0 := Aside0.mk hc0_0
 clear hr0_0 hc0_0
 have HR0_1 := Aside0.mk hr0_1
 have HC0_1 := Aside0.mk hc0_1
 clear hr0_1 hc0_1
 have HR0_2 := Aside0.mk hr0_2
 have HC0_2 := Aside0.mk hc0_2
 clear hr0_2 hc0_2
 have HB := Aside0.mk (Below.refl w.heap.size w)
 have H : ((laws_toRailS.f k l0_0).bind fun t185 => ((laws_toStringS.f k l0_1).bind fun t188 => ((laws_toBelayS.f k l0_2).bind fun t191 => (some (t185, t188, t191))))) = some (r1, r2, r3) := h
 clear h
 replace H := Option.bind_eq_some_iff.mp H
 obtain ⟨t185, A20, H⟩ := H
 replace H : ((laws_toStringS.f k l0_1).bind fun t188 => ((laws_toBelayS.f k l0_2).bind fun t191 => (some (t185, t188, t191)))) = some (r1, r2, r3) := H
 have A2 := Aside0.mk A20
 clear A20
 replace H := Option.bind_eq_some_iff.mp H
 obtain ⟨t188, A30, H⟩ := H
 replace H : ((laws_toBelayS.f k l0_2).bind fun t191 => (some (t185, t188, t191))) = some (r1, r2, r3) := H
 have A3 := Aside0.mk A30
 clear A30
 replace H := Option.bind_eq_some_iff.mp H
 obtain ⟨t191, A40, H⟩ := H
 replace H : (some (t185, t188, t191)) = some (r1, r2, r3) := H
 have A4 := Aside0.mk A40
 clear A40
 simp only [Option.some.injEq, Prod.mk.injEq] at H
 obtain ⟨rfl, rfl, rfl⟩ := H
 go_enter Tryd.func8, Tryd.ntmps8
 go_wp2_with (first | ((with_reducible refine gate_dst (N := 1) rfl ?_); refine box_event ?hg (N := 1) ?hd (cs := #[.slice A0_0 l0_0.length c0_0, .slice A0_1 l0_1.length c0_1, .slice A0_2 l0_2.length c0_2]) (t := 26) ?hr ?_; (case hd => rfl); (case hg => rfl); (case hr => first | (go_simp; done) | (go_simp; rfl)); intro gb182 hg w5 hbox hb; have n0_ := Aside0.mk (below_step hb_ hb); have n1_ := Aside0.mk (hbox); have n2_ := Aside0.mk ((by rw [hg]; exact (below_size hb_) : w.heap.size ≤ gb182)); have n3_ := Aside0.mk ((by rw [hg]; exact (below_size hb_) : w.heap.size ≤ gb182)); clear HB; have HB := n0_; have BK182 := n1_; have GW182 := n2_; have GE182 := n3_; clear n0_ n1_ n2_ n3_; clear hb hbox hg) | ((with_reducible refine gate_dst (N := 2) rfl ?_); refine box_event ?hg (N := 2) ?hd (cs := #[.slice none 0 0, .slice none 0 0, .slice none 0 0]) (t := 32) ?hr ?_; (case hd => rfl); (case hg => rfl); (case hr => first | (go_simp; done) | (go_simp; rfl)); intro gb183 hg w6 hbox hb; have n0_ := Aside0.mk (blk_below (g := gb182) (o := .cells #[.slice A0_0 l0_0.length c0_0, .slice A0_1 l0_1.length c0_1, .slice A0_2 l0_2.length c0_2] 26 (0, 0)) (bk_ BK182) hb); have n1_ := Aside0.mk (below_step (hg_ GE182) hb); have n2_ := Aside0.mk (hbox); have n3_ := Aside0.mk ((by rw [hg]; exact (below_size (hg_ GE182)) : w.heap.size ≤ gb183)); have n4_ := Aside0.mk ((by rw [hg]; exact (below_size (hg_ GE182)) : w.heap.size ≤ gb183)); have n5_ := Aside0.mk ((by rw [hg]; exact Nat.ne_of_lt (blk_lt (g := gb182) (o := .cells #[.slice A0_0 l0_0.length c0_0, .slice A0_1 l0_1.length c0_1, .slice A0_2 l0_2.length c0_2] 26 (0, 0)) (bk_ BK182)) : gb182 ≠ gb183)); have n6_ := Aside0.mk ((by rw [hg]; exact Nat.ne_of_gt (blk_lt (g := gb182) (o := .cells #[.slice A0_0 l0_0.length c0_0, .slice A0_1 l0_1.length c0_1, .slice A0_2 l0_2.length c0_2] 26 (0, 0)) (bk_ BK182)) : gb183 ≠ gb182)); clear BK182; clear HB; have BK182 := n0_; have HB := n1_; have BK183 := n2_; have GW183 := n3_; have GE183 := n4_; have NB182_183 := n5_; have NB183_182 := n6_; clear n0_ n1_ n2_ n3_ n4_ n5_ n6_; clear hb hbox hg) | ((with_reducible refine gate_dst (N := 3) rfl ?_); refine box_event ?hg (N := 3) ?hd (cs := #[.slice none 0 0, .slice none 0 0, .slice none 0 0]) (t := 32) ?hr ?_; (case hd => rfl); (case hg => rfl); (case hr => first | (go_simp; done) | (go_simp; rfl)); intro gb184 hg w7 hbox hb; have n0_ := Aside0.mk (blk_below (g := gb182) (o := .cells #[.slice A0_0 l0_0.length c0_0, .slice A0_1 l0_1.length c0_1, .slice A0_2 l0_2.length c0_2] 26 (0, 0)) (bk_ BK182) hb); have n1_ := Aside0.mk (blk_below (g := gb183) (o := .cells #[.slice none 0 0, .slice none 0 0, .slice none 0 0] 32 (0, 0)) (bk_ BK183) hb); have n2_ := Aside0.mk (below_step (hg2_ GE182 GE183) hb); have n3_ := Aside0.mk (hbox); have n4_ := Aside0.mk ((by rw [hg]; exact (below_size (hg2_ GE182 GE183)) : w.heap.size ≤ gb184)); have n5_ := Aside0.mk ((by rw [hg]; exact (below_size (hg2_ GE182 GE183)) : w.heap.size ≤ gb184)); have n6_ := Aside0.mk ((by rw [hg]; exact Nat.ne_of_lt (blk_lt (g := gb182) (o := .cells #[.slice A0_0 l0_0.length c0_0, .slice A0_1 l0_1.length c0_1, .slice A0_2 l0_2.length c0_2] 26 (0, 0)) (bk_ BK182)) : gb182 ≠ gb184)); have n7_ := Aside0.mk ((by rw [hg]; exact Nat.ne_of_gt (blk_lt (g := gb182) (o := .cells #[.slice A0_0 l0_0.length c0_0, .slice A0_1 l0_1.length c0_1, .slice A0_2 l0_2.length c0_2] 26 (0, 0)) (bk_ BK182)) : gb184 ≠ gb182)); have n8_ := Aside0.mk ((by rw [hg]; exact Nat.ne_of_lt (blk_lt (g := gb183) (o := .cells #[.slice none 0 0, .slice none 0 0, .slice none 0 0] 32 (0, 0)) (bk_ BK183)) : gb183 ≠ gb184)); have n9_ := Aside0.mk ((by rw [hg]; exact Nat.ne_of_gt (blk_lt (g := gb183) (o := .cells #[.slice none 0 0, .slice none 0 0, .slice none 0 0] 32 (0, 0)) (bk_ BK183)) : gb184 ≠ gb183)); clear BK182; clear BK183; clear HB; have BK182 := n0_; have BK183 := n1_; have HB := n2_; have BK184 := n3_; have GW184 := n4_; have GE184 := n5_; have NB182_184 := n6_; have NB184_182 := n7_; have NB183_184 := n8_; have NB184_183 := n9_; clear n0_ n1_ n2_ n3_ n4_ n5_ n6_ n7_ n8_ n9_; clear hb hbox hg; have hnb8 := NB182_183.out; have hnc8 := NB183_182.out; have hnb9 := NB182_184.out; have hnc9 := NB184_182.out; have hcz10_0 : w7.cell? ⟨gb182, 0, none⟩ = some (.slice A0_0 l0_0.length c0_0) := (blk_cell BK182.out 0).trans rfl; have hcz10_1 : w7.cell? ⟨gb182, 1, none⟩ = some (.slice A0_1 l0_1.length c0_1) := (blk_cell BK182.out 1).trans rfl; have hcz10_2 : w7.cell? ⟨gb182, 2, none⟩ = some (.slice A0_2 l0_2.length c0_2) := (blk_cell BK182.out 2).trans rfl; have hfz10_0 := blk_frozen BK182.out 0; have hfz10_1 := blk_frozen BK182.out 1; have hfz10_2 := blk_frozen BK182.out 2) | ((with_reducible refine gate_callee (f := 34) rfl ?_); refine goesL_ (some 6) rfl rfl Tryd.func34 (by kernel_rfl) rfl #[.slice A0_0 l0_0.length c0_0] rfl ln_ ?_; (with_reducible refine (laws_toRailS.calls k _ _ l0_0 t185 _ ?side1 ?side2 A2.out).mono ?_); (case side1 => exact kc_ (Kd.C_below HR0_0.out HB.out)); (case side2 => exact HC0_0.out); rintro e w11 ⟨v186, rfl, ho0, hb⟩; refine ⟨_, rfl, ?_⟩; have n0_ := Aside0.mk (Kd.R_lower ho0 (below_size (by repeat (first | (with_reducible first | exact HB.out | apply below_alloc | apply pw_below_drewN | apply below_drew1 | refine below_set ?_ GE182.out | refine below_set ?_ GE183.out | refine below_set ?_ GE184.out) | exact HB.out)))); have n1_ := Aside0.mk (blk_below (g := gb182) (o := .cells #[.slice A0_0 l0_0.length c0_0, .slice A0_1 l0_1.length c0_1, .slice A0_2 l0_2.length c0_2] 26 (0, 0)) (bk_ BK182) hb); have n2_ := Aside0.mk (blk_below (g := gb183) (o := .cells #[.slice none 0 0, .slice none 0 0, .slice none 0 0] 32 (0, 0)) (bk_ BK183) hb); have n3_ := Aside0.mk (blk_below (g := gb184) (o := .cells #[.slice none 0 0, .slice none 0 0, .slice none 0 0] 32 (0, 0)) (bk_ BK184) hb); have n4_ := Aside0.mk (below_step (by repeat (first | (with_reducible first | exact HB.out | apply below_alloc | apply pw_below_drewN | apply below_drew1 | refine below_set ?_ GE182.out | refine below_set ?_ GE183.out | refine below_set ?_ GE184.out) | exact HB.out)) hb); clear BK182; clear BK183; clear BK184; clear HB; have HO187 := n0_; have BK182 := n1_; have BK183 := n2_; have BK184 := n3_; have HB := n4_; clear n0_ n1_ n2_ n3_ n4_; (try clear hb); (try clear hb2); (try clear hk); (try clear hi); (try clear ho0); obtain ⟨Ao12, co12, eo12⟩ := Kd.R_slice HO187.out; subst eo12; have hnb13 := NB184_183.out; have hnc13 := NB183_184.out; have hcz14_0 : w11.cell? ⟨gb184, 0, none⟩ = some (.slice none 0 0) := (blk_cell BK184.out 0).trans rfl; have hcz14_1 : w11.cell? ⟨gb184, 1, none⟩ = some (.slice none 0 0) := (blk_cell BK184.out 1).trans rfl; have hcz14_2 : w11.cell? ⟨gb184, 2, none⟩ = some (.slice none 0 0) := (blk_cell BK184.out 2).trans rfl; have hfz14_0 := blk_frozen BK184.out 0; have hfz14_1 := blk_frozen BK184.out 1; have hfz14_2 := blk_frozen BK184.out 2; have hcz15_0 : w11.cell? ⟨gb182, 0, none⟩ = some (.slice A0_0 l0_0.length c0_0) := (blk_cell BK182.out 0).trans rfl; have hcz15_1 : w11.cell? ⟨gb182, 1, none⟩ = some (.slice A0_1 l0_1.length c0_1) := (blk_cell BK182.out 1).trans rfl; have hcz15_2 : w11.cell? ⟨gb182, 2, none⟩ = some (.slice A0_2 l0_2.length c0_2) := (blk_cell BK182.out 2).trans rfl; have hfz15_0 := blk_frozen BK182.out 0; have hfz15_1 := blk_frozen BK182.out 1; have hfz15_2 := blk_frozen BK182.out 2) | ((with_reducible refine gate_callee (f := 35) rfl ?_); refine goesL_ (some 10) rfl rfl Tryd.func35 (by kernel_rfl) rfl #[.slice A0_1 l0_1.length c0_1] rfl ln_ ?_; (with_reducible refine (laws_toStringS.calls k _ _ l0_1 t188 _ ?side1 ?side2 A3.out).mono ?_); (case side1 => exact Kd.C_below HR0_1.out (by repeat (first | (with_reducible first | exact HB.out | apply below_alloc | apply pw_below_drewN | apply below_drew1 | refine below_set ?_ GE182.out | refine below_set ?_ GE183.out | refine below_set ?_ GE184.out) | exact HB.out))); (case side2 => exact HC0_1.out); rintro e w16 ⟨v189, rfl, ho0, hb⟩; refine ⟨_, rfl, ?_⟩; have n0_ := Aside0.mk (Kd.R_below (by (with_reducible repeat (first | apply Kd.R_alloc | apply Kd.R_drewN | apply Kd.R_drew)); exact (Kd.R_mono (Kd.R_far (p := ⟨gb184, 0, none⟩) (Kd.R_types HO187.out BK184.out (by decide)) (fun _ hk => hk.2) (.slice Ao12 t185.length co12)) (fun _ h_ => h_.1))) hb); have n1_ := Aside0.mk (Kd.R_lower ho0 (below_size (by repeat (first | (with_reducible first | exact HB.out | apply below_alloc | apply pw_below_drewN | apply below_drew1 | refine below_set ?_ GE182.out | refine below_set ?_ GE183.out | refine below_set ?_ GE184.out) | exact HB.out)))); have n2_ := Aside0.mk (blk_below (g := gb182) (o := .cells #[.slice A0_0 l0_0.length c0_0, .slice A0_1 l0_1.length c0_1, .slice A0_2 l0_2.length c0_2] 26 (0, 0)) (by (with_reducible repeat (first | refine blk_drewN ?_ _ | refine blk_drew ?_ | refine blk_alloc ?_ _)); refine blk_far ?_ NB182_184.out _; (with_reducible repeat (first | refine blk_drewN ?_ _ | refine blk_drew ?_ | refine blk_alloc ?_ _)); exact BK182.out) hb); have n3_ := Aside0.mk (blk_below (g := gb183) (o := .cells #[.slice none 0 0, .slice none 0 0, .slice none 0 0] 32 (0, 0)) (by (with_reducible repeat (first | refine blk_drewN ?_ _ | refine blk_drew ?_ | refine blk_alloc ?_ _)); refine blk_far ?_ NB183_184.out _; (with_reducible repeat (first | refine blk_drewN ?_ _ | refine blk_drew ?_ | refine blk_alloc ?_ _)); exact BK183.out) hb); have n4_ := Aside0.mk (blk_below (g := gb184) (o := .cells #[.slice Ao12 t185.length co12, .slice none 0 0, .slice none 0 0] 32 (0, 0)) (by (with_reducible repeat (first | refine blk_drewN ?_ _ | refine blk_drew ?_ | refine blk_alloc ?_ _)); refine blk_put (cs := #[.slice none 0 0, .slice none 0 0, .slice none 0 0]) ?_ 0 _ rfl; (with_reducible repeat (first | refine blk_drewN ?_ _ | refine blk_drew ?_ | refine blk_alloc ?_ _)); exact BK184.out) hb); have n5_ := Aside0.mk (below_step (by repeat (first | (with_reducible first | exact HB.out | apply below_alloc | apply pw_below_drewN | apply below_drew1 | refine below_set ?_ GE182.out | refine below_set ?_ GE183.out | refine below_set ?_ GE184.out) | exact HB.out)) hb); clear HO187; clear BK182; clear BK183; clear BK184; clear HB; have HO187 := n0_; have HO190 := n1_; have BK182 := n2_; have BK183 := n3_; have BK184 := n4_; have HB := n5_; clear n0_ n1_ n2_ n3_ n4_ n5_; (try clear hb); (try clear hb2); (try clear hk); (try clear hi); (try clear ho0); obtain ⟨Ao17, co17, eo17⟩ := Kd.R_slice HO190.out; subst eo17; have hcz18_0 : w16.cell? ⟨gb184, 0, none⟩ = some (.slice Ao12 t185.length co12) := (blk_cell BK184.out 0).trans rfl; have hcz18_1 : w16.cell? ⟨gb184, 1, none⟩ = some (.slice none 0 0) := (blk_cell BK184.out 1).trans rfl; have hcz18_2 : w16.cell? ⟨gb184, 2, none⟩ = some (.slice none 0 0) := (blk_cell BK184.out 2).trans rfl; have hfz18_0 := blk_frozen BK184.out 0; have hfz18_1 := blk_frozen BK184.out 1; have hfz18_2 := blk_frozen BK184.out 2; have hcz19_0 : w16.cell? ⟨gb182, 0, none⟩ = some (.slice A0_0 l0_0.length c0_0) := (blk_cell BK182.out 0).trans rfl; have hcz19_1 : w16.cell? ⟨gb182, 1, none⟩ = some (.slice A0_1 l0_1.length c0_1) := (blk_cell BK182.out 1).trans rfl; have hcz19_2 : w16.cell? ⟨gb182, 2, none⟩ = some (.slice A0_2 l0_2.length c0_2) := (blk_cell BK182.out 2).trans rfl; have hfz19_0 := blk_frozen BK182.out 0; have hfz19_1 := blk_frozen BK182.out 1; have hfz19_2 := blk_frozen BK182.out 2) | ((with_reducible refine gate_callee (f := 36) rfl ?_); refine goesL_ (some 14) rfl rfl Tryd.func36 (by kernel_rfl) rfl #[.slice A0_2 l0_2.length c0_2] rfl ln_ ?_; (with_reducible refine (laws_toBelayS.calls k _ _ l0_2 t191 _ ?side1 ?side2 A4.out).mono ?_); (case side1 => exact Kd.C_below HR0_2.out (by repeat (first | (with_reducible first | exact HB.out | apply below_alloc | apply pw_below_drewN | apply below_drew1 | refine below_set ?_ GE182.out | refine below_set ?_ GE183.out | refine below_set ?_ GE184.out) | exact HB.out))); (case side2 => exact HC0_2.out); rintro e w20 ⟨v192, rfl, ho0, hb⟩; refine ⟨_, rfl, ?_⟩; have n0_ := Aside0.mk (Kd.R_below (by (with_reducible repeat (first | apply Kd.R_alloc | apply Kd.R_drewN | apply Kd.R_drew)); exact (Kd.R_mono (Kd.R_far (p := ⟨gb184, 1, none⟩) (Kd.R_types HO187.out BK184.out (by decide)) (fun _ hk => hk.2) (.slice Ao17 t188.length co17)) (fun _ h_ => h_.1))) hb); have n1_ := Aside0.mk (Kd.R_below (by (with_reducible repeat (first | apply Kd.R_alloc | apply Kd.R_drewN | apply Kd.R_drew)); exact (Kd.R_mono (Kd.R_far (p := ⟨gb184, 1, none⟩) (Kd.R_types HO190.out BK184.out (by decide)) (fun _ hk => hk.2) (.slice Ao17 t188.length co17)) (fun _ h_ => h_.1))) hb); have n2_ := Aside0.mk (Kd.R_lower ho0 (below_size (by repeat (first | (with_reducible first | exact HB.out | apply below_alloc | apply pw_below_drewN | apply below_drew1 | refine below_set ?_ GE182.out | refine below_set ?_ GE183.out | refine below_set ?_ GE184.out) | exact HB.out)))); have n3_ := Aside0.mk (blk_below (g := gb182) (o := .cells #[.slice A0_0 l0_0.length c0_0, .slice A0_1 l0_1.length c0_1, .slice A0_2 l0_2.length c0_2] 26 (0, 0)) (by (with_reducible repeat (first | refine blk_drewN ?_ _ | refine blk_drew ?_ | refine blk_alloc ?_ _)); refine blk_far ?_ NB182_184.out _; (with_reducible repeat (first | refine blk_drewN ?_ _ | refine blk_drew ?_ | refine blk_alloc ?_ _)); exact BK182.out) hb); have n4_ := Aside0.mk (blk_below (g := gb183) (o := .cells #[.slice none 0 0, .slice none 0 0, .slice none 0 0] 32 (0, 0)) (by (with_reducible repeat (first | refine blk_drewN ?_ _ | refine blk_drew ?_ | refine blk_alloc ?_ _)); refine blk_far ?_ NB183_184.out _; (with_reducible repeat (first | refine blk_drewN ?_ _ | refine blk_drew ?_ | refine blk_alloc ?_ _)); exact BK183.out) hb); have n5_ := Aside0.mk (blk_below (g := gb184) (o := .cells #[.slice Ao12 t185.length co12, .slice Ao17 t188.length co17, .slice none 0 0] 32 (0, 0)) (by (with_reducible repeat (first | refine blk_drewN ?_ _ | refine blk_drew ?_ | refine blk_alloc ?_ _)); refine blk_put (cs := #[.slice Ao12 t185.length co12, .slice none 0 0, .slice none 0 0]) ?_ 1 _ rfl; (with_reducible repeat (first | refine blk_drewN ?_ _ | refine blk_drew ?_ | refine blk_alloc ?_ _)); exact BK184.out) hb); have n6_ := Aside0.mk (below_step (by repeat (first | (with_reducible first | exact HB.out | apply below_alloc | apply pw_below_drewN | apply below_drew1 | refine below_set ?_ GE182.out | refine below_set ?_ GE183.out | refine below_set ?_ GE184.out) | exact HB.out)) hb); clear HO187; clear HO190; clear BK182; clear BK183; clear BK184; clear HB; have HO187 := n0_; have HO190 := n1_; have HO193 := n2_; have BK182 := n3_; have BK183 := n4_; have BK184 := n5_; have HB := n6_; clear n0_ n1_ n2_ n3_ n4_ n5_ n6_; (try clear hb); (try clear hb2); (try clear hk); (try clear hi); (try clear ho0); obtain ⟨Ao21, co21, eo21⟩ := Kd.R_slice HO193.out; subst eo21; have hcz22_0 : w20.cell? ⟨gb184, 0, none⟩ = some (.slice Ao12 t185.length co12) := (blk_cell BK184.out 0).trans rfl; have hcz22_1 : w20.cell? ⟨gb184, 1, none⟩ = some (.slice Ao17 t188.length co17) := (blk_cell BK184.out 1).trans rfl; have hcz22_2 : w20.cell? ⟨gb184, 2, none⟩ = some (.slice none 0 0) := (blk_cell BK184.out 2).trans rfl; have hfz22_0 := blk_frozen BK184.out 0; have hfz22_1 := blk_frozen BK184.out 1; have hfz22_2 := blk_frozen BK184.out 2; have hcz23_0 : w20.cell? ⟨gb183, 0, none⟩ = some (.slice none 0 0) := (blk_cell BK183.out 0).trans rfl; have hcz23_1 : w20.cell? ⟨gb183, 1, none⟩ = some (.slice none 0 0) := (blk_cell BK183.out 1).trans rfl; have hcz23_2 : w20.cell? ⟨gb183, 2, none⟩ = some (.slice none 0 0) := (blk_cell BK183.out 2).trans rfl; have hfz23_0 := blk_frozen BK183.out 0; have hfz23_1 := blk_frozen BK183.out 1; have hfz23_2 := blk_frozen BK183.out 2))
 refine bodyPost_ret (results_cell_row rfl _ _ gb183 32 #[.slice Ao12 t185.length co12, .slice Ao17 t188.length co17, .slice Ao21 t191.length co21] (0, 0) _ rfl (by (with_reducible repeat (first | refine blk_drewN ?_ _ | refine blk_drew ?_ | refine blk_alloc ?_ _)); refine blk_put (cs := #[.slice Ao12 t185.length co12, .slice Ao17 t188.length co17, .slice none 0 0]) ?_ 2 _ rfl; (with_reducible repeat (first | refine blk_drewN ?_ _ | refine blk_drew ?_ | refine blk_alloc ?_ _)); refine blk_put (cs := #[.slice Ao12 t185.length co12, .slice none 0 0, .slice none 0 0]) ?_ 1 _ rfl; (with_reducible repeat (first | refine blk_drewN ?_ _ | refine blk_drew ?_ | refine blk_alloc ?_ _)); refine blk_put (cs := #[.slice none 0 0, .slice none 0 0, .slice none 0 0]) ?_ 0 _ rfl; (with_reducible repeat (first | refine blk_drewN ?_ _ | refine blk_drew ?_ | refine blk_alloc ?_ _)); refine blk_far ?_ NB183_184.out _; (with_reducible repeat (first | refine blk_drewN ?_ _ | refine blk_drew ?_ | refine blk_alloc ?_ _)); exact BK183.out) Tryd.underlying32 rfl (by kernel_rfl)) rfl ?_
 exact ⟨_, _, _, ew_, by (with_reducible repeat (first | apply Kd.R_alloc | apply Kd.R_drewN | apply Kd.R_drew)); exact Kd.R_mono (Kd.R_far (p := ⟨gb183, 2, none⟩) (Kd.R_far (p := ⟨gb183, 1, none⟩) (Kd.R_far (p := ⟨gb183, 0, none⟩) (Kd.R_far (p := ⟨gb184, 2, none⟩) (Kd.R_types (Kd.R_types HO187.out BK184.out (by decide)) BK183.out (by decide)) (fun _ hk => hk.1.2) (.slice Ao21 t191.length co21)) (fun _ hk => hk.2) (.slice Ao12 t185.length co12)) (fun _ hk => hk.2) (.slice Ao17 t188.length co17)) (fun _ hk => hk.2) (.slice Ao21 t191.length co21)) (fun _ hk => trivial), by (with_reducible repeat (first | apply Kd.R_alloc | apply Kd.R_drewN | apply Kd.R_drew)); exact Kd.R_mono (Kd.R_far (p := ⟨gb183, 2, none⟩) (Kd.R_far (p := ⟨gb183, 1, none⟩) (Kd.R_far (p := ⟨gb183, 0, none⟩) (Kd.R_far (p := ⟨gb184, 2, none⟩) (Kd.R_types (Kd.R_types HO190.out BK184.out (by decide)) BK183.out (by decide)) (fun _ hk => hk.1.2) (.slice Ao21 t191.length co21)) (fun _ hk => hk.2) (.slice Ao12 t185.length co12)) (fun _ hk => hk.2) (.slice Ao17 t188.length co17)) (fun _ hk => hk.2) (.slice Ao21 t191.length co21)) (fun _ hk => trivial), by (with_reducible repeat (first | apply Kd.R_alloc | apply Kd.R_drewN | apply Kd.R_drew)); exact Kd.R_mono (Kd.R_far (p := ⟨gb183, 2, none⟩) (Kd.R_far (p := ⟨gb183, 1, none⟩) (Kd.R_far (p := ⟨gb183, 0, none⟩) (Kd.R_far (p := ⟨gb184, 2, none⟩) (Kd.R_types (Kd.R_types HO193.out BK184.out (by decide)) BK183.out (by decide)) (fun _ hk => hk.1.2) (.slice Ao21 t191.length co21)) (fun _ hk => hk.2) (.slice Ao12 t185.length co12)) (fun _ hk => hk.2) (.slice Ao17 t188.length co17)) (fun _ hk => hk.2) (.slice Ao21 t191.length co21)) (fun _ hk => trivial), by repeat (first | (with_reducible first | exact HB.out | apply below_alloc | apply pw_below_drewN | apply below_drew1 | refine below_set ?_ GE182.out | refine below_set ?_ GE183.out | refine below_set ?_ GE184.out) | exact HB.out)⟩

/-! ### impl_within: function 64 -/
def impl_within.f (a0 : Int) (a1 : Int) (a2 : Int) : Option (Bool) := if a0 ≥ a1 then (some (decide (a0 ≤ a2))) else (some false)
set_option maxHeartbeats 8000000 in
set_option maxRecDepth 100000 in
theorem impl_within.calls (a0 : Int) (a1 : Int) (a2 : Int) (r : Bool) (w : World) (h : impl_within.f a0 a1 a2 = some r) :
  Calls Tryd.prog 64 #[.int .i64 a0, .int .i64 a1, .int .i64 a2] w fun e w' => e = .returned (.bool r) ∧ Drawn0 w w' := by
 have H : (if a0 ≥ a1 then (some (decide (a0 ≤ a2))) else (some false)) = some r := h
 clear h
 by_cases c4 : a0 ≥ a1
 ·rw [if_pos c4] at H
  have c4b0 : decide (a1 ≤ a0) = true := decide_eq_true c4
  clear c4
  obtain rfl := Option.some.inj H
  go_enter Tryd.func64, Tryd.ntmps64
  go_wp2
  go_ret
  exact ⟨by first | rfl | (simp; done) | (simp [*]; done), by repeat (first | exact Drawn0.refl _ | apply Drawn0.step)⟩
 ·rw [if_neg c4] at H
  have c4b0 : decide (a1 ≤ a0) = false := decide_eq_false c4
  clear c4
  obtain rfl := Option.some.inj H
  go_enter Tryd.func64, Tryd.ntmps64
  go_wp2
  go_ret
  exact ⟨by first | rfl | (simp; done) | (simp [*]; done), by repeat (first | exact Drawn0.refl _ | apply Drawn0.step)⟩

/-! ### impl_IsName: function 87 -/
mutual
def impl_IsName.j0 : Nat → ByteArray → Bool → Option (Bool)
 | 0, _, _ => none
 | k + 1, x0, x21 => if x21 = true then (some false) else (impl_IsName.l0 k x0 0)
def impl_IsName.l0 : Nat → ByteArray → Int → Option (Bool)
 | 0, _, _ => none
 | k + 1, x0, x3 => if x3 < (x0.size : Int) then (if 0 ≤ x3 then (if (bt x0 x3) < 97 then (if (bt x0 x3) < 48 then (if (bt x0 x3) = 45 then (impl_IsName.l0 k x0 (wrap64 (x3 + 1))) else (some false)) else (if (bt x0 x3) > 57 then (if (bt x0 x3) = 45 then (impl_IsName.l0 k x0 (wrap64 (x3 + 1))) else (some false)) else (impl_IsName.l0 k x0 (wrap64 (x3 + 1))))) else (if (bt x0 x3) > 122 then (if (bt x0 x3) < 48 then (if (bt x0 x3) = 45 then (impl_IsName.l0 k x0 (wrap64 (x3 + 1))) else (some false)) else (if (bt x0 x3) > 57 then (if (bt x0 x3) = 45 then (impl_IsName.l0 k x0 (wrap64 (x3 + 1))) else (some false)) else (impl_IsName.l0 k x0 (wrap64 (x3 + 1))))) else (impl_IsName.l0 k x0 (wrap64 (x3 + 1))))) else (none)) else (some true)
end
def impl_IsName.f (k : Nat) (a0 : ByteArray) : Option (Bool) := if (a0.size : Int) < 1 then (impl_IsName.j0 k a0 true) else (if (a0.size : Int) > 12 then (impl_IsName.j0 k a0 true) else (if 0 < (a0.size : Int) then (if (bt a0 0) < 97 then (impl_IsName.j0 k a0 true) else (impl_IsName.j0 k a0 (decide ((bt a0 0) > 122)))) else (none)))
set_option maxHeartbeats 8000000 in
set_option maxRecDepth 100000 in
theorem impl_IsName.calls (k : Nat) (a0 : ByteArray) (r : Bool) (w : World) (h : impl_IsName.f k a0 = some r) :
  Calls Tryd.prog 87 #[.string a0] w fun e w' => e = .returned (.bool r) ∧ Drawn0 w w' := by
 have H : (if (a0.size : Int) < 1 then (impl_IsName.j0 k a0 true) else (if (a0.size : Int) > 12 then (impl_IsName.j0 k a0 true) else (if 0 < (a0.size : Int) then (if (bt a0 0) < 97 then (impl_IsName.j0 k a0 true) else (impl_IsName.j0 k a0 (decide ((bt a0 0) > 122)))) else (none)))) = some r := h
 clear h
 have HC2 := Aside0.mk H
 clear H
 go_enter Tryd.func87, Tryd.ntmps87
 go_upto_region 1 with (fail)
 go_cut [21] (fun v21 wc => ∃ (kq : Nat) (x21_1 : Bool), v21 = .bool x21_1 ∧ Aside0 (impl_IsName.j0 kq a0 x21_1 = some r) ∧ Aside0 (kq ≤ k) ∧ Drawn0 w wc)
 case first =>
  have H := HC2.out
  clear HC2
  by_cases c3 : (a0.size : Int) < 1
  ·rw [if_pos c3] at H
   have c3b0 : decide ((a0.size : Int) < 1) = true := decide_eq_true c3
   have c3b1 : decide (a0.size < 1) = true := decide_eq_true (by omega)
   clear c3
   (first | rw [c3b0] | (simp only [i64_w, i32_w]; rw [c3b0]) | skip)
   have H' := Aside0.mk H
   clear H
   go_wp2
   go_meet
   case rel => exact ⟨_, (true), (by first | rfl | (simp; done) | (simp [*]; done)), H', ⟨by first | omega | exact Nat.le_refl _⟩, by repeat (first | exact Drawn0.refl _ | apply Drawn0.step)⟩
  ·rw [if_neg c3] at H
   have c3b0 : decide ((a0.size : Int) < 1) = false := decide_eq_false c3
   have c3b1 : decide (a0.size < 1) = false := decide_eq_false (by omega)
   clear c3
   (first | rw [c3b0] | (simp only [i64_w, i32_w]; rw [c3b0]) | skip)
   by_cases c4 : (a0.size : Int) > 12
   ·rw [if_pos c4] at H
    have c4b0 : decide (12 < (a0.size : Int)) = true := decide_eq_true c4
    have c4b1 : decide (12 < a0.size) = true := decide_eq_true (by omega)
    clear c4
    have H' := Aside0.mk H
    clear H
    go_wp2
    go_meet
    case rel => exact ⟨_, (true), (by first | rfl | (simp; done) | (simp [*]; done)), H', ⟨by first | omega | exact Nat.le_refl _⟩, by repeat (first | exact Drawn0.refl _ | apply Drawn0.step)⟩
   ·rw [if_neg c4] at H
    have c4b0 : decide (12 < (a0.size : Int)) = false := decide_eq_false c4
    have c4b1 : decide (12 < a0.size) = false := decide_eq_false (by omega)
    clear c4
    by_cases c5 : 0 < (a0.size : Int)
    ·rw [if_pos c5] at H
     have c5b0 : decide (0 < (a0.size : Int)) = true := decide_eq_true c5
     have c5b1 : decide (0 < a0.size) = true := decide_eq_true (by omega)
     clear c5
     by_cases c7 : (bt a0 0) < 97
     ·rw [if_pos c7] at H
      have c7b0 : decide ((bt a0 0) < 97) = true := decide_eq_true c7
      clear c7
      have H' := Aside0.mk H
      clear H
      have p6 : 0 ≤ (0 : Int) := (by omega)
      have q6 : 0 < a0.size := (by have : (0 : Int) < (a0.size : Int) := od_; omega)
      have hx6 : ∀ h : 0 < a0.size, ((a0[0]'h).toNat : Int) = bt a0 0 := bt_at a0 0
      clear p6
      have qi6 : (0 < (a0.size : Int)) = True := eq_true (od_)
      replace q6 := eq_true q6
      go_wp2
      go_meet
      case rel => exact ⟨_, (true), (by first | rfl | (simp; done) | (simp [*]; done)), H', ⟨by first | omega | exact Nat.le_refl _⟩, by repeat (first | exact Drawn0.refl _ | apply Drawn0.step)⟩
     ·rw [if_neg c7] at H
      have c7b0 : decide ((bt a0 0) < 97) = false := decide_eq_false c7
      clear c7
      have H' := Aside0.mk H
      clear H
      have p6 : 0 ≤ (0 : Int) := (by omega)
      have q6 : 0 < a0.size := (by have : (0 : Int) < (a0.size : Int) := od_; omega)
      have hx6 : ∀ h : 0 < a0.size, ((a0[0]'h).toNat : Int) = bt a0 0 := bt_at a0 0
      clear p6
      have qi6 : (0 < (a0.size : Int)) = True := eq_true (od_)
      replace q6 := eq_true q6
      have p8 : 0 ≤ (0 : Int) := (by omega)
      have q8 : 0 < a0.size := (by have : (0 : Int) < (a0.size : Int) := od_; omega)
      have hx8 : ∀ h : 0 < a0.size, ((a0[0]'h).toNat : Int) = bt a0 0 := bt_at a0 0
      clear p8
      have qi8 : (0 < (a0.size : Int)) = True := eq_true (od_)
      replace q8 := eq_true q8
      go_wp2
      go_meet
      case rel => exact ⟨_, (decide ((bt a0 0) > 122)), (by first | rfl | (simp; done) | (simp [*]; done)), H', ⟨by first | omega | exact Nat.le_refl _⟩, by repeat (first | exact Drawn0.refl _ | apply Drawn0.step)⟩
    ·rw [if_neg c5] at H
     exact absurd H (by simp)
 case rest =>
  clear HC2
  try clear p2
  try clear c3
  try clear c3b0
  try clear c3b1
  try clear c4
  try clear c4b0
  try clear c4b1
  try clear c5
  try clear c5b0
  try clear c5b1
  try clear p6
  try clear q6
  try clear hx6
  try clear qi6
  try clear c7
  try clear c7b0
  try clear c8
  try clear p8
  try clear q8
  try clear hx8
  try clear qi8
  try clear p6
  try clear p8
  try clear q6
  try clear q8
  obtain ⟨kq, x21_1, rfl, HA, HJ1, ⟨mc1, rfl⟩⟩ := hcut
  cases kq with
  | zero => exact absurd HA.out (by simp [impl_IsName.j0])
  | succ kj1 =>
   have H := HA.out
   clear HA
   simp only [impl_IsName.j0] at H
   by_cases c9 : x21_1 = true
   ·subst c9
    have H1 : (some false) = some r := by rw [if_pos rfl] at H; exact H
    clear H
    have H := H1
    clear H1
    obtain rfl := Option.some.inj H
    go_wp2
    go_ret
    exact ⟨by first | rfl | (simp; done) | (simp [*]; done), by repeat (first | exact Drawn0.refl _ | apply Drawn0.step)⟩
   ·replace c9 := Bool.eq_false_iff.mpr c9
    subst c9
    have H1 : (impl_IsName.l0 kj1 a0 0) = some r := by rw [if_neg (show ¬ (false = true) by decide)] at H; exact H
    clear H
    have H := H1
    clear H1
    have H' := Aside0.mk H
    clear H
    go_wp2
    go_loopg [3] kj1 (fun kq v3 w' => ∃ (x3_2 : Int), v3 = .int .i64 x3_2 ∧ Aside0 (impl_IsName.l0 kq a0 x3_2 = some r) ∧ Aside0 (kq ≤ kj1) ∧ Drawn0 w w')
    case atStart => exact ⟨(0), (by first | rfl | (simp; done) | (simp [*]; done)), H', ⟨Nat.le_refl _⟩, by repeat (first | exact Drawn0.refl _ | apply Drawn0.step)⟩
    case round =>
     clear H'
     try clear c1
     try clear p2
     try clear c3
     try clear c3b0
     try clear c3b1
     try clear c4
     try clear c4b0
     try clear c4b1
     try clear c5
     try clear c5b0
     try clear c5b1
     try clear p6
     try clear q6
     try clear hx6
     try clear qi6
     try clear c7
     try clear c7b0
     try clear c8
     try clear p8
     try clear q8
     try clear hx8
     try clear qi8
     try clear c9
     try clear p2
     try clear p6
     try clear p8
     try clear q6
     try clear q8
     obtain ⟨x3_2, rfl, HA, HK2, ⟨m2, rfl⟩⟩ := hrel
     cases gk with
     | zero => exact absurd HA.out (by simp [impl_IsName.l0])
     | succ k2 =>
      have H := HA.out
      clear HA
      simp only [impl_IsName.l0] at H
      by_cases c10 : x3_2 < (a0.size : Int)
      ·rw [if_pos c10] at H
       have c10b0 : decide (x3_2 < (a0.size : Int)) = true := decide_eq_true c10
       clear c10
       by_cases c11 : 0 ≤ x3_2
       ·rw [if_pos c11] at H
        have c11b0 : decide (0 ≤ x3_2) = true := decide_eq_true c11
        clear c11
        by_cases c13 : (bt a0 x3_2) < 97
        ·rw [if_pos c13] at H
         have c13b0 : decide ((bt a0 x3_2) < 97) = true := decide_eq_true c13
         clear c13
         by_cases c15 : (bt a0 x3_2) < 48
         ·rw [if_pos c15] at H
          have c15b0 : decide ((bt a0 x3_2) < 48) = true := decide_eq_true c15
          clear c15
          by_cases c17 : (bt a0 x3_2) = 45
          ·rw [if_pos c17] at H
           have c17b0 : ((bt a0 x3_2) == 45) = true := beq_iff_eq.mpr c17
           have c17b1 : ((bt a0 x3_2) != 45) = false := bne_eq_false_iff_eq.mpr c17
           clear c17
           have H' := Aside0.mk H
           clear H
           have p12 : 0 ≤ (x3_2 : Int) := od_
           have q12 : x3_2 < (a0.size : Int) := od_
           have hx12 := bt_at a0 x3_2
           replace p12 := eq_true p12
           replace q12 := eq_true q12
           have p14 : 0 ≤ (x3_2 : Int) := od_
           have q14 : x3_2 < (a0.size : Int) := od_
           have hx14 := bt_at a0 x3_2
           replace p14 := eq_true p14
           replace q14 := eq_true q14
           have p16 : 0 ≤ (x3_2 : Int) := od_
           have q16 : x3_2 < (a0.size : Int) := od_
           have hx16 := bt_at a0 x3_2
           replace p16 := eq_true p16
           replace q16 := eq_true q16
           go_wp2
           go_roundg k2
           case measure => have := HJ1.out; have := HK2.out; omega
           case rel => exact ⟨(wrap64 (x3_2 + 1)), (by first | rfl | (simp; done) | (simp [*]; done)), H', ⟨by have := HJ1.out; have := HK2.out; omega⟩, by repeat (first | exact Drawn0.refl _ | apply Drawn0.step)⟩
          ·rw [if_neg c17] at H
           have c17b0 : ((bt a0 x3_2) == 45) = false := beq_eq_false_iff_ne.mpr c17
           have c17b1 : ((bt a0 x3_2) != 45) = true := bne_iff_ne.mpr c17
           obtain rfl := Option.some.inj H
           have p12 : 0 ≤ (x3_2 : Int) := od_
           have q12 : x3_2 < (a0.size : Int) := od_
           have hx12 := bt_at a0 x3_2
           replace p12 := eq_true p12
           replace q12 := eq_true q12
           have p14 : 0 ≤ (x3_2 : Int) := od_
           have q14 : x3_2 < (a0.size : Int) := od_
           have hx14 := bt_at a0 x3_2
           replace p14 := eq_true p14
           replace q14 := eq_true q14
           have p16 : 0 ≤ (x3_2 : Int) := od_
           have q16 : x3_2 < (a0.size : Int) := od_
           have hx16 := bt_at a0 x3_2
           replace p16 := eq_true p16
           replace q16 := eq_true q16
           go_wp2
           go_ret
           exact ⟨by first | rfl | (simp; done) | (simp [*]; done), by repeat (first | exact Drawn0.refl _ | apply Drawn0.step)⟩
         ·rw [if_neg c15] at H
          have c15b0 : decide ((bt a0 x3_2) < 48) = false := decide_eq_false c15
          clear c15
          by_cases c19 : (bt a0 x3_2) > 57
          ·rw [if_pos c19] at H
           have c19b0 : decide (57 < (bt a0 x3_2)) = true := decide_eq_true c19
           clear c19
           by_cases c21 : (bt a0 x3_2) = 45
           ·rw [if_pos c21] at H
            have c21b0 : ((bt a0 x3_2) == 45) = true := beq_iff_eq.mpr c21
            have c21b1 : ((bt a0 x3_2) != 45) = false := bne_eq_false_iff_eq.mpr c21
            clear c21
            have H' := Aside0.mk H
            clear H
            have p12 : 0 ≤ (x3_2 : Int) := od_
            have q12 : x3_2 < (a0.size : Int) := od_
            have hx12 := bt_at a0 x3_2
            replace p12 := eq_true p12
            replace q12 := eq_true q12
            have p14 : 0 ≤ (x3_2 : Int) := od_
            have q14 : x3_2 < (a0.size : Int) := od_
            have hx14 := bt_at a0 x3_2
            replace p14 := eq_true p14
            replace q14 := eq_true q14
            have p18 : 0 ≤ (x3_2 : Int) := od_
            have q18 : x3_2 < (a0.size : Int) := od_
            have hx18 := bt_at a0 x3_2
            replace p18 := eq_true p18
            replace q18 := eq_true q18
            have p20 : 0 ≤ (x3_2 : Int) := od_
            have q20 : x3_2 < (a0.size : Int) := od_
            have hx20 := bt_at a0 x3_2
            replace p20 := eq_true p20
            replace q20 := eq_true q20
            go_wp2
            go_roundg k2
            case measure => have := HJ1.out; have := HK2.out; omega
            case rel => exact ⟨(wrap64 (x3_2 + 1)), (by first | rfl | (simp; done) | (simp [*]; done)), H', ⟨by have := HJ1.out; have := HK2.out; omega⟩, by repeat (first | exact Drawn0.refl _ | apply Drawn0.step)⟩
           ·rw [if_neg c21] at H
            have c21b0 : ((bt a0 x3_2) == 45) = false := beq_eq_false_iff_ne.mpr c21
            have c21b1 : ((bt a0 x3_2) != 45) = true := bne_iff_ne.mpr c21
            obtain rfl := Option.some.inj H
            have p12 : 0 ≤ (x3_2 : Int) := od_
            have q12 : x3_2 < (a0.size : Int) := od_
            have hx12 := bt_at a0 x3_2
            replace p12 := eq_true p12
            replace q12 := eq_true q12
            have p14 : 0 ≤ (x3_2 : Int) := od_
            have q14 : x3_2 < (a0.size : Int) := od_
            have hx14 := bt_at a0 x3_2
            replace p14 := eq_true p14
            replace q14 := eq_true q14
            have p18 : 0 ≤ (x3_2 : Int) := od_
            have q18 : x3_2 < (a0.size : Int) := od_
            have hx18 := bt_at a0 x3_2
            replace p18 := eq_true p18
            replace q18 := eq_true q18
            have p20 : 0 ≤ (x3_2 : Int) := od_
            have q20 : x3_2 < (a0.size : Int) := od_
            have hx20 := bt_at a0 x3_2
            replace p20 := eq_true p20
            replace q20 := eq_true q20
            go_wp2
            go_ret
            exact ⟨by first | rfl | (simp; done) | (simp [*]; done), by repeat (first | exact Drawn0.refl _ | apply Drawn0.step)⟩
          ·rw [if_neg c19] at H
           have c19b0 : decide (57 < (bt a0 x3_2)) = false := decide_eq_false c19
           clear c19
           have H' := Aside0.mk H
           clear H
           have p12 : 0 ≤ (x3_2 : Int) := od_
           have q12 : x3_2 < (a0.size : Int) := od_
           have hx12 := bt_at a0 x3_2
           replace p12 := eq_true p12
           replace q12 := eq_true q12
           have p14 : 0 ≤ (x3_2 : Int) := od_
           have q14 : x3_2 < (a0.size : Int) := od_
           have hx14 := bt_at a0 x3_2
           replace p14 := eq_true p14
           replace q14 := eq_true q14
           have p18 : 0 ≤ (x3_2 : Int) := od_
           have q18 : x3_2 < (a0.size : Int) := od_
           have hx18 := bt_at a0 x3_2
           replace p18 := eq_true p18
           replace q18 := eq_true q18
           go_wp2
           go_roundg k2
           case measure => have := HJ1.out; have := HK2.out; omega
           case rel => exact ⟨(wrap64 (x3_2 + 1)), (by first | rfl | (simp; done) | (simp [*]; done)), H', ⟨by have := HJ1.out; have := HK2.out; omega⟩, by repeat (first | exact Drawn0.refl _ | apply Drawn0.step)⟩
        ·rw [if_neg c13] at H
         have c13b0 : decide ((bt a0 x3_2) < 97) = false := decide_eq_false c13
         clear c13
         by_cases c23 : (bt a0 x3_2) > 122
         ·rw [if_pos c23] at H
          have c23b0 : decide (122 < (bt a0 x3_2)) = true := decide_eq_true c23
          clear c23
          by_cases c25 : (bt a0 x3_2) < 48
          ·rw [if_pos c25] at H
           have c25b0 : decide ((bt a0 x3_2) < 48) = true := decide_eq_true c25
           clear c25
           by_cases c27 : (bt a0 x3_2) = 45
           ·rw [if_pos c27] at H
            have c27b0 : ((bt a0 x3_2) == 45) = true := beq_iff_eq.mpr c27
            have c27b1 : ((bt a0 x3_2) != 45) = false := bne_eq_false_iff_eq.mpr c27
            clear c27
            have H' := Aside0.mk H
            clear H
            have p12 : 0 ≤ (x3_2 : Int) := od_
            have q12 : x3_2 < (a0.size : Int) := od_
            have hx12 := bt_at a0 x3_2
            replace p12 := eq_true p12
            replace q12 := eq_true q12
            have p22 : 0 ≤ (x3_2 : Int) := od_
            have q22 : x3_2 < (a0.size : Int) := od_
            have hx22 := bt_at a0 x3_2
            replace p22 := eq_true p22
            replace q22 := eq_true q22
            have p24 : 0 ≤ (x3_2 : Int) := od_
            have q24 : x3_2 < (a0.size : Int) := od_
            have hx24 := bt_at a0 x3_2
            replace p24 := eq_true p24
            replace q24 := eq_true q24
            have p26 : 0 ≤ (x3_2 : Int) := od_
            have q26 : x3_2 < (a0.size : Int) := od_
            have hx26 := bt_at a0 x3_2
            replace p26 := eq_true p26
            replace q26 := eq_true q26
            go_wp2
            go_roundg k2
            case measure => have := HJ1.out; have := HK2.out; omega
            case rel => exact ⟨(wrap64 (x3_2 + 1)), (by first | rfl | (simp; done) | (simp [*]; done)), H', ⟨by have := HJ1.out; have := HK2.out; omega⟩, by repeat (first | exact Drawn0.refl _ | apply Drawn0.step)⟩
           ·rw [if_neg c27] at H
            have c27b0 : ((bt a0 x3_2) == 45) = false := beq_eq_false_iff_ne.mpr c27
            have c27b1 : ((bt a0 x3_2) != 45) = true := bne_iff_ne.mpr c27
            obtain rfl := Option.some.inj H
            have p12 : 0 ≤ (x3_2 : Int) := od_
            have q12 : x3_2 < (a0.size : Int) := od_
            have hx12 := bt_at a0 x3_2
            replace p12 := eq_true p12
            replace q12 := eq_true q12
            have p22 : 0 ≤ (x3_2 : Int) := od_
            have q22 : x3_2 < (a0.size : Int) := od_
            have hx22 := bt_at a0 x3_2
            replace p22 := eq_true p22
            replace q22 := eq_true q22
            have p24 : 0 ≤ (x3_2 : Int) := od_
            have q24 : x3_2 < (a0.size : Int) := od_
            have hx24 := bt_at a0 x3_2
            replace p24 := eq_true p24
            replace q24 := eq_true q24
            have p26 : 0 ≤ (x3_2 : Int) := od_
            have q26 : x3_2 < (a0.size : Int) := od_
            have hx26 := bt_at a0 x3_2
            replace p26 := eq_true p26
            replace q26 := eq_true q26
            go_wp2
            go_ret
            exact ⟨by first | rfl | (simp; done) | (simp [*]; done), by repeat (first | exact Drawn0.refl _ | apply Drawn0.step)⟩
          ·rw [if_neg c25] at H
           have c25b0 : decide ((bt a0 x3_2) < 48) = false := decide_eq_false c25
           clear c25
           by_cases c29 : (bt a0 x3_2) > 57
           ·rw [if_pos c29] at H
            have c29b0 : decide (57 < (bt a0 x3_2)) = true := decide_eq_true c29
            clear c29
            by_cases c31 : (bt a0 x3_2) = 45
            ·rw [if_pos c31] at H
             have c31b0 : ((bt a0 x3_2) == 45) = true := beq_iff_eq.mpr c31
             have c31b1 : ((bt a0 x3_2) != 45) = false := bne_eq_false_iff_eq.mpr c31
             clear c31
             have H' := Aside0.mk H
             clear H
             have p12 : 0 ≤ (x3_2 : Int) := od_
             have q12 : x3_2 < (a0.size : Int) := od_
             have hx12 := bt_at a0 x3_2
             replace p12 := eq_true p12
             replace q12 := eq_true q12
             have p22 : 0 ≤ (x3_2 : Int) := od_
             have q22 : x3_2 < (a0.size : Int) := od_
             have hx22 := bt_at a0 x3_2
             replace p22 := eq_true p22
             replace q22 := eq_true q22
             have p24 : 0 ≤ (x3_2 : Int) := od_
             have q24 : x3_2 < (a0.size : Int) := od_
             have hx24 := bt_at a0 x3_2
             replace p24 := eq_true p24
             replace q24 := eq_true q24
             have p28 : 0 ≤ (x3_2 : Int) := od_
             have q28 : x3_2 < (a0.size : Int) := od_
             have hx28 := bt_at a0 x3_2
             replace p28 := eq_true p28
             replace q28 := eq_true q28
             have p30 : 0 ≤ (x3_2 : Int) := od_
             have q30 : x3_2 < (a0.size : Int) := od_
             have hx30 := bt_at a0 x3_2
             replace p30 := eq_true p30
             replace q30 := eq_true q30
             go_wp2
             go_roundg k2
             case measure => have := HJ1.out; have := HK2.out; omega
             case rel => exact ⟨(wrap64 (x3_2 + 1)), (by first | rfl | (simp; done) | (simp [*]; done)), H', ⟨by have := HJ1.out; have := HK2.out; omega⟩, by repeat (first | exact Drawn0.refl _ | apply Drawn0.step)⟩
            ·rw [if_neg c31] at H
             have c31b0 : ((bt a0 x3_2) == 45) = false := beq_eq_false_iff_ne.mpr c31
             have c31b1 : ((bt a0 x3_2) != 45) = true := bne_iff_ne.mpr c31
             obtain rfl := Option.some.inj H
             have p12 : 0 ≤ (x3_2 : Int) := od_
             have q12 : x3_2 < (a0.size : Int) := od_
             have hx12 := bt_at a0 x3_2
             replace p12 := eq_true p12
             replace q12 := eq_true q12
             have p22 : 0 ≤ (x3_2 : Int) := od_
             have q22 : x3_2 < (a0.size : Int) := od_
             have hx22 := bt_at a0 x3_2
             replace p22 := eq_true p22
             replace q22 := eq_true q22
             have p24 : 0 ≤ (x3_2 : Int) := od_
             have q24 : x3_2 < (a0.size : Int) := od_
             have hx24 := bt_at a0 x3_2
             replace p24 := eq_true p24
             replace q24 := eq_true q24
             have p28 : 0 ≤ (x3_2 : Int) := od_
             have q28 : x3_2 < (a0.size : Int) := od_
             have hx28 := bt_at a0 x3_2
             replace p28 := eq_true p28
             replace q28 := eq_true q28
             have p30 : 0 ≤ (x3_2 : Int) := od_
             have q30 : x3_2 < (a0.size : Int) := od_
             have hx30 := bt_at a0 x3_2
             replace p30 := eq_true p30
             replace q30 := eq_true q30
             go_wp2
             go_ret
             exact ⟨by first | rfl | (simp; done) | (simp [*]; done), by repeat (first | exact Drawn0.refl _ | apply Drawn0.step)⟩
           ·rw [if_neg c29] at H
            have c29b0 : decide (57 < (bt a0 x3_2)) = false := decide_eq_false c29
            clear c29
            have H' := Aside0.mk H
            clear H
            have p12 : 0 ≤ (x3_2 : Int) := od_
            have q12 : x3_2 < (a0.size : Int) := od_
            have hx12 := bt_at a0 x3_2
            replace p12 := eq_true p12
            replace q12 := eq_true q12
            have p22 : 0 ≤ (x3_2 : Int) := od_
            have q22 : x3_2 < (a0.size : Int) := od_
            have hx22 := bt_at a0 x3_2
            replace p22 := eq_true p22
            replace q22 := eq_true q22
            have p24 : 0 ≤ (x3_2 : Int) := od_
            have q24 : x3_2 < (a0.size : Int) := od_
            have hx24 := bt_at a0 x3_2
            replace p24 := eq_true p24
            replace q24 := eq_true q24
            have p28 : 0 ≤ (x3_2 : Int) := od_
            have q28 : x3_2 < (a0.size : Int) := od_
            have hx28 := bt_at a0 x3_2
            replace p28 := eq_true p28
            replace q28 := eq_true q28
            go_wp2
            go_roundg k2
            case measure => have := HJ1.out; have := HK2.out; omega
            case rel => exact ⟨(wrap64 (x3_2 + 1)), (by first | rfl | (simp; done) | (simp [*]; done)), H', ⟨by have := HJ1.out; have := HK2.out; omega⟩, by repeat (first | exact Drawn0.refl _ | apply Drawn0.step)⟩
         ·rw [if_neg c23] at H
          have c23b0 : decide (122 < (bt a0 x3_2)) = false := decide_eq_false c23
          clear c23
          have H' := Aside0.mk H
          clear H
          have p12 : 0 ≤ (x3_2 : Int) := od_
          have q12 : x3_2 < (a0.size : Int) := od_
          have hx12 := bt_at a0 x3_2
          replace p12 := eq_true p12
          replace q12 := eq_true q12
          have p22 : 0 ≤ (x3_2 : Int) := od_
          have q22 : x3_2 < (a0.size : Int) := od_
          have hx22 := bt_at a0 x3_2
          replace p22 := eq_true p22
          replace q22 := eq_true q22
          go_wp2
          go_roundg k2
          case measure => have := HJ1.out; have := HK2.out; omega
          case rel => exact ⟨(wrap64 (x3_2 + 1)), (by first | rfl | (simp; done) | (simp [*]; done)), H', ⟨by have := HJ1.out; have := HK2.out; omega⟩, by repeat (first | exact Drawn0.refl _ | apply Drawn0.step)⟩
       ·rw [if_neg c11] at H
        exact absurd H (by simp)
      ·rw [if_neg c10] at H
       have c10b0 : decide (x3_2 < (a0.size : Int)) = false := decide_eq_false c10
       clear c10
       obtain rfl := Option.some.inj H
       go_wp2
       go_ret
       exact ⟨by first | rfl | (simp; done) | (simp [*]; done), by repeat (first | exact Drawn0.refl _ | apply Drawn0.step)⟩

/-! ### impl_railNamed: function 88 -/
def impl_railNamed.go : List S64 → ByteArray → Int → Int
 | [], _, _ => -1
 | x :: xs, a, i => if x.f0.toList = a.toList then i else impl_railNamed.go xs a (i + 1)
def impl_railNamed.f (l0_0 : List S64) (l0_1 : List ByteArray) (l0_2 : List S67) (a1 : ByteArray) : Option Int := some (impl_railNamed.go l0_0 a1 0)
theorem impl_railNamed.pred (x : S64) (name : ByteArray) (b : Bool) (hq : (x.f0.toList == name.toList) = b) (B : Nat) (w : World) (hB : w.heap[B]? = some (.cells #[.string name] 9 (0, 0))) :
  Calls Tryd.prog 105 #[.agg #[.string x.f0, .string x.f1, .int .i64 x.f2], .pointer (some ⟨B, 0, none⟩)] w fun e w' => e = .returned (.bool b) ∧ Below w.heap.size w w' := by
 have hc : w.cell? ⟨B, 0, none⟩ = some (.string name) := (blk_cell hB 0).trans rfl
 have hlt := blk_lt hB
 have hne : B ≠ w.heap.size := by omega
 clear hB
 have hu := Tryd.underlying64
 go_enter Tryd.func105, Tryd.ntmps105
 go_wp2
 go_ret
 exact ⟨rfl, (Below.refl _ _).alloc (Nat.le_refl _) _⟩
theorem impl_railNamed.step (l : List S64) (a : ByteArray) (j : Nat) (h : j < l.length) : impl_railNamed.go (l.drop j) a j = if (rd_T64 l j).f0.toList = a.toList then (j : Int) else impl_railNamed.go (l.drop (j + 1)) a ((j + 1 : Nat) : Int) := by
 rw [List.drop_eq_getElem_cons h, impl_railNamed.go]
 have e : rd_T64 l (j : Int) = l[j] := by
  unfold rd_T64
  rw [Int.toNat_natCast, List.getD_eq_getElem?_getD, List.getElem?_eq_getElem h]
  rfl
 rw [e]
 rfl
set_option maxHeartbeats 2000000 in
theorem impl_railNamed.loop (A0 : Option Addr) (c0 : Nat) (l0 : List S64) (name : ByteArray) (B : Nat) (w : World) (hr : Kd.C k64 w A0 l0.length l0) (hB : w.heap[B]? = some (.cells #[.string name] 9 (0, 0))) :
  Calls Tryd.prog 104 #[.slice A0 l0.length c0, .func (.func 105) #[] #[.pointer (some ⟨B, 0, none⟩)]] w fun e w' => e = .returned (.int .i64 (impl_railNamed.go l0 name 0)) ∧ Below w.heap.size w w' := by
 have eg : ∀ args w, (callFunc 105 args).run Tryd.prog w = .ok (.enter 105 args) w := enters_of Tryd.func105 (by kernel_rfl) rfl
 have HR := Aside0.mk hr
 have hm := hr.2.1
 have HBX := Aside0.mk hB
 have HG : Aside0 (impl_railNamed.go l0 name 0 = impl_railNamed.go (l0.drop 0) name ((0 : Nat) : Int)) := ⟨rfl⟩
 clear hr hB
 go_enter Tryd.func104, Tryd.ntmps104
 go_wp2
 go_loopg [5, 8] l0.length (fun gg _ v8 wr => ∃ j : Nat, v8 = .int .i64 (j : Int) ∧ Aside0 (j ≤ l0.length ∧ l0.length - j ≤ gg) ∧ Aside0 (impl_railNamed.go l0 name 0 = impl_railNamed.go (l0.drop j) name (j : Int)) ∧ Aside0 (Below w.heap.size w wr))
 case atStart => exact ⟨0, rfl, ⟨Nat.zero_le _, by omega⟩, HG, ⟨Below.refl _ _⟩⟩
 case round =>
  clear HG
  obtain ⟨j, rfl, HJ, HG, HB⟩ := hrel
  by_cases hlt : j < l0.length
  ·have p0 : (0 : Int) ≤ (j : Int) := Int.natCast_nonneg j
   have q0 : (j : Int) < (l0.length : Int) := by omega
   obtain ⟨ad, e0, hx0, hx1, hx2⟩ := at_T64 HR.out (j : Int) p0 q0
   cases e0
   replace hx0 := cq_ HB hx0
   replace hx1 := cq_ HB hx1
   replace hx2 := cq_ HB hx2
   have HG2 := Aside0.mk (HG.out.trans (impl_railNamed.step l0 name j hlt))
   clear HG
   have hBw : wr.heap[B]? = some (.cells #[.string name] 9 (0, 0)) := (HB.out.block B (blk_lt HBX.out)).trans HBX.out
   rw [Int.toNat_natCast] at hx0 hx1 hx2
   cases hq : ((rd_T64 l0 (j : Int)).f0.toList == name.toList) with
   | true =>
    have hcall := impl_railNamed.pred (rd_T64 l0 (j : Int)) name true hq B wr hBw
    have HC := Aside0.mk hcall
    have HV : Aside0 (impl_railNamed.go l0 name 0 = (j : Int)) := ⟨by rw [HG2.out, if_pos (by simpa using hq)]⟩
    clear hcall hq hBw HG2
    go_wp2_with (go_at_fn 105; refine HC.out.mono ?_; rintro e w' ⟨rfl, hb⟩)
    go_ret
    exact ⟨by rw [HV.out]; rfl, HB.out.trans (hb.mono HB.out.size)⟩
   | false =>
    have hcall := impl_railNamed.pred (rd_T64 l0 (j : Int)) name false hq B wr hBw
    have HC := Aside0.mk hcall
    have HV : Aside0 (impl_railNamed.go l0 name 0 = impl_railNamed.go (l0.drop (j + 1)) name ((j + 1 : Nat) : Int)) := ⟨by rw [HG2.out, if_neg (by simpa using hq)]⟩
    clear hcall hq hBw HG2
    go_wp2_with (go_at_fn 105; refine HC.out.mono ?_; rintro e w' ⟨rfl, hb⟩)
    go_roundg (l0.length - (j + 1))
    case measure => have := HJ.out; omega
    case rel => exact ⟨j + 1, by go_num, ⟨by omega, by omega⟩, HV, ⟨HB.out.trans (hb.mono HB.out.size)⟩⟩
  ·have he : j = l0.length := by have := HJ.out; omega
   have HV : Aside0 (impl_railNamed.go l0 name 0 = -1) := ⟨by rw [HG.out, he, List.drop_length]; rfl⟩
   have hlt2 : decide (j < l0.length) = false := decide_eq_false hlt
   clear HG he hlt
   go_wp2
   go_ret
   exact ⟨by rw [HV.out]; rfl, HB.out⟩
theorem impl_railNamed.calls (A0_0 : Option Addr) (c0_0 : Nat) (l0_0 : List S64) (A0_1 : Option Addr) (c0_1 : Nat) (l0_1 : List ByteArray) (A0_2 : Option Addr) (c0_2 : Nat) (l0_2 : List S67) (a1 : ByteArray) (r : Int) (w : World) (hr0_0 : Kd.C k64 w A0_0 l0_0.length l0_0) (_hc0_0 : l0_0.length ≤ c0_0) (_hr0_1 : Kd.C Kd.string w A0_1 l0_1.length l0_1) (_hc0_1 : l0_1.length ≤ c0_1) (_hr0_2 : Kd.C k67 w A0_2 l0_2.length l0_2) (_hc0_2 : l0_2.length ≤ c0_2) (h : impl_railNamed.f l0_0 l0_1 l0_2 a1 = some r) :
  Calls Tryd.prog 88 #[.agg #[.slice A0_0 l0_0.length c0_0, .slice A0_1 l0_1.length c0_1, .slice A0_2 l0_2.length c0_2], .string a1] w fun e w' => e = .returned (.int .i64 r) ∧ Below w.heap.size w w' := by
 have hr := Option.some.inj h
 have hbb : Below w.heap.size w ((w.alloc (.cells #[.slice A0_0 l0_0.length c0_0, .slice A0_1 l0_1.length c0_1, .slice A0_2 l0_2.length c0_2] 32)).alloc (.cells #[.string a1] 9)) := below_alloc (below_alloc (Below.refl _ _) _) _
 have hcon := impl_railNamed.loop A0_0 c0_0 l0_0 a1 (w.heap.size + 1) ((w.alloc (.cells #[.slice A0_0 l0_0.length c0_0, .slice A0_1 l0_1.length c0_1, .slice A0_2 l0_2.length c0_2] 32)).alloc (.cells #[.string a1] 9)) (Kd.C_below hr0_0 hbb) (by have := heap_alloc_new (w.alloc (.cells #[.slice A0_0 l0_0.length c0_0, .slice A0_1 l0_1.length c0_1, .slice A0_2 l0_2.length c0_2] 32)) (.cells #[.string a1] 9); simpa using this)
 rw [hr] at hcon
 have HC := Aside0.mk hcon
 have HBB := Aside0.mk hbb
 clear hcon hr h hr0_0 hbb
 have hmf : ∀ (fn : Fn) (first cap : Array Value) (w : World), (Instr.makeFunc fn first cap).run Tryd.prog w = .ok (.func fn first cap) w := fun _ _ _ _ => rfl
 have hu := Tryd.underlying32
 have c0 : ((w.alloc (.cells #[.slice A0_0 l0_0.length c0_0, .slice A0_1 l0_1.length c0_1, .slice A0_2 l0_2.length c0_2] 32)).alloc (.cells #[.string a1] 9)).cell? ⟨w.heap.size, 0, none⟩ = some (.slice A0_0 l0_0.length c0_0) := (blk_cell ((Below.heap_alloc (w.alloc (.cells #[.slice A0_0 l0_0.length c0_0, .slice A0_1 l0_1.length c0_1, .slice A0_2 l0_2.length c0_2] 32)) _ w.heap.size (by simp)).trans (heap_alloc_new w (.cells #[.slice A0_0 l0_0.length c0_0, .slice A0_1 l0_1.length c0_1, .slice A0_2 l0_2.length c0_2] 32))) 0).trans rfl
 go_enter Tryd.func88, Tryd.ntmps88
 go_wp2_with (go_at_call 104; refine HC.out.mono ?_; rintro e w' ⟨rfl, hb⟩)
 go_ret
 exact ⟨rfl, HBB.out.trans (hb.mono (by simp; omega))⟩


/-! ### impl_addRail: function 67 -/
open Go.Proofs.YtcenjcgfdghfnaaDoorW.Hand
def impl_addRail.f (k : Nat) (f0 : List S64) (f1 : List ByteArray) (f2 : List S67) (a0 a1 : ByteArray) (a2 : Int) : Option (List S64 × Int) :=
 (impl_IsName.f k a0).bind fun t => if t = true then (if sideB a1 = true then ((impl_within.f a2 1 30).bind fun u => if u = true then ((impl_railNamed.f f0 f1 f2 a0).bind fun i => if i ≥ 0 then some (f0, 5) else if (f0.length : Int) = 10 then some (f0, 8) else if f0.length < 1000 then some (f0 ++ [⟨a0, a1, a2⟩], 0) else none) else some (f0, 4)) else some (f0, 1)) else some (f0, 3)
def impl_addRail.T11 : Bool × List (List Nat × List Nat) := (true, [([], []), ([], []), ([1], [1]), ([2], [2]), ([3], [3]), ([], []), ([5], [5]), ([4, 6], [4, 6]), ([0, 0, 1, 2, 3, 4, 5, 6, 7], [0]), ([8, 0, 1, 2, 3, 4, 5, 6, 7], [8]), ([9, 7, 7, 0, 1, 2, 3, 4, 5, 6, 7], [7, 9])])
def impl_addRail.B11 : List Nat := [0, 0, 2, 6, 14, 0, 32, 126, 255, 511, 1023]
theorem impl_addRail.tab11 : rtab .any (opsOf Tryd.f67 11) = impl_addRail.T11 := by kernel_rfl
theorem impl_addRail.bits11 : waitsOk impl_addRail.T11.2 impl_addRail.B11 = true := by kernel_rfl
set_option maxRecDepth 100000 in
set_option maxHeartbeats 8000000 in
theorem impl_addRail.calls (k base : Nat) (g : Nat) (f0 : List S64) (f1 : List ByteArray) (f2 : List S67) (a0 a1 : ByteArray) (a2 : Int) (q : List S64) (r : Int) (w : World) (hI : RigOwn base w g f0 f1 f2) (h : impl_addRail.f k f0 f1 f2 a0 a1 a2 = some (q, r)) :
  Calls Tryd.prog 67 #[.pointer (some ⟨g, 0, none⟩), .agg #[.string a0, .string a1, .int .i64 a2]] w fun e w' => e = .returned (.int .i64 r) ∧ RigOwn base w' g q f1 f2 ∧ Below base w w' := by
 obtain ⟨A0, c0, A1, c1, A2, c2, hI⟩ := hI
 have HI := Aside0.mk hI
 have hB0 := hI.lt
 have hu := Tryd.underlying64
 clear hI
 unfold impl_addRail.f at h
 obtain ⟨t, ht, h⟩ := Option.bind_eq_some_iff.mp h
 have HT := Aside0.mk ht
 clear ht
 cases t with
 | false =>
  simp only [Bool.false_eq_true, if_false, Option.some.injEq, Prod.mk.injEq] at h
  obtain ⟨rfl, rfl⟩ := h
  go_enter Tryd.func67, Tryd.ntmps67
  go_wp2_with (first | ((with_reducible refine gate_dst (N := 3) rfl ?_); refine hand_box (fun g_ W_ => RailSt base w W_ g g_ A0 c0 A1 c1 A2 c2 f0 f1 f2 #[.string a0, .string a1, .int .i64 a2] 64) ?hg (N := 3) ?hd (cs := #[.string a0, .string a1, .int .i64 a2]) (t := 64) ?hr ?hF ?_; (case hd => rfl); (case hg => rfl); (case hr => first | (go_simp; done) | (go_simp; rfl)); (case hF => exact ⟨HI.out.step (below_alloc (Below.refl _ _) _), heap_alloc_new _ _, (Below.refl base w).alloc hB0 _⟩); intro bl w1 hh; obtain ⟨z0, z1, z2⟩ := hh.s0; have HS1 := Aside0.mk hh; clear hh) | (go_at_call 87; refine (impl_IsName.calls k a0 false w1 HT.out).mono ?_; rintro e w2 ⟨rfl, hb2⟩; have HS2 := Aside0.mk (HS1.out.step hb2.below); clear hb2 z0 z1 z2; obtain ⟨z0, z1, z2⟩ := HS2.out.s0))
  go_ret
  exact ⟨rfl, HS2.out.rig.own, HS2.out.below⟩
 | true =>
  simp only [if_true] at h
  by_cases hs : sideB a1 = true
  rotate_left
  ·rw [if_neg hs] at h
   simp only [Option.some.injEq, Prod.mk.injEq] at h
   obtain ⟨rfl, rfl⟩ := h
   obtain ⟨k1, k2, k3⟩ := sideB_no hs
   have n1 := ne_of_beq k1
   have n2 := ne_of_beq k2
   have n3 := ne_of_beq k3
   go_enter Tryd.func67, Tryd.ntmps67
   go_wp2_with (first | ((with_reducible refine gate_dst (N := 3) rfl ?_); refine hand_box (fun g_ W_ => RailSt base w W_ g g_ A0 c0 A1 c1 A2 c2 f0 f1 f2 #[.string a0, .string a1, .int .i64 a2] 64) ?hg (N := 3) ?hd (cs := #[.string a0, .string a1, .int .i64 a2]) (t := 64) ?hr ?hF ?_; (case hd => rfl); (case hg => rfl); (case hr => first | (go_simp; done) | (go_simp; rfl)); (case hF => exact ⟨HI.out.step (below_alloc (Below.refl _ _) _), heap_alloc_new _ _, (Below.refl base w).alloc hB0 _⟩); intro bl w1 hh; obtain ⟨z0, z1, z2⟩ := hh.s0; have HS1 := Aside0.mk hh; clear hh) | (go_at_call 87; refine (impl_IsName.calls k a0 true w1 HT.out).mono ?_; rintro e w2 ⟨rfl, hb2⟩; have HS2 := Aside0.mk (HS1.out.step hb2.below); clear hb2 z0 z1 z2; obtain ⟨z0, z1, z2⟩ := HS2.out.s0))
   go_ret
   exact ⟨rfl, HS2.out.rig.own, HS2.out.below⟩
  ·rw [if_pos hs] at h
   obtain ⟨u, hu2, h⟩ := Option.bind_eq_some_iff.mp h
   have HU := Aside0.mk hu2
   clear hu2
   rcases sideB_yes hs with k1 | ⟨k1, k2⟩ | ⟨k1, k2, k3⟩ <;> (
    have n1 := ne_of_beq k1
    (try have n2 := ne_of_beq k2)
    (try have n3 := ne_of_beq k3)
    go_enter Tryd.func67, Tryd.ntmps67
    go_upto_if 24 with (first | ((with_reducible refine gate_dst (N := 3) rfl ?_); refine hand_box (fun g_ W_ => RailSt base w W_ g g_ A0 c0 A1 c1 A2 c2 f0 f1 f2 #[.string a0, .string a1, .int .i64 a2] 64) ?hg (N := 3) ?hd (cs := #[.string a0, .string a1, .int .i64 a2]) (t := 64) ?hr ?hF ?_; (case hd => rfl); (case hg => rfl); (case hr => first | (go_simp; done) | (go_simp; rfl)); (case hF => exact ⟨HI.out.step (below_alloc (Below.refl _ _) _), heap_alloc_new _ _, (Below.refl base w).alloc hB0 _⟩); intro bl w1 hh; obtain ⟨z0, z1, z2⟩ := hh.s0; have HS1 := Aside0.mk hh; clear hh) | (go_at_call 87; refine (impl_IsName.calls k a0 true w1 HT.out).mono ?_; rintro e w2 ⟨rfl, hb2⟩; have HS2 := Aside0.mk (HS1.out.step hb2.below); clear hb2 z0 z1 z2; obtain ⟨z0, z1, z2⟩ := HS2.out.s0) | (go_at_call 64; refine (impl_within.calls a2 1 30 u w2 HU.out).mono ?_; rintro e w3 ⟨rfl, hb3⟩; have HS3 := Aside0.mk (HS2.out.step hb3.below); clear hb3 z0 z1 z2; obtain ⟨z0, z1, z2⟩ := HS3.out.s0))
    clear n1 k1
    (try clear n2 k2)
    (try clear n3 k3)
    cases u with
    | false =>
     simp only [Bool.false_eq_true, if_false, Option.some.injEq, Prod.mk.injEq] at h
     obtain ⟨rfl, rfl⟩ := h
     go_wp2_with fail
     go_ret
     exact ⟨rfl, HS3.out.rig.own, HS3.out.below⟩
    | true =>
     simp only [if_true] at h
     obtain ⟨i, hi, h⟩ := Option.bind_eq_some_iff.mp h
     have HX := Aside0.mk hi
     clear hi
     go_upto_region 7 with fail
     refine hand_tail 5 (fun W => RailSt base w W g bl A0 c0 A1 c1 A2 c2 f0 f1 f2 #[.string a0, .string a1, .int .i64 a2] 64) (by kernel_rfl) (by kernel_rfl) (HS3.out.step (below_drew (Below.refl _ _))) ?_
     clear z0 z1 z2
     rintro W hS
     obtain ⟨z0, z1, z2⟩ := hS.s0
     have x0 := hS.rig.c0
     have x1 := hS.rig.c1
     have x2 := hS.rig.c2
     have hu2 := Tryd.underlying32
     have HSW := Aside0.mk hS
     clear hS
     simp only [List.take_succ_cons, List.take_zero, List.drop_succ_cons, List.drop_zero]
     repeat still_step
     refine wpStill_nil ?_
     go_upto_if 29 with (go_at_call 88; refine (impl_railNamed.calls A0 c0 f0 A1 c1 f1 A2 c2 f2 a0 i W (Kd.R_reads' HSW.out.rig.r0).2.2 (Kd.R_reads' HSW.out.rig.r0).2.1 (Kd.R_reads' HSW.out.rig.r1).2.2 (Kd.R_reads' HSW.out.rig.r1).2.1 (Kd.R_reads' HSW.out.rig.r2).2.2 (Kd.R_reads' HSW.out.rig.r2).2.1 HX.out).mono ?_; rintro e w4 ⟨rfl, hb4⟩; have HS4 := Aside0.mk (HSW.out.step hb4); clear hb4 z0 z1 z2 x0 x1 x2; obtain ⟨z0, z1, z2⟩ := HS4.out.s0)
     clear hs
     by_cases hi0 : i ≥ 0
     ·rw [if_pos hi0] at h
      simp only [Option.some.injEq, Prod.mk.injEq] at h
      obtain ⟨rfl, rfl⟩ := h
      have hid : decide ((0 : Int) ≤ i) = true := decide_eq_true hi0
      go_wp2_with fail
      go_ret
      exact ⟨rfl, HS4.out.rig.own, HS4.out.below⟩
     ·rw [if_neg hi0] at h
      have hid : decide ((0 : Int) ≤ i) = false := decide_eq_false hi0
      have x0 := HS4.out.rig.c0
      by_cases hf : (f0.length : Int) = 10
      ·rw [if_pos hf] at h
       simp only [Option.some.injEq, Prod.mk.injEq] at h
       obtain ⟨rfl, rfl⟩ := h
       have hfe : ((f0.length : Int) == 10) = true := by simpa using hf
       go_wp2_with fail
       go_ret
       exact ⟨rfl, HS4.out.rig.own, HS4.out.below⟩
      ·rw [if_neg hf] at h
       have hfe : ((f0.length : Int) == 10) = false := by simpa using hf
       by_cases hl : f0.length < 1000
       ·rw [if_pos hl] at h
        simp only [Option.some.injEq, Prod.mk.injEq] at h
        obtain ⟨rfl, rfl⟩ := h
        have HLM := Aside0.mk hl
        clear hf hl
        have y0 : w4.drew.cell? ⟨g, 0, none⟩ = some (.slice A0 f0.length c0) := HS4.out.rig.c0
        have z0 : w4.drew.cell? ⟨bl, 0, none⟩ = some (.string a0) := HS4.out.s0.1
        have z1 : w4.drew.cell? ⟨bl, 1, none⟩ = some (.string a1) := HS4.out.s0.2.1
        have z2 : w4.drew.cell? ⟨bl, 2, none⟩ = some (.int .i64 a2) := HS4.out.s0.2.2
        go_upto_region 11 with fail
        refine start_ (n := 11) (S := fun w' => w'.cell? ⟨g, 0, none⟩ = some (.slice A0 f0.length c0) ∧ w'.cell? ⟨bl, 0, none⟩ = some (.string a0) ∧ w'.cell? ⟨bl, 1, none⟩ = some (.string a1) ∧ w'.cell? ⟨bl, 2, none⟩ = some (.int .i64 a2)) (ds := [7, 10]) #[F_,F_,F_,F_,F_,F_,F_,F_,F_,F_,F_] (by kernel_rfl) rfl rfl ⟨y0, z0, z1, z2⟩ (fun hHeld => ?_); refine with_tabW impl_addRail.tab11 impl_addRail.bits11 (fun HT_ HW_ => ?_)
        generalize hW5 : w4.drew = W5 at hHeld y0 z0 z1 z2 ⊢
        have HS5 : Aside0 (RailSt base w W5 g bl A0 c0 A1 c1 A2 c2 f0 f1 f2 #[.string a0, .string a1, .int .i64 a2] 64) := ⟨by rw [← hW5]; exact HS4.out.step (below_drew (Below.refl _ _))⟩
        clear hW5
        refine pu (i := 0) (N := some 44) #[T_,F_,F_,F_,F_,F_,F_,F_,F_,F_,F_] HT_ ?_
        refine pu (i := 1) (N := some 45) #[T_,T_,F_,F_,F_,F_,F_,F_,F_,F_,F_] HT_ ?_
        refine pu (i := 2) (N := some 46) #[T_,T_,T_,F_,F_,F_,F_,F_,F_,F_,F_] HT_ ?_
        refine pu (i := 3) (N := some 47) #[T_,T_,T_,T_,F_,F_,F_,F_,F_,F_,F_] HT_ ?_
        refine take_ (i := 4) (N := some 48) (v := ?_) (a' := ?_) #[T_,T_,T_,T_,T_,F_,F_,F_,F_,F_,F_] rfl rfl (take_ofW HT_.out HW_.out (by kernel_rfl)) (fun _ _ _ h => h) (Or.inl ⟨by rfl, ?_⟩) hHeld ?_ ?_
        rotate_left
        ·rintro w' ⟨s0, s1, s2, s3⟩
         go_simp
         with_reducible rfl
        rotate_left
        ·simp only [Act.put, sT_, s0_, sS_, i64_w, i32_w]
         rfl
        refine take_ (i := 5) (N := some 49) (v := ?_) (a' := ?_) #[T_,T_,T_,T_,T_,T_,F_,F_,F_,F_,F_] rfl rfl (take_ofW HT_.out HW_.out (by kernel_rfl)) (fun _ _ _ h => h) (Or.inl ⟨by rfl, ?_⟩) hHeld ?_ ?_
        rotate_left
        ·rintro w' ⟨s0, s1, s2, s3⟩
         go_simp
         with_reducible rfl
        rotate_left
        ·simp only [Act.put, sT_, s0_, sS_, i64_w, i32_w]
         rfl
        refine one_ (i := 6) (N := (some 50)) #[T_,T_,T_,T_,T_,T_,T_,F_,F_,F_,F_] rfl rfl (one_of HT_.out (by kernel_rfl)) (by decide) (fun K hK => ?_)
        refine event_step (v := .slice (some ⟨W5.heap.size, 0, none⟩) 1 1) (w1 := W5.alloc (.cells #[.string a0, .string a1, .int .i64 a2] 64)) (by rfl) (by first | (go_simp; done) | (go_simp; rfl)) ?_
        refine hK.out _ _ ⟨pw_cell_below (below_alloc (Below.refl W5.heap.size W5) _) y0, pw_cell_below (below_alloc (Below.refl W5.heap.size W5) _) z0, pw_cell_below (below_alloc (Below.refl W5.heap.size W5) _) z1, pw_cell_below (below_alloc (Below.refl W5.heap.size W5) _) z2⟩ (fun hHeld => ?_)
        clear hK K
        refine norm_ (a' := ?_) ?_ ?_
        rotate_left
        ·show Act.put _ (some 50) _ = _
         simp only [Act.put, sT_, s0_, sS_, i64_w, i32_w]
         rfl
        refine last_ (i := 7) (N := (some 51)) #[T_,T_,T_,T_,T_,T_,T_,T_,F_,F_,F_] rfl rfl (one_of HT_.out (by kernel_rfl)) (by decide) (fun K hK => ?_)
        refine Kd.R_append_step k64 (w0 := w) base (by rfl) (.tmp 48) (.tmp 50) 29 64 (.agg #[(.string ⟨#[]⟩), (.string ⟨#[]⟩), (.int .i64 0)]) 40 rfl Tryd.underlying29 info64 rfl (by decide) (by decide) (.slice A0 f0.length c0) f0 (⟨a0, a1, a2⟩ : S64) [.string a0, .string a1, .int .i64 a2] (fun _ => True) (fun _ => False) rfl rfl (k64_mkM _ _ _ _) (fun _ hk => hk.elim) (fun _ _ => trivial) HS5.out.rig.r0 HS5.out.below HS5.out.rig.lt (by have := HLM.out; omega) ?_
        intro v6 w6 ho hb hg hat
        obtain ⟨A6, c6, e6⟩ := Kd.R_slice ho
        subst e6
        have hP := HS5.out.rig.put0 hg ho
        have HP := Aside0.mk hP
        have HB6 := Aside0.mk hb
        clear ho hb hg hat hP
        refine hK.out _ _ ?_
        clear hK K
        refine norm_ (a' := ?_) ?_ ?_
        rotate_left
        ·show Act.put _ (some 51) _ = _
         simp only [Act.put, sT_, s0_, sS_, i64_w, i32_w]
         rfl
        refine pu (i := 8) (N := some 52) #[T_,T_,T_,T_,T_,T_,T_,T_,T_,F_,F_] HT_ ?_
        refine pu (i := 9) (N := some 53) #[T_,T_,T_,T_,T_,T_,T_,T_,T_,T_,F_] HT_ ?_
        refine last_ (i := 10) (N := none) #[T_,T_,T_,T_,T_,T_,T_,T_,T_,T_,T_] rfl rfl (one_of HT_.out (by kernel_rfl)) (by decide) (fun K hK => ?_)
        refine skip_ (w1 := w6.setCell ⟨g, 0, none⟩ (.slice A6 (f0 ++ [(⟨a0, a1, a2⟩ : S64)]).length c6)) (by rfl) rfl ?_ ?_
        ·have fz := HP.out.1.1
         have xz := HP.out.1.2
         first | (go_simp; done) | (go_simp; rfl)
        refine hK.out _ _ ?_
        clear hK K
        refine done_ (done_of HT_.out (by kernel_rfl)) ?_
        obtain ⟨w7, hw7⟩ : ∃ w7, w7 = w6.setCell ⟨g, 0, none⟩ (.slice A6 (f0 ++ [(⟨a0, a1, a2⟩ : S64)]).length c6) := ⟨_, rfl⟩
        have HR7 : Aside0 (RigOwn base w7 g (f0 ++ [(⟨a0, a1, a2⟩ : S64)]) f1 f2) := ⟨by rw [hw7]; exact HP.out.2.own⟩
        have HB7 : Aside0 (Below base w w7) := ⟨by rw [hw7]; exact HB6.out.setCell HS5.out.rig.ge _⟩
        rw [← hw7]
        clear hw7 HP HB6 HS5 y0 z0 z1 z2
        go_wp2_with fail
        go_ret
        exact ⟨rfl, HR7.out, HB7.out⟩
       ·rw [if_neg hl] at h
        exact absurd h (by simp))


/-! ### slices_Index_string_string: function 106 -/
def slices_Index_string_string.l0 : Nat → List ByteArray → ByteArray → Int → Int → Option (Int)
 | 0, _, _, _, _ => none
 | k + 1, x0, x1, x7, x8 => if x8 < x7 then (if 0 ≤ x8 then (if x8 < (x0.length : Int) then (if x1.toList = (rdOf ByteArray.empty x0 x8).toList then (some x8) else (slices_Index_string_string.l0 k x0 x1 x7 (wrap64 (x8 + 1)))) else (none)) else (none)) else (some (-1))
def slices_Index_string_string.f (k : Nat) (l0 : List ByteArray) (a1 : ByteArray) : Option (Int) := slices_Index_string_string.l0 k l0 a1 (l0.length : Int) 0
set_option maxHeartbeats 8000000 in
set_option maxRecDepth 100000 in
theorem slices_Index_string_string.calls (k : Nat) (A0 : Option Addr) (c0 : Nat) (l0 : List ByteArray) (a1 : ByteArray) (r : Int) (w : World) (hr0 : Kd.C Kd.string w A0 l0.length l0) (hc0 : l0.length ≤ c0) (h : slices_Index_string_string.f k l0 a1 = some r) :
  Calls Tryd.prog 106 #[.slice A0 l0.length c0, .string a1] w fun e w' => e = .returned (.int .i64 r) ∧ Drawn0 w w' := by
 have HR0 := Aside0.mk hr0
 have HC0 := Aside0.mk hc0
 clear hr0 hc0
 have H : (slices_Index_string_string.l0 k l0 a1 (l0.length : Int) 0) = some r := h
 clear h
 have H' := Aside0.mk H
 clear H
 go_enter Tryd.func106, Tryd.ntmps106
 go_wp2
 go_loopg [8] k (fun kq v8 w' => ∃ (x8_1 : Int), v8 = .int .i64 x8_1 ∧ Aside0 (slices_Index_string_string.l0 kq l0 a1 (l0.length : Int) x8_1 = some r) ∧ Aside0 (kq ≤ k) ∧ Drawn0 w w')
 case atStart => exact ⟨(0), (by first | rfl | (simp; done) | (simp [*]; done)), H', ⟨Nat.le_refl _⟩, by repeat (first | exact Drawn0.refl _ | apply Drawn0.step)⟩
 case round =>
  clear H'
  try clear c1
  try clear p2
  obtain ⟨x8_1, rfl, HA, HK1, ⟨m1, rfl⟩⟩ := hrel
  cases gk with
  | zero => exact absurd HA.out (by simp [slices_Index_string_string.l0])
  | succ k1 =>
   have H := HA.out
   clear HA
   simp only [slices_Index_string_string.l0] at H
   by_cases c3 : x8_1 < (l0.length : Int)
   ·rw [if_pos c3] at H
    have c3b0 : decide (x8_1 < (l0.length : Int)) = true := decide_eq_true c3
    clear c3
    by_cases c4 : 0 ≤ x8_1
    ·rw [if_pos c4] at H
     have c4b0 : decide (0 ≤ x8_1) = true := decide_eq_true c4
     clear c4
     by_cases c5 : x8_1 < (l0.length : Int)
     ·rw [if_pos c5] at H
      have c5b0 : decide (x8_1 < (l0.length : Int)) = true := decide_eq_true c5
      clear c5
      by_cases c6 : a1.toList = (rdOf ByteArray.empty l0 x8_1).toList
      ·rw [if_pos c6] at H
       have c6b0 : (a1.toList == (rdOf ByteArray.empty l0 x8_1).toList) = true := beq_iff_eq.mpr c6
       have c6b1 : (a1.toList != (rdOf ByteArray.empty l0 x8_1).toList) = false := bne_eq_false_iff_eq.mpr c6
       clear c6
       obtain rfl := Option.some.inj H
       have p194 : 0 ≤ (x8_1 : Int) := od_
       have q194 : x8_1 < (l0.length : Int) := od_
       obtain ⟨ad194, e194, hx194_0⟩ := Kd.at_string HR0.out x8_1 p194 q194
       cases e194
       replace p194 := eq_true p194
       replace q194 := eq_true q194
       go_wp2
       go_ret
       exact ⟨by first | rfl | (simp; done) | (simp [*]; done), by repeat (first | exact Drawn0.refl _ | apply Drawn0.step)⟩
      ·rw [if_neg c6] at H
       have c6b0 : (a1.toList == (rdOf ByteArray.empty l0 x8_1).toList) = false := beq_eq_false_iff_ne.mpr c6
       have c6b1 : (a1.toList != (rdOf ByteArray.empty l0 x8_1).toList) = true := bne_iff_ne.mpr c6
       have H' := Aside0.mk H
       clear H
       have p194 : 0 ≤ (x8_1 : Int) := od_
       have q194 : x8_1 < (l0.length : Int) := od_
       obtain ⟨ad194, e194, hx194_0⟩ := Kd.at_string HR0.out x8_1 p194 q194
       cases e194
       replace p194 := eq_true p194
       replace q194 := eq_true q194
       go_wp2
       go_roundg k1
       case measure => have := HK1.out; omega
       case rel => exact ⟨(wrap64 (x8_1 + 1)), (by first | rfl | (simp; done) | (simp [*]; done)), H', ⟨by have := HK1.out; omega⟩, by repeat (first | exact Drawn0.refl _ | apply Drawn0.step)⟩
     ·rw [if_neg c5] at H
      exact absurd H (by simp)
    ·rw [if_neg c4] at H
     exact absurd H (by simp)
   ·rw [if_neg c3] at H
    have c3b0 : decide (x8_1 < (l0.length : Int)) = false := decide_eq_false c3
    clear c3
    obtain rfl := Option.some.inj H
    go_wp2
    go_ret
    exact ⟨by first | rfl | (simp; done) | (simp [*]; done), by repeat (first | exact Drawn0.refl _ | apply Drawn0.step)⟩

/-! ### slices_Contains_string_string: function 89 -/
def slices_Contains_string_string.f (k : Nat) (l0 : List ByteArray) (a1 : ByteArray) : Option (Bool) := (slices_Index_string_string.f k l0 a1).bind fun t195 => (some (decide (t195 ≥ 0)))
set_option maxHeartbeats 8000000 in
set_option maxRecDepth 100000 in
theorem slices_Contains_string_string.calls (k : Nat) (A0 : Option Addr) (c0 : Nat) (l0 : List ByteArray) (a1 : ByteArray) (r : Bool) (w : World) (hr0 : Kd.C Kd.string w A0 l0.length l0) (hc0 : l0.length ≤ c0) (h : slices_Contains_string_string.f k l0 a1 = some r) :
  Calls Tryd.prog 89 #[.slice A0 l0.length c0, .string a1] w fun e w' => e = .returned (.bool r) ∧ Drawn0 w w' := by
 have HR0 := Aside0.mk hr0
 have HC0 := Aside0.mk hc0
 clear hr0 hc0
 have H : ((slices_Index_string_string.f k l0 a1).bind fun t195 => (some (decide (t195 ≥ 0)))) = some r := h
 clear h
 replace H := Option.bind_eq_some_iff.mp H
 obtain ⟨t195, A30, H⟩ := H
 replace H : (some (decide (t195 ≥ 0))) = some r := H
 have A3 := Aside0.mk A30
 clear A30
 obtain rfl := Option.some.inj H
 go_enter Tryd.func89, Tryd.ntmps89
 go_wp2_with (first | ((with_reducible refine gate_callee (f := 106) rfl ?_); refine goesL_ (some 7) rfl rfl Tryd.func106 (by kernel_rfl) rfl #[.slice A0 l0.length c0, .string a1] rfl ln_ ?_; (with_reducible refine (slices_Index_string_string.calls k _ _ l0 a1 t195 _ ?side1 ?side2 A3.out).mono ?_); (case side1 => exact kc_ HR0.out); (case side2 => exact HC0.out); rintro e w' ⟨rfl, ⟨nd, rfl⟩⟩; refine ⟨_, rfl, ?_⟩))
 go_ret
 exact ⟨by first | rfl | (simp; done) | (simp [*]; done), by repeat (first | exact Drawn0.refl _ | apply Drawn0.step)⟩

/-! ### impl_addLine: function 68 -/
open Go.Proofs.YtcenjcgfdghfnaaDoorW.Hand
def impl_addLine.f (k : Nat) (f0 : List S64) (f1 : List ByteArray) (f2 : List S67) (a : ByteArray) : Option (List ByteArray × Int) :=
 (impl_IsName.f k a).bind fun t => if t = true then ((slices_Contains_string_string.f k f1 a).bind fun u => if u = true then some (f1, 5) else if (f1.length : Int) = 60 then some (f1, 8) else if f1.length < 1000 then some (f1 ++ [a], 0) else none) else some (f1, 3)
set_option maxRecDepth 100000 in
set_option maxHeartbeats 4000000 in
theorem impl_addLine.calls (k base : Nat) (g : Nat) (f0 : List S64) (f1 : List ByteArray) (f2 : List S67) (a : ByteArray) (q : List ByteArray) (r : Int) (w : World) (hI : RigOwn base w g f0 f1 f2) (h : impl_addLine.f k f0 f1 f2 a = some (q, r)) :
  Calls Tryd.prog 68 #[.pointer (some ⟨g, 0, none⟩), .string a] w fun e w' => e = .returned (.int .i64 r) ∧ RigOwn base w' g f0 q f2 ∧ Below base w w' := by
 obtain ⟨A0, c0, A1, c1, A2, c2, hI⟩ := hI
 have HI := Aside0.mk hI
 have hB0 := hI.lt
 clear hI
 unfold impl_addLine.f at h
 obtain ⟨t, ht, h⟩ := Option.bind_eq_some_iff.mp h
 have HT := Aside0.mk ht
 clear ht
 go_enter Tryd.func68, Tryd.ntmps68
 go_upto_if 5 with (go_at_call 87; refine (impl_IsName.calls k a t w HT.out).mono ?_; rintro e w1 ⟨rfl, hb1⟩; have HI1 := Aside0.mk (HI.out.step hb1.below); have HB1 := Aside0.mk (below_mono hb1.below hB0); clear hb1)
 cases t with
 | false =>
  simp only [Bool.false_eq_true, if_false, Option.some.injEq, Prod.mk.injEq] at h
  obtain ⟨rfl, rfl⟩ := h
  go_wp2_with fail
  go_ret
  exact ⟨rfl, HI1.out.own, HB1.out⟩
 | true =>
  simp only [if_true] at h
  obtain ⟨u, hu, h⟩ := Option.bind_eq_some_iff.mp h
  have HU := Aside0.mk hu
  clear hu
  have x1 := HI1.out.c1
  have hB1 := HI1.out.lt
  go_upto_if 9 with (go_at_call 89; refine (slices_Contains_string_string.calls k A1 c1 f1 a u w1 (Kd.R_reads' HI1.out.r1).2.2 (Kd.R_reads' HI1.out.r1).2.1 HU.out).mono ?_; rintro e w2 ⟨rfl, hb2⟩; have HI2 := Aside0.mk (HI1.out.step hb2.below); have HB2 := Aside0.mk (below_trans HB1.out (below_mono hb2.below hB1)); clear hb2)
  cases u with
  | true =>
   simp only [if_true, Option.some.injEq, Prod.mk.injEq] at h
   obtain ⟨rfl, rfl⟩ := h
   go_wp2_with fail
   go_ret
   exact ⟨rfl, HI2.out.own, HB2.out⟩
  | false =>
   simp only [Bool.false_eq_true, if_false] at h
   clear x1
   have x2 := HI2.out.c1
   by_cases hf : (f1.length : Int) = 60
   ·rw [if_pos hf] at h
    simp only [Option.some.injEq, Prod.mk.injEq] at h
    obtain ⟨rfl, rfl⟩ := h
    have hfd : decide ((f1.length : Int) = 60) = true := decide_eq_true hf
    have hfe : ((f1.length : Int) == 60) = true := by simpa using hf
    go_wp2_with fail
    go_ret
    exact ⟨rfl, HI2.out.own, HB2.out⟩
   ·rw [if_neg hf] at h
    have hfd : decide ((f1.length : Int) = 60) = false := decide_eq_false hf
    have hfe : ((f1.length : Int) == 60) = false := by simpa using hf
    by_cases hl : f1.length < 1000
    ·rw [if_pos hl] at h
     simp only [Option.some.injEq, Prod.mk.injEq] at h
     obtain ⟨rfl, rfl⟩ := h
     have HLM := Aside0.mk hl
     clear hf hl
     go_wp2_with (first
      | ((with_reducible refine gate_builtin (b := .append) (xs := #[.tmp 27, .tmp 29]) rfl ?_); at_builtin; refine Kd.R_append Kd.string (w0 := w) base rfl (.tmp 27) (.tmp 29) 23 9 (.string ⟨#[]⟩) 16 rfl Tryd.underlying23 info9 rfl (by decide) (by omega) (.slice A1 f1.length c1) f1 a [.string a] (fun _ => True) (fun _ => False) rfl rfl ?aP (fun _ hk => hk.elim) ?aF ?aO ?aB ?aS ?aL ?_; (case aP => exact rfl); (case aB => exact HB2.out); (case aF => exact (fun _ _ => trivial)); (case aO => exact HI2.out.r1); (case aS => exact HI2.out.lt); (case aL => have := HLM.out; omega); intro v3 w3 ho hb hg hat; obtain ⟨A3, c3, e3⟩ := Kd.R_slice ho; subst e3; have hP := HI2.out.put1 hg ho; have fz := hP.1.1; have xz := hP.1.2; have HP := Aside0.mk hP.2; have HB3 := Aside0.mk hb; have hB3 := Nat.le_trans hB0 hb.size; clear x2 ho hb hg hat hP)
      | (refine hand_store (fun w4 => RigOwn base w4 g f0 (f1 ++ [a]) f2 ∧ Below base w w4) (t := 23) (p := 32) (v := .tmp 30) (w1 := w3.setCell ⟨g, 1, none⟩ (.slice A3 (f1 ++ [a]).length c3)) ?hg4 rfl ?hN4 ?hr4 ?hF4 ?_; (case hg4 => rfl); (case hN4 => rfl); (case hr4 => first | (go_simp; done) | (go_simp; rfl)); (case hF4 => exact ⟨HP.out.own, HB3.out.setCell HI.out.ge _⟩); clear fz xz; rintro w4 ⟨hI4, hB4⟩; have HI4 := Aside0.mk hI4; have HB4 := Aside0.mk hB4; clear hI4 hB4))
     go_ret
     exact ⟨rfl, HI4.out, HB4.out⟩
    ·rw [if_neg hl] at h
     exact absurd h (by simp)


/-! ### impl_hasPin: function 90 -/
def impl_hasPin.f (l0_0 : List (S64)) (l0_1 : List ByteArray) (l0_2 : List (S67)) (a1 : ByteArray) (a2 : Int) : Option (Bool) := (impl_railNamed.f l0_0 l0_1 l0_2 a1).bind fun t197 => (if t197 ≥ 0 then (if 0 ≤ t197 then (if t197 < (l0_0.length : Int) then ((impl_within.f a2 1 ((rd_T64 l0_0 t197).f2)).bind fun t199 => (some t199)) else (none)) else (none)) else (some false))
set_option maxHeartbeats 8000000 in
set_option maxRecDepth 100000 in
theorem impl_hasPin.calls (A0_0 : Option Addr) (c0_0 : Nat) (l0_0 : List (S64)) (A0_1 : Option Addr) (c0_1 : Nat) (l0_1 : List ByteArray) (A0_2 : Option Addr) (c0_2 : Nat) (l0_2 : List (S67)) (a1 : ByteArray) (a2 : Int) (r : Bool) (w : World) (hr0_0 : Kd.C k64 w A0_0 l0_0.length l0_0) (hc0_0 : l0_0.length ≤ c0_0) (hr0_1 : Kd.C Kd.string w A0_1 l0_1.length l0_1) (hc0_1 : l0_1.length ≤ c0_1) (hr0_2 : Kd.C k67 w A0_2 l0_2.length l0_2) (hc0_2 : l0_2.length ≤ c0_2) (h : impl_hasPin.f l0_0 l0_1 l0_2 a1 a2 = some r) :
  Calls Tryd.prog 90 #[.agg #[.slice A0_0 l0_0.length c0_0, .slice A0_1 l0_1.length c0_1, .slice A0_2 l0_2.length c0_2], .string a1, .int .i64 a2] w fun e w' => e = .returned (.bool r) ∧ Below w.heap.size w w' := by
 have hu32 := Tryd.underlying32
 have HR0_0 := Aside0.mk hr0_0
 have HC0_0 := Aside0.mk hc0_0
 clear hr0_0 hc0_0
 have HR0_1 := Aside0.mk hr0_1
 have HC0_1 := Aside0.mk hc0_1
 clear hr0_1 hc0_1
 have HR0_2 := Aside0.mk hr0_2
 have HC0_2 := Aside0.mk hc0_2
 clear hr0_2 hc0_2
 have HB := Aside0.mk (Below.refl w.heap.size w)
 have H : ((impl_railNamed.f l0_0 l0_1 l0_2 a1).bind fun t197 => (if t197 ≥ 0 then (if 0 ≤ t197 then (if t197 < (l0_0.length : Int) then ((impl_within.f a2 1 ((rd_T64 l0_0 t197).f2)).bind fun t199 => (some t199)) else (none)) else (none)) else (some false))) = some r := h
 clear h
 replace H := Option.bind_eq_some_iff.mp H
 obtain ⟨t197, A40, H⟩ := H
 replace H : (if t197 ≥ 0 then (if 0 ≤ t197 then (if t197 < (l0_0.length : Int) then ((impl_within.f a2 1 ((rd_T64 l0_0 t197).f2)).bind fun t199 => (some t199)) else (none)) else (none)) else (some false)) = some r := H
 have A4 := Aside0.mk A40
 clear A40
 by_cases c5 : t197 ≥ 0
 ·rw [if_pos c5] at H
  have c5b0 : decide (0 ≤ t197) = true := decide_eq_true c5
  clear c5
  by_cases c6 : 0 ≤ t197
  ·rw [if_pos c6] at H
   have c6b0 : decide (0 ≤ t197) = true := decide_eq_true c6
   clear c6
   by_cases c7 : t197 < (l0_0.length : Int)
   ·rw [if_pos c7] at H
    have c7b0 : decide (t197 < (l0_0.length : Int)) = true := decide_eq_true c7
    clear c7
    replace H := Option.bind_eq_some_iff.mp H
    obtain ⟨t199, A80, H⟩ := H
    replace H : (some t199) = some r := H
    have A8 := Aside0.mk A80
    clear A80
    obtain rfl := Option.some.inj H
    go_enter Tryd.func90, Tryd.ntmps90
    go_wp2_with (first | ((with_reducible refine gate_dst (N := 3) rfl ?_); refine box_event ?hg (N := 3) ?hd (cs := #[.slice A0_0 l0_0.length c0_0, .slice A0_1 l0_1.length c0_1, .slice A0_2 l0_2.length c0_2]) (t := 32) ?hr ?_; (case hd => rfl); (case hg => rfl); (case hr => first | (go_simp; done) | (go_simp; rfl)); intro gb196 hg w9 hbox hb; have n0_ := Aside0.mk (below_step hb_ hb); have n1_ := Aside0.mk (hbox); have n2_ := Aside0.mk ((by rw [hg]; exact (below_size hb_) : w.heap.size ≤ gb196)); have n3_ := Aside0.mk ((by rw [hg]; exact (below_size hb_) : w.heap.size ≤ gb196)); clear HB; have HB := n0_; have BK196 := n1_; have GW196 := n2_; have GE196 := n3_; clear n0_ n1_ n2_ n3_; clear hb hbox hg; have hcz10_0 : w9.cell? ⟨gb196, 0, none⟩ = some (.slice A0_0 l0_0.length c0_0) := (blk_cell BK196.out 0).trans rfl; have hcz10_1 : w9.cell? ⟨gb196, 1, none⟩ = some (.slice A0_1 l0_1.length c0_1) := (blk_cell BK196.out 1).trans rfl; have hcz10_2 : w9.cell? ⟨gb196, 2, none⟩ = some (.slice A0_2 l0_2.length c0_2) := (blk_cell BK196.out 2).trans rfl; have hfz10_0 := blk_frozen BK196.out 0; have hfz10_1 := blk_frozen BK196.out 1; have hfz10_2 := blk_frozen BK196.out 2) | ((with_reducible refine gate_callee (f := 88) rfl ?_); refine goesL_ (some 10) rfl rfl Tryd.func88 (by kernel_rfl) rfl #[.agg #[.slice A0_0 l0_0.length c0_0, .slice A0_1 l0_1.length c0_1, .slice A0_2 l0_2.length c0_2], .string a1] rfl ln_ ?_; (with_reducible refine (impl_railNamed.calls _ _ l0_0 _ _ l0_1 _ _ l0_2 a1 t197 _ ?side1 ?side2 ?side3 ?side4 ?side5 ?side6 A4.out).mono ?_); (case side1 => exact kc_ (Kd.C_below HR0_0.out HB.out)); (case side2 => exact HC0_0.out); (case side3 => exact kc_ (Kd.C_below HR0_1.out HB.out)); (case side4 => exact HC0_1.out); (case side5 => exact kc_ (Kd.C_below HR0_2.out HB.out)); (case side6 => exact HC0_2.out); rintro e w11 ⟨rfl, hb⟩; refine ⟨_, rfl, ?_⟩; have n0_ := Aside0.mk (blk_below (g := gb196) (o := .cells #[.slice A0_0 l0_0.length c0_0, .slice A0_1 l0_1.length c0_1, .slice A0_2 l0_2.length c0_2] 32 (0, 0)) (bk_ BK196) hb); have n1_ := Aside0.mk (below_step (hg_ GE196) hb); clear BK196; clear HB; have BK196 := n0_; have HB := n1_; clear n0_ n1_; (try clear hb); (try clear hb2); (try clear hk); (try clear hi); have hcz12_0 : w11.cell? ⟨gb196, 0, none⟩ = some (.slice A0_0 l0_0.length c0_0) := (blk_cell BK196.out 0).trans rfl; have hcz12_1 : w11.cell? ⟨gb196, 1, none⟩ = some (.slice A0_1 l0_1.length c0_1) := (blk_cell BK196.out 1).trans rfl; have hcz12_2 : w11.cell? ⟨gb196, 2, none⟩ = some (.slice A0_2 l0_2.length c0_2) := (blk_cell BK196.out 2).trans rfl; have hfz12_0 := blk_frozen BK196.out 0; have hfz12_1 := blk_frozen BK196.out 1; have hfz12_2 := blk_frozen BK196.out 2; have p198 : 0 ≤ (t197 : Int) := od_; have q198 : t197 < (l0_0.length : Int) := od_; obtain ⟨ad198, e198, hx198_0, hx198_1, hx198_2⟩ := at_T64 HR0_0.out t197 p198 q198; cases e198; replace hx198_0 := cq_ HB hx198_0; replace hx198_1 := cq_ HB hx198_1; replace hx198_2 := cq_ HB hx198_2; replace p198 := eq_true p198; replace q198 := eq_true q198) | (go_at_call 64; (with_reducible refine (impl_within.calls a2 1 ((rd_T64 l0_0 t197).f2) t199 _ A8.out).mono ?_); rintro e w' ⟨rfl, ⟨nd, rfl⟩⟩))
    go_ret
    exact ⟨ew_, (hg_ GE196)⟩
   ·rw [if_neg c7] at H
    exact absurd H (by simp)
  ·rw [if_neg c6] at H
   exact absurd H (by simp)
 ·rw [if_neg c5] at H
  have c5b0 : decide (0 ≤ t197) = false := decide_eq_false c5
  clear c5
  obtain rfl := Option.some.inj H
  go_enter Tryd.func90, Tryd.ntmps90
  go_wp2_with (first | ((with_reducible refine gate_dst (N := 3) rfl ?_); refine box_event ?hg (N := 3) ?hd (cs := #[.slice A0_0 l0_0.length c0_0, .slice A0_1 l0_1.length c0_1, .slice A0_2 l0_2.length c0_2]) (t := 32) ?hr ?_; (case hd => rfl); (case hg => rfl); (case hr => first | (go_simp; done) | (go_simp; rfl)); intro gb196 hg w13 hbox hb; have n0_ := Aside0.mk (below_step hb_ hb); have n1_ := Aside0.mk (hbox); have n2_ := Aside0.mk ((by rw [hg]; exact (below_size hb_) : w.heap.size ≤ gb196)); have n3_ := Aside0.mk ((by rw [hg]; exact (below_size hb_) : w.heap.size ≤ gb196)); clear HB; have HB := n0_; have BK196 := n1_; have GW196 := n2_; have GE196 := n3_; clear n0_ n1_ n2_ n3_; clear hb hbox hg; have hcz14_0 : w13.cell? ⟨gb196, 0, none⟩ = some (.slice A0_0 l0_0.length c0_0) := (blk_cell BK196.out 0).trans rfl; have hcz14_1 : w13.cell? ⟨gb196, 1, none⟩ = some (.slice A0_1 l0_1.length c0_1) := (blk_cell BK196.out 1).trans rfl; have hcz14_2 : w13.cell? ⟨gb196, 2, none⟩ = some (.slice A0_2 l0_2.length c0_2) := (blk_cell BK196.out 2).trans rfl; have hfz14_0 := blk_frozen BK196.out 0; have hfz14_1 := blk_frozen BK196.out 1; have hfz14_2 := blk_frozen BK196.out 2) | ((with_reducible refine gate_callee (f := 88) rfl ?_); refine goesL_ (some 10) rfl rfl Tryd.func88 (by kernel_rfl) rfl #[.agg #[.slice A0_0 l0_0.length c0_0, .slice A0_1 l0_1.length c0_1, .slice A0_2 l0_2.length c0_2], .string a1] rfl ln_ ?_; (with_reducible refine (impl_railNamed.calls _ _ l0_0 _ _ l0_1 _ _ l0_2 a1 t197 _ ?side1 ?side2 ?side3 ?side4 ?side5 ?side6 A4.out).mono ?_); (case side1 => exact kc_ (Kd.C_below HR0_0.out HB.out)); (case side2 => exact HC0_0.out); (case side3 => exact kc_ (Kd.C_below HR0_1.out HB.out)); (case side4 => exact HC0_1.out); (case side5 => exact kc_ (Kd.C_below HR0_2.out HB.out)); (case side6 => exact HC0_2.out); rintro e w15 ⟨rfl, hb⟩; refine ⟨_, rfl, ?_⟩; have n0_ := Aside0.mk (blk_below (g := gb196) (o := .cells #[.slice A0_0 l0_0.length c0_0, .slice A0_1 l0_1.length c0_1, .slice A0_2 l0_2.length c0_2] 32 (0, 0)) (bk_ BK196) hb); have n1_ := Aside0.mk (below_step (hg_ GE196) hb); clear BK196; clear HB; have BK196 := n0_; have HB := n1_; clear n0_ n1_; (try clear hb); (try clear hb2); (try clear hk); (try clear hi)))
  go_ret
  exact ⟨ew_, (hg_ GE196)⟩

/-! ### impl_belayOf: function 91 -/
def impl_belayOf.go : List S67 → ByteArray → Int → Int
 | [], _, _ => -1
 | x :: xs, a, i => if x.f0.toList = a.toList then i else impl_belayOf.go xs a (i + 1)
def impl_belayOf.f (l0_0 : List S64) (l0_1 : List ByteArray) (l0_2 : List S67) (a1 : ByteArray) : Option Int := some (impl_belayOf.go l0_2 a1 0)
theorem impl_belayOf.pred (x : S67) (name : ByteArray) (b : Bool) (hq : (x.f0.toList == name.toList) = b) (B : Nat) (w : World) (hB : w.heap[B]? = some (.cells #[.string name] 9 (0, 0))) :
  Calls Tryd.prog 108 #[.agg #[.string x.f0, .string x.f1, .int .i64 x.f2], .pointer (some ⟨B, 0, none⟩)] w fun e w' => e = .returned (.bool b) ∧ Below w.heap.size w w' := by
 have hc : w.cell? ⟨B, 0, none⟩ = some (.string name) := (blk_cell hB 0).trans rfl
 have hlt := blk_lt hB
 have hne : B ≠ w.heap.size := by omega
 clear hB
 have hu := Tryd.underlying67
 go_enter Tryd.func108, Tryd.ntmps108
 go_wp2
 go_ret
 exact ⟨rfl, (Below.refl _ _).alloc (Nat.le_refl _) _⟩
theorem impl_belayOf.step (l : List S67) (a : ByteArray) (j : Nat) (h : j < l.length) : impl_belayOf.go (l.drop j) a j = if (rd_T67 l j).f0.toList = a.toList then (j : Int) else impl_belayOf.go (l.drop (j + 1)) a ((j + 1 : Nat) : Int) := by
 rw [List.drop_eq_getElem_cons h, impl_belayOf.go]
 have e : rd_T67 l (j : Int) = l[j] := by
  unfold rd_T67
  rw [Int.toNat_natCast, List.getD_eq_getElem?_getD, List.getElem?_eq_getElem h]
  rfl
 rw [e]
 rfl
set_option maxHeartbeats 2000000 in
theorem impl_belayOf.loop (A0 : Option Addr) (c0 : Nat) (l0 : List S67) (name : ByteArray) (B : Nat) (w : World) (hr : Kd.C k67 w A0 l0.length l0) (hB : w.heap[B]? = some (.cells #[.string name] 9 (0, 0))) :
  Calls Tryd.prog 107 #[.slice A0 l0.length c0, .func (.func 108) #[] #[.pointer (some ⟨B, 0, none⟩)]] w fun e w' => e = .returned (.int .i64 (impl_belayOf.go l0 name 0)) ∧ Below w.heap.size w w' := by
 have eg : ∀ args w, (callFunc 108 args).run Tryd.prog w = .ok (.enter 108 args) w := enters_of Tryd.func108 (by kernel_rfl) rfl
 have HR := Aside0.mk hr
 have hm := hr.2.1
 have HBX := Aside0.mk hB
 have HG : Aside0 (impl_belayOf.go l0 name 0 = impl_belayOf.go (l0.drop 0) name ((0 : Nat) : Int)) := ⟨rfl⟩
 clear hr hB
 go_enter Tryd.func107, Tryd.ntmps107
 go_wp2
 go_loopg [5, 8] l0.length (fun gg _ v8 wr => ∃ j : Nat, v8 = .int .i64 (j : Int) ∧ Aside0 (j ≤ l0.length ∧ l0.length - j ≤ gg) ∧ Aside0 (impl_belayOf.go l0 name 0 = impl_belayOf.go (l0.drop j) name (j : Int)) ∧ Aside0 (Below w.heap.size w wr))
 case atStart => exact ⟨0, rfl, ⟨Nat.zero_le _, by omega⟩, HG, ⟨Below.refl _ _⟩⟩
 case round =>
  clear HG
  obtain ⟨j, rfl, HJ, HG, HB⟩ := hrel
  by_cases hlt : j < l0.length
  ·have p0 : (0 : Int) ≤ (j : Int) := Int.natCast_nonneg j
   have q0 : (j : Int) < (l0.length : Int) := by omega
   obtain ⟨ad, e0, hx0, hx1, hx2⟩ := at_T67 HR.out (j : Int) p0 q0
   cases e0
   replace hx0 := cq_ HB hx0
   replace hx1 := cq_ HB hx1
   replace hx2 := cq_ HB hx2
   have HG2 := Aside0.mk (HG.out.trans (impl_belayOf.step l0 name j hlt))
   clear HG
   have hBw : wr.heap[B]? = some (.cells #[.string name] 9 (0, 0)) := (HB.out.block B (blk_lt HBX.out)).trans HBX.out
   rw [Int.toNat_natCast] at hx0 hx1 hx2
   cases hq : ((rd_T67 l0 (j : Int)).f0.toList == name.toList) with
   | true =>
    have hcall := impl_belayOf.pred (rd_T67 l0 (j : Int)) name true hq B wr hBw
    have HC := Aside0.mk hcall
    have HV : Aside0 (impl_belayOf.go l0 name 0 = (j : Int)) := ⟨by rw [HG2.out, if_pos (by simpa using hq)]⟩
    clear hcall hq hBw HG2
    go_wp2_with (go_at_fn 108; refine HC.out.mono ?_; rintro e w' ⟨rfl, hb⟩)
    go_ret
    exact ⟨by rw [HV.out]; rfl, HB.out.trans (hb.mono HB.out.size)⟩
   | false =>
    have hcall := impl_belayOf.pred (rd_T67 l0 (j : Int)) name false hq B wr hBw
    have HC := Aside0.mk hcall
    have HV : Aside0 (impl_belayOf.go l0 name 0 = impl_belayOf.go (l0.drop (j + 1)) name ((j + 1 : Nat) : Int)) := ⟨by rw [HG2.out, if_neg (by simpa using hq)]⟩
    clear hcall hq hBw HG2
    go_wp2_with (go_at_fn 108; refine HC.out.mono ?_; rintro e w' ⟨rfl, hb⟩)
    go_roundg (l0.length - (j + 1))
    case measure => have := HJ.out; omega
    case rel => exact ⟨j + 1, by go_num, ⟨by omega, by omega⟩, HV, ⟨HB.out.trans (hb.mono HB.out.size)⟩⟩
  ·have he : j = l0.length := by have := HJ.out; omega
   have HV : Aside0 (impl_belayOf.go l0 name 0 = -1) := ⟨by rw [HG.out, he, List.drop_length]; rfl⟩
   have hlt2 : decide (j < l0.length) = false := decide_eq_false hlt
   clear HG he hlt
   go_wp2
   go_ret
   exact ⟨by rw [HV.out]; rfl, HB.out⟩
theorem impl_belayOf.calls (A0_0 : Option Addr) (c0_0 : Nat) (l0_0 : List S64) (A0_1 : Option Addr) (c0_1 : Nat) (l0_1 : List ByteArray) (A0_2 : Option Addr) (c0_2 : Nat) (l0_2 : List S67) (a1 : ByteArray) (r : Int) (w : World) (_hr0_0 : Kd.C k64 w A0_0 l0_0.length l0_0) (_hc0_0 : l0_0.length ≤ c0_0) (_hr0_1 : Kd.C Kd.string w A0_1 l0_1.length l0_1) (_hc0_1 : l0_1.length ≤ c0_1) (hr0_2 : Kd.C k67 w A0_2 l0_2.length l0_2) (_hc0_2 : l0_2.length ≤ c0_2) (h : impl_belayOf.f l0_0 l0_1 l0_2 a1 = some r) :
  Calls Tryd.prog 91 #[.agg #[.slice A0_0 l0_0.length c0_0, .slice A0_1 l0_1.length c0_1, .slice A0_2 l0_2.length c0_2], .string a1] w fun e w' => e = .returned (.int .i64 r) ∧ Below w.heap.size w w' := by
 have hr := Option.some.inj h
 have hbb : Below w.heap.size w ((w.alloc (.cells #[.slice A0_0 l0_0.length c0_0, .slice A0_1 l0_1.length c0_1, .slice A0_2 l0_2.length c0_2] 32)).alloc (.cells #[.string a1] 9)) := below_alloc (below_alloc (Below.refl _ _) _) _
 have hcon := impl_belayOf.loop A0_2 c0_2 l0_2 a1 (w.heap.size + 1) ((w.alloc (.cells #[.slice A0_0 l0_0.length c0_0, .slice A0_1 l0_1.length c0_1, .slice A0_2 l0_2.length c0_2] 32)).alloc (.cells #[.string a1] 9)) (Kd.C_below hr0_2 hbb) (by have := heap_alloc_new (w.alloc (.cells #[.slice A0_0 l0_0.length c0_0, .slice A0_1 l0_1.length c0_1, .slice A0_2 l0_2.length c0_2] 32)) (.cells #[.string a1] 9); simpa using this)
 rw [hr] at hcon
 have HC := Aside0.mk hcon
 have HBB := Aside0.mk hbb
 clear hcon hr h hr0_2 hbb
 have hmf : ∀ (fn : Fn) (first cap : Array Value) (w : World), (Instr.makeFunc fn first cap).run Tryd.prog w = .ok (.func fn first cap) w := fun _ _ _ _ => rfl
 have hu := Tryd.underlying32
 have c0 : ((w.alloc (.cells #[.slice A0_0 l0_0.length c0_0, .slice A0_1 l0_1.length c0_1, .slice A0_2 l0_2.length c0_2] 32)).alloc (.cells #[.string a1] 9)).cell? ⟨w.heap.size, 2, none⟩ = some (.slice A0_2 l0_2.length c0_2) := (blk_cell ((Below.heap_alloc (w.alloc (.cells #[.slice A0_0 l0_0.length c0_0, .slice A0_1 l0_1.length c0_1, .slice A0_2 l0_2.length c0_2] 32)) _ w.heap.size (by simp)).trans (heap_alloc_new w (.cells #[.slice A0_0 l0_0.length c0_0, .slice A0_1 l0_1.length c0_1, .slice A0_2 l0_2.length c0_2] 32))) 2).trans rfl
 go_enter Tryd.func91, Tryd.ntmps91
 go_wp2_with (go_at_call 107; refine HC.out.mono ?_; rintro e w' ⟨rfl, hb⟩)
 go_ret
 exact ⟨rfl, HBB.out.trans (hb.mono (by simp; omega))⟩


/-! ### impl_belayAt: function 92 -/
def impl_belayAt.go : List S67 → ByteArray → Int → Int → Int
 | [], _, _, _ => -1
 | x :: xs, a, p, i => if (x.f1.toList == a.toList && x.f2 == p) = true then i else impl_belayAt.go xs a p (i + 1)
def impl_belayAt.f (l0_0 : List S64) (l0_1 : List ByteArray) (l0_2 : List S67) (a1 : ByteArray) (a2 : Int) : Option Int := some (impl_belayAt.go l0_2 a1 a2 0)
theorem impl_belayAt.pred (x : S67) (name : ByteArray) (p : Int) (b1 b2 : Bool) (hq : (x.f1.toList == name.toList) = b1) (hq2 : (x.f2 == p) = b2) (B C : Nat) (w : World) (hB : w.heap[B]? = some (.cells #[.string name] 9 (0, 0))) (hC : w.heap[C]? = some (.cells #[.int .i64 p] 2 (0, 0))) :
  Calls Tryd.prog 109 #[.agg #[.string x.f0, .string x.f1, .int .i64 x.f2], .pointer (some ⟨B, 0, none⟩), .pointer (some ⟨C, 0, none⟩)] w fun e w' => e = .returned (.bool (b1 && b2)) ∧ Below w.heap.size w w' := by
 have hc : w.cell? ⟨B, 0, none⟩ = some (.string name) := (blk_cell hB 0).trans rfl
 have hd : w.cell? ⟨C, 0, none⟩ = some (.int .i64 p) := (blk_cell hC 0).trans rfl
 have hlt := blk_lt hB
 have hlt2 := blk_lt hC
 have hne : B ≠ w.heap.size := by omega
 have hne2 : C ≠ w.heap.size := by omega
 have hq3 : decide (x.f2 = p) = b2 := hq2
 clear hB hC
 have hu := Tryd.underlying67
 cases b1 <;> cases b2 <;>
 ·go_enter Tryd.func109, Tryd.ntmps109
  go_wp2
  go_ret
  exact ⟨rfl, (Below.refl _ _).alloc (Nat.le_refl _) _⟩
theorem impl_belayAt.step (l : List S67) (a : ByteArray) (p : Int) (j : Nat) (h : j < l.length) : impl_belayAt.go (l.drop j) a p j = if ((rd_T67 l j).f1.toList == a.toList && (rd_T67 l j).f2 == p) = true then (j : Int) else impl_belayAt.go (l.drop (j + 1)) a p ((j + 1 : Nat) : Int) := by
 rw [List.drop_eq_getElem_cons h, impl_belayAt.go]
 have e : rd_T67 l (j : Int) = l[j] := by
  unfold rd_T67
  rw [Int.toNat_natCast, List.getD_eq_getElem?_getD, List.getElem?_eq_getElem h]
  rfl
 rw [e]
 rfl
set_option maxHeartbeats 2000000 in
theorem impl_belayAt.loop (A0 : Option Addr) (c0 : Nat) (l0 : List S67) (name : ByteArray) (p : Int) (B C : Nat) (w : World) (hr : Kd.C k67 w A0 l0.length l0) (hB : w.heap[B]? = some (.cells #[.string name] 9 (0, 0))) (hC : w.heap[C]? = some (.cells #[.int .i64 p] 2 (0, 0))) :
  Calls Tryd.prog 107 #[.slice A0 l0.length c0, .func (.func 109) #[] #[.pointer (some ⟨B, 0, none⟩), .pointer (some ⟨C, 0, none⟩)]] w fun e w' => e = .returned (.int .i64 (impl_belayAt.go l0 name p 0)) ∧ Below w.heap.size w w' := by
 have eg : ∀ args w, (callFunc 109 args).run Tryd.prog w = .ok (.enter 109 args) w := enters_of Tryd.func109 (by kernel_rfl) rfl
 have HR := Aside0.mk hr
 have hm := hr.2.1
 have HBX := Aside0.mk hB
 have HCX := Aside0.mk hC
 have HG : Aside0 (impl_belayAt.go l0 name p 0 = impl_belayAt.go (l0.drop 0) name p ((0 : Nat) : Int)) := ⟨rfl⟩
 clear hr hB hC
 go_enter Tryd.func107, Tryd.ntmps107
 go_wp2
 go_loopg [5, 8] l0.length (fun gg _ v8 wr => ∃ j : Nat, v8 = .int .i64 (j : Int) ∧ Aside0 (j ≤ l0.length ∧ l0.length - j ≤ gg) ∧ Aside0 (impl_belayAt.go l0 name p 0 = impl_belayAt.go (l0.drop j) name p (j : Int)) ∧ Aside0 (Below w.heap.size w wr))
 case atStart => exact ⟨0, rfl, ⟨Nat.zero_le _, by omega⟩, HG, ⟨Below.refl _ _⟩⟩
 case round =>
  clear HG
  obtain ⟨j, rfl, HJ, HG, HB⟩ := hrel
  by_cases hlt : j < l0.length
  ·have p0 : (0 : Int) ≤ (j : Int) := Int.natCast_nonneg j
   have q0 : (j : Int) < (l0.length : Int) := by omega
   obtain ⟨ad, e0, hx0, hx1, hx2⟩ := at_T67 HR.out (j : Int) p0 q0
   cases e0
   replace hx0 := cq_ HB hx0
   replace hx1 := cq_ HB hx1
   replace hx2 := cq_ HB hx2
   have HG2 := Aside0.mk (HG.out.trans (impl_belayAt.step l0 name p j hlt))
   clear HG
   have hBw : wr.heap[B]? = some (.cells #[.string name] 9 (0, 0)) := (HB.out.block B (blk_lt HBX.out)).trans HBX.out
   have hCw : wr.heap[C]? = some (.cells #[.int .i64 p] 2 (0, 0)) := (HB.out.block C (blk_lt HCX.out)).trans HCX.out
   rw [Int.toNat_natCast] at hx0 hx1 hx2
   cases hq : ((rd_T67 l0 (j : Int)).f1.toList == name.toList) with
   | true =>
    cases hq2 : ((rd_T67 l0 (j : Int)).f2 == p) with
    | true =>
     have hcall := impl_belayAt.pred (rd_T67 l0 (j : Int)) name p true true hq hq2 B C wr hBw hCw
     have HC := Aside0.mk hcall
     have HV : Aside0 (impl_belayAt.go l0 name p 0 = (j : Int)) := ⟨by rw [HG2.out, if_pos (by rw [hq, hq2]; rfl)]⟩
     clear hcall hq hq2 hBw hCw HG2
     go_wp2_with (go_at_fn 109; refine HC.out.mono ?_; rintro e w' ⟨rfl, hb⟩)
     go_ret
     exact ⟨by rw [HV.out]; rfl, HB.out.trans (hb.mono HB.out.size)⟩
    | false =>
     have hcall := impl_belayAt.pred (rd_T67 l0 (j : Int)) name p true false hq hq2 B C wr hBw hCw
     have HC := Aside0.mk hcall
     have HV : Aside0 (impl_belayAt.go l0 name p 0 = impl_belayAt.go (l0.drop (j + 1)) name p ((j + 1 : Nat) : Int)) := ⟨by rw [HG2.out, if_neg (by rw [hq, hq2]; simp)]⟩
     clear hcall hq hq2 hBw hCw HG2
     go_wp2_with (go_at_fn 109; refine HC.out.mono ?_; rintro e w' ⟨rfl, hb⟩)
     go_roundg (l0.length - (j + 1))
     case measure => have := HJ.out; omega
     case rel => exact ⟨j + 1, by go_num, ⟨by omega, by omega⟩, HV, ⟨HB.out.trans (hb.mono HB.out.size)⟩⟩
   | false =>
    cases hq2 : ((rd_T67 l0 (j : Int)).f2 == p) with
    | true =>
     have hcall := impl_belayAt.pred (rd_T67 l0 (j : Int)) name p false true hq hq2 B C wr hBw hCw
     have HC := Aside0.mk hcall
     have HV : Aside0 (impl_belayAt.go l0 name p 0 = impl_belayAt.go (l0.drop (j + 1)) name p ((j + 1 : Nat) : Int)) := ⟨by rw [HG2.out, if_neg (by rw [hq, hq2]; simp)]⟩
     clear hcall hq hq2 hBw hCw HG2
     go_wp2_with (go_at_fn 109; refine HC.out.mono ?_; rintro e w' ⟨rfl, hb⟩)
     go_roundg (l0.length - (j + 1))
     case measure => have := HJ.out; omega
     case rel => exact ⟨j + 1, by go_num, ⟨by omega, by omega⟩, HV, ⟨HB.out.trans (hb.mono HB.out.size)⟩⟩
    | false =>
     have hcall := impl_belayAt.pred (rd_T67 l0 (j : Int)) name p false false hq hq2 B C wr hBw hCw
     have HC := Aside0.mk hcall
     have HV : Aside0 (impl_belayAt.go l0 name p 0 = impl_belayAt.go (l0.drop (j + 1)) name p ((j + 1 : Nat) : Int)) := ⟨by rw [HG2.out, if_neg (by rw [hq, hq2]; simp)]⟩
     clear hcall hq hq2 hBw hCw HG2
     go_wp2_with (go_at_fn 109; refine HC.out.mono ?_; rintro e w' ⟨rfl, hb⟩)
     go_roundg (l0.length - (j + 1))
     case measure => have := HJ.out; omega
     case rel => exact ⟨j + 1, by go_num, ⟨by omega, by omega⟩, HV, ⟨HB.out.trans (hb.mono HB.out.size)⟩⟩
  ·have he : j = l0.length := by have := HJ.out; omega
   have HV : Aside0 (impl_belayAt.go l0 name p 0 = -1) := ⟨by rw [HG.out, he, List.drop_length]; rfl⟩
   have hlt2 : decide (j < l0.length) = false := decide_eq_false hlt
   clear HG he hlt
   go_wp2
   go_ret
   exact ⟨by rw [HV.out]; rfl, HB.out⟩
theorem impl_belayAt.calls (A0_0 : Option Addr) (c0_0 : Nat) (l0_0 : List S64) (A0_1 : Option Addr) (c0_1 : Nat) (l0_1 : List ByteArray) (A0_2 : Option Addr) (c0_2 : Nat) (l0_2 : List S67) (a1 : ByteArray) (a2 : Int) (r : Int) (w : World) (_hr0_0 : Kd.C k64 w A0_0 l0_0.length l0_0) (_hc0_0 : l0_0.length ≤ c0_0) (_hr0_1 : Kd.C Kd.string w A0_1 l0_1.length l0_1) (_hc0_1 : l0_1.length ≤ c0_1) (hr0_2 : Kd.C k67 w A0_2 l0_2.length l0_2) (_hc0_2 : l0_2.length ≤ c0_2) (h : impl_belayAt.f l0_0 l0_1 l0_2 a1 a2 = some r) :
  Calls Tryd.prog 92 #[.agg #[.slice A0_0 l0_0.length c0_0, .slice A0_1 l0_1.length c0_1, .slice A0_2 l0_2.length c0_2], .string a1, .int .i64 a2] w fun e w' => e = .returned (.int .i64 r) ∧ Below w.heap.size w w' := by
 have hr := Option.some.inj h
 have hbb : Below w.heap.size w (((w.alloc (.cells #[.slice A0_0 l0_0.length c0_0, .slice A0_1 l0_1.length c0_1, .slice A0_2 l0_2.length c0_2] 32)).alloc (.cells #[.string a1] 9)).alloc (.cells #[.int .i64 a2] 2)) := below_alloc (below_alloc (below_alloc (Below.refl _ _) _) _) _
 have hcon := impl_belayAt.loop A0_2 c0_2 l0_2 a1 a2 (w.heap.size + 1) (w.heap.size + 2) (((w.alloc (.cells #[.slice A0_0 l0_0.length c0_0, .slice A0_1 l0_1.length c0_1, .slice A0_2 l0_2.length c0_2] 32)).alloc (.cells #[.string a1] 9)).alloc (.cells #[.int .i64 a2] 2)) (Kd.C_below hr0_2 hbb) ((Below.heap_alloc ((w.alloc (.cells #[.slice A0_0 l0_0.length c0_0, .slice A0_1 l0_1.length c0_1, .slice A0_2 l0_2.length c0_2] 32)).alloc (.cells #[.string a1] 9)) _ (w.heap.size + 1) (by simp)).trans (by have := heap_alloc_new (w.alloc (.cells #[.slice A0_0 l0_0.length c0_0, .slice A0_1 l0_1.length c0_1, .slice A0_2 l0_2.length c0_2] 32)) (.cells #[.string a1] 9); simpa using this)) (by have := heap_alloc_new ((w.alloc (.cells #[.slice A0_0 l0_0.length c0_0, .slice A0_1 l0_1.length c0_1, .slice A0_2 l0_2.length c0_2] 32)).alloc (.cells #[.string a1] 9)) (.cells #[.int .i64 a2] 2); simpa using this)
 rw [hr] at hcon
 have HC := Aside0.mk hcon
 have HBB := Aside0.mk hbb
 clear hcon hr h hr0_2 hbb
 have hmf : ∀ (fn : Fn) (first cap : Array Value) (w : World), (Instr.makeFunc fn first cap).run Tryd.prog w = .ok (.func fn first cap) w := fun _ _ _ _ => rfl
 have hu := Tryd.underlying32
 have c0 : (((w.alloc (.cells #[.slice A0_0 l0_0.length c0_0, .slice A0_1 l0_1.length c0_1, .slice A0_2 l0_2.length c0_2] 32)).alloc (.cells #[.string a1] 9)).alloc (.cells #[.int .i64 a2] 2)).cell? ⟨w.heap.size, 2, none⟩ = some (.slice A0_2 l0_2.length c0_2) := (blk_cell ((Below.heap_alloc ((w.alloc (.cells #[.slice A0_0 l0_0.length c0_0, .slice A0_1 l0_1.length c0_1, .slice A0_2 l0_2.length c0_2] 32)).alloc (.cells #[.string a1] 9)) _ w.heap.size (by simp; omega)).trans ((Below.heap_alloc (w.alloc (.cells #[.slice A0_0 l0_0.length c0_0, .slice A0_1 l0_1.length c0_1, .slice A0_2 l0_2.length c0_2] 32)) _ w.heap.size (by simp)).trans (heap_alloc_new w (.cells #[.slice A0_0 l0_0.length c0_0, .slice A0_1 l0_1.length c0_1, .slice A0_2 l0_2.length c0_2] 32)))) 2).trans rfl
 go_enter Tryd.func92, Tryd.ntmps92
 go_wp2_with (go_at_call 107; refine HC.out.mono ?_; rintro e w' ⟨rfl, hb⟩)
 go_ret
 exact ⟨rfl, HBB.out.trans (hb.mono (by simp; omega))⟩


/-! ### impl_addBelay: function 69 -/
open Go.Proofs.YtcenjcgfdghfnaaDoorW.Hand
def impl_addBelay.f (k : Nat) (f0 : List S64) (f1 : List ByteArray) (f2 : List S67) (a0 a1 : ByteArray) (a2 : Int) : Option (List S67 × Int) :=
 (impl_railNamed.f f0 f1 f2 a1).bind fun i => if i < 0 then some (f2, 6) else ((slices_Contains_string_string.f k f1 a0).bind fun u => if u = true then ((impl_hasPin.f f0 f1 f2 a1 a2).bind fun p => if p = true then ((impl_belayOf.f f0 f1 f2 a0).bind fun o => if o ≥ 0 then some (f2, 5) else ((impl_belayAt.f f0 f1 f2 a1 a2).bind fun z => if z ≥ 0 then some (f2, 7) else if f2.length < 3000000000 then some (f2 ++ [⟨a0, a1, a2⟩], 0) else none)) else some (f2, 4)) else some (f2, 6))
def impl_addBelay.T9 : Bool × List (List Nat × List Nat) := (true, [([], []), ([], []), ([1], [1]), ([2], [2]), ([3], [3]), ([], []), ([5], [5]), ([4, 6], [4, 6]), ([0, 0, 1, 2, 3, 4, 5, 6, 7], [0]), ([8, 0, 1, 2, 3, 4, 5, 6, 7], [8]), ([9, 7, 7, 0, 1, 2, 3, 4, 5, 6, 7], [7, 9])])
def impl_addBelay.B9 : List Nat := [0, 0, 2, 6, 14, 0, 32, 126, 255, 511, 1023]
theorem impl_addBelay.tab9 : rtab .any (opsOf Tryd.f69 9) = impl_addBelay.T9 := by kernel_rfl
theorem impl_addBelay.bits9 : waitsOk impl_addBelay.T9.2 impl_addBelay.B9 = true := by kernel_rfl
def impl_addBelayR.T1 : Bool × List (List Nat × List Nat) := (true, [([], []), ([0], [0]), ([1], [1]), ([], []), ([3], [3]), ([2, 4], [2, 4]), ([5], [5]), ([6, 5], [6]), ([7], [7]), ([8, 7], [7, 8]), ([9, 7], [7, 9]), ([10, 7], [7, 10]), ([7], [7]), ([12, 7], [7, 12]), ([11, 13, 7, 7], [7, 11, 13]), ([14, 7], [7, 14]), ([7, 15], [7, 15]), ([16, 14], [16])])
def impl_addBelayR.B1 : List Nat := [0, 1, 3, 0, 8, 31, 63, 127, 255, 511, 1023, 2047, 255, 4351, 16383, 32767, 65535, 131071]
theorem impl_addBelayR.tab1 : rtab .any (opsOf Tryd.f69 1) = impl_addBelayR.T1 := by kernel_rfl
theorem impl_addBelayR.bits1 : waitsOk impl_addBelayR.T1.2 impl_addBelayR.B1 = true := by kernel_rfl
set_option maxRecDepth 100000 in
set_option maxHeartbeats 8000000 in
theorem impl_addBelay.calls (k base : Nat) (g : Nat) (f0 : List S64) (f1 : List ByteArray) (f2 : List S67) (a0 a1 : ByteArray) (a2 : Int) (q : List S67) (r : Int) (w : World) (hI : RigOwn base w g f0 f1 f2) (h : impl_addBelay.f k f0 f1 f2 a0 a1 a2 = some (q, r)) :
  Calls Tryd.prog 69 #[.pointer (some ⟨g, 0, none⟩), .agg #[.string a0, .string a1, .int .i64 a2]] w fun e w' => e = .returned (.int .i64 r) ∧ RigOwn base w' g f0 f1 q ∧ Below base w w' := by
 obtain ⟨A0, c0, A1, c1, A2, c2, hI⟩ := hI
 have HI := Aside0.mk hI
 have hB0 := hI.lt
 have hu := Tryd.underlying67
 clear hI
 unfold impl_addBelay.f at h
 obtain ⟨i, ht, h⟩ := Option.bind_eq_some_iff.mp h
 have HT := Aside0.mk ht
 clear ht
 by_cases hi0 : i < 0
 ·rw [if_pos hi0] at h
  simp only [Option.some.injEq, Prod.mk.injEq] at h
  obtain ⟨rfl, rfl⟩ := h
  have hid : decide (i < 0) = true := decide_eq_true hi0
  clear hi0
  go_enter Tryd.func69, Tryd.ntmps69
  go_upto_region 1 with (first | ((with_reducible refine gate_dst (N := 3) rfl ?_); refine hand_box (fun g_ W_ => RailSt base w W_ g g_ A0 c0 A1 c1 A2 c2 f0 f1 f2 #[.string a0, .string a1, .int .i64 a2] 67) ?hg (N := 3) ?hd (cs := #[.string a0, .string a1, .int .i64 a2]) (t := 67) ?hr ?hF ?_; (case hd => rfl); (case hg => rfl); (case hr => first | (go_simp; done) | (go_simp; rfl)); (case hF => exact ⟨HI.out.step (below_alloc (Below.refl _ _) _), heap_alloc_new _ _, (Below.refl base w).alloc hB0 _⟩); intro bl w1 hh; obtain ⟨z0, z1, z2⟩ := hh.s0; have HS1 := Aside0.mk hh; clear hh))
  clear z2
  have y0 : w1.drew.cell? ⟨g, 0, none⟩ = some (.slice A0 f0.length c0) := HS1.out.rig.c0
  have y1 : w1.drew.cell? ⟨g, 1, none⟩ = some (.slice A1 f1.length c1) := HS1.out.rig.c1
  have y2 : w1.drew.cell? ⟨g, 2, none⟩ = some (.slice A2 f2.length c2) := HS1.out.rig.c2
  replace z0 : w1.drew.cell? ⟨bl, 0, none⟩ = some (.string a0) := HS1.out.s0.1
  replace z1 : w1.drew.cell? ⟨bl, 1, none⟩ = some (.string a1) := HS1.out.s0.2.1
  have hu2 := Tryd.underlying32
  refine start_ (n := 18) (S := fun w' => w'.cell? ⟨g, 0, none⟩ = some (.slice A0 f0.length c0) ∧ w'.cell? ⟨g, 1, none⟩ = some (.slice A1 f1.length c1) ∧ w'.cell? ⟨g, 2, none⟩ = some (.slice A2 f2.length c2) ∧ w'.cell? ⟨bl, 0, none⟩ = some (.string a0) ∧ w'.cell? ⟨bl, 1, none⟩ = some (.string a1)) (ds := [5]) #[F_,F_,F_,F_,F_,F_,F_,F_,F_,F_,F_,F_,F_,F_,F_,F_,F_,F_] (by kernel_rfl) rfl rfl ⟨y0, y1, y2, z0, z1⟩ (fun hHeld => ?_); refine with_tabW impl_addBelayR.tab1 impl_addBelayR.bits1 (fun HT_ HW_ => ?_)
  generalize hW5 : w1.drew = W5 at hHeld y0 y1 y2 z0 z1 ⊢
  have HSW : Aside0 (RailSt base w W5 g bl A0 c0 A1 c1 A2 c2 f0 f1 f2 #[.string a0, .string a1, .int .i64 a2] 67) := ⟨by rw [← hW5]; exact HS1.out.step (below_drew (Below.refl _ _))⟩
  clear hW5
  refine pu (i := 0) (N := some 6) #[T_,F_,F_,F_,F_,F_,F_,F_,F_,F_,F_,F_,F_,F_,F_,F_,F_,F_] HT_ ?_
  refine pu (i := 1) (N := some 7) #[T_,T_,F_,F_,F_,F_,F_,F_,F_,F_,F_,F_,F_,F_,F_,F_,F_,F_] HT_ ?_
  refine pu (i := 3) (N := some 9) #[T_,T_,F_,T_,F_,F_,F_,F_,F_,F_,F_,F_,F_,F_,F_,F_,F_,F_] HT_ ?_
  refine take_ (i := 2) (N := some 8) (v := ?_) (a' := ?_) #[T_,T_,T_,T_,F_,F_,F_,F_,F_,F_,F_,F_,F_,F_,F_,F_,F_,F_] rfl rfl (take_ofW HT_.out HW_.out (by kernel_rfl)) (fun _ _ _ h => h) (Or.inl ⟨by rfl, ?_⟩) hHeld ?_ ?_
  rotate_left
  ·rintro w' ⟨s0, s1, s2, s3, s4⟩
   go_simp
   with_reducible rfl
  rotate_left
  ·simp only [Act.put, sT_, s0_, sS_, i64_w, i32_w]
   rfl
  refine take_ (i := 4) (N := some 10) (v := ?_) (a' := ?_) #[T_,T_,T_,T_,T_,F_,F_,F_,F_,F_,F_,F_,F_,F_,F_,F_,F_,F_] rfl rfl (take_ofW HT_.out HW_.out (by kernel_rfl)) (fun _ _ _ h => h) (Or.inl ⟨by rfl, ?_⟩) hHeld ?_ ?_
  rotate_left
  ·rintro w' ⟨s0, s1, s2, s3, s4⟩
   go_simp
   with_reducible rfl
  rotate_left
  ·simp only [Act.put, sT_, s0_, sS_, i64_w, i32_w]
   rfl
  refine last_ (i := 5) (N := (some 11)) #[T_,T_,T_,T_,T_,T_,F_,F_,F_,F_,F_,F_,F_,F_,F_,F_,F_,F_] rfl rfl (one_of HT_.out (by kernel_rfl)) (by decide) (fun K hK => ?_)
  go_simp
  go_at_call 88
  refine (impl_railNamed.calls A0 c0 f0 A1 c1 f1 A2 c2 f2 a1 i W5 (Kd.R_reads' HSW.out.rig.r0).2.2 (Kd.R_reads' HSW.out.rig.r0).2.1 (Kd.R_reads' HSW.out.rig.r1).2.2 (Kd.R_reads' HSW.out.rig.r1).2.1 (Kd.R_reads' HSW.out.rig.r2).2.2 (Kd.R_reads' HSW.out.rig.r2).2.1 HT.out).mono ?_
  rintro e w2 ⟨rfl, hb2⟩
  have HS2 := Aside0.mk (HSW.out.step hb2)
  clear hb2 y0 y1 y2 z0 z1
  obtain ⟨z0, z1, z2⟩ := HS2.out.s0
  refine hK.out _ _ ?_
  clear hK K
  refine pu (i := 6) (N := some 12) #[T_,T_,T_,T_,T_,T_,T_,F_,F_,F_,F_,F_,F_,F_,F_,F_,F_,F_] HT_ ?_
  refine pu (i := 7) (N := some 13) #[T_,T_,T_,T_,T_,T_,T_,T_,F_,F_,F_,F_,F_,F_,F_,F_,F_,F_] HT_ ?_
  refine pn (i := 8) (N := some 14) #[T_,T_,T_,T_,T_,T_,T_,T_,T_,F_,F_,F_,F_,F_,F_,F_,F_,F_] HT_ ?_
  refine pn (i := 9) (N := some 15) #[T_,T_,T_,T_,T_,T_,T_,T_,T_,T_,F_,F_,F_,F_,F_,F_,F_,F_] HT_ ?_
  refine pn (i := 10) (N := some 16) #[T_,T_,T_,T_,T_,T_,T_,T_,T_,T_,T_,F_,F_,F_,F_,F_,F_,F_] HT_ ?_
  refine pn (i := 11) (N := some 17) #[T_,T_,T_,T_,T_,T_,T_,T_,T_,T_,T_,T_,F_,F_,F_,F_,F_,F_] HT_ ?_
  refine pn (i := 12) (N := some 18) #[T_,T_,T_,T_,T_,T_,T_,T_,T_,T_,T_,T_,T_,F_,F_,F_,F_,F_] HT_ ?_
  refine pn (i := 13) (N := some 19) #[T_,T_,T_,T_,T_,T_,T_,T_,T_,T_,T_,T_,T_,T_,F_,F_,F_,F_] HT_ ?_
  refine pn (i := 14) (N := some 20) #[T_,T_,T_,T_,T_,T_,T_,T_,T_,T_,T_,T_,T_,T_,T_,F_,F_,F_] HT_ ?_
  refine pn (i := 15) (N := some 21) #[T_,T_,T_,T_,T_,T_,T_,T_,T_,T_,T_,T_,T_,T_,T_,T_,F_,F_] HT_ ?_
  refine pu (i := 16) (N := some 22) #[T_,T_,T_,T_,T_,T_,T_,T_,T_,T_,T_,T_,T_,T_,T_,T_,T_,F_] HT_ ?_
  refine pu (i := 17) (N := some 5) #[T_,T_,T_,T_,T_,T_,T_,T_,T_,T_,T_,T_,T_,T_,T_,T_,T_,T_] HT_ ?_
  refine done_ (done_of HT_.out (by kernel_rfl)) ?_
  go_wp2_with fail
  go_ret
  exact ⟨rfl, HS2.out.rig.own, HS2.out.below⟩
 ·rw [if_neg hi0] at h
  obtain ⟨u, hu2, h⟩ := Option.bind_eq_some_iff.mp h
  have HU := Aside0.mk hu2
  have hid : decide (i < 0) = false := decide_eq_false hi0
  have hip : 0 ≤ i := by omega
  clear hu2 hi0
  go_enter Tryd.func69, Tryd.ntmps69
  go_upto_region 1 with (first | ((with_reducible refine gate_dst (N := 3) rfl ?_); refine hand_box (fun g_ W_ => RailSt base w W_ g g_ A0 c0 A1 c1 A2 c2 f0 f1 f2 #[.string a0, .string a1, .int .i64 a2] 67) ?hg (N := 3) ?hd (cs := #[.string a0, .string a1, .int .i64 a2]) (t := 67) ?hr ?hF ?_; (case hd => rfl); (case hg => rfl); (case hr => first | (go_simp; done) | (go_simp; rfl)); (case hF => exact ⟨HI.out.step (below_alloc (Below.refl _ _) _), heap_alloc_new _ _, (Below.refl base w).alloc hB0 _⟩); intro bl w1 hh; obtain ⟨z0, z1, z2⟩ := hh.s0; have HS1 := Aside0.mk hh; clear hh))
  clear z2
  have y0 : w1.drew.cell? ⟨g, 0, none⟩ = some (.slice A0 f0.length c0) := HS1.out.rig.c0
  have y1 : w1.drew.cell? ⟨g, 1, none⟩ = some (.slice A1 f1.length c1) := HS1.out.rig.c1
  have y2 : w1.drew.cell? ⟨g, 2, none⟩ = some (.slice A2 f2.length c2) := HS1.out.rig.c2
  replace z0 : w1.drew.cell? ⟨bl, 0, none⟩ = some (.string a0) := HS1.out.s0.1
  replace z1 : w1.drew.cell? ⟨bl, 1, none⟩ = some (.string a1) := HS1.out.s0.2.1
  have hu2 := Tryd.underlying32
  refine start_ (n := 18) (S := fun w' => w'.cell? ⟨g, 0, none⟩ = some (.slice A0 f0.length c0) ∧ w'.cell? ⟨g, 1, none⟩ = some (.slice A1 f1.length c1) ∧ w'.cell? ⟨g, 2, none⟩ = some (.slice A2 f2.length c2) ∧ w'.cell? ⟨bl, 0, none⟩ = some (.string a0) ∧ w'.cell? ⟨bl, 1, none⟩ = some (.string a1)) (ds := [14]) #[F_,F_,F_,F_,F_,F_,F_,F_,F_,F_,F_,F_,F_,F_,F_,F_,F_,F_] (by kernel_rfl) rfl rfl ⟨y0, y1, y2, z0, z1⟩ (fun hHeld => ?_); refine with_tabW impl_addBelayR.tab1 impl_addBelayR.bits1 (fun HT_ HW_ => ?_)
  generalize hW5 : w1.drew = W5 at hHeld y0 y1 y2 z0 z1 ⊢
  have HSW : Aside0 (RailSt base w W5 g bl A0 c0 A1 c1 A2 c2 f0 f1 f2 #[.string a0, .string a1, .int .i64 a2] 67) := ⟨by rw [← hW5]; exact HS1.out.step (below_drew (Below.refl _ _))⟩
  clear hW5
  refine pu (i := 0) (N := some 6) #[T_,F_,F_,F_,F_,F_,F_,F_,F_,F_,F_,F_,F_,F_,F_,F_,F_,F_] HT_ ?_
  refine pu (i := 1) (N := some 7) #[T_,T_,F_,F_,F_,F_,F_,F_,F_,F_,F_,F_,F_,F_,F_,F_,F_,F_] HT_ ?_
  refine pu (i := 3) (N := some 9) #[T_,T_,F_,T_,F_,F_,F_,F_,F_,F_,F_,F_,F_,F_,F_,F_,F_,F_] HT_ ?_
  refine take_ (i := 2) (N := some 8) (v := ?_) (a' := ?_) #[T_,T_,T_,T_,F_,F_,F_,F_,F_,F_,F_,F_,F_,F_,F_,F_,F_,F_] rfl rfl (take_ofW HT_.out HW_.out (by kernel_rfl)) (fun _ _ _ h => h) (Or.inl ⟨by rfl, ?_⟩) hHeld ?_ ?_
  rotate_left
  ·rintro w' ⟨s0, s1, s2, s3, s4⟩
   go_simp
   with_reducible rfl
  rotate_left
  ·simp only [Act.put, sT_, s0_, sS_, i64_w, i32_w]
   rfl
  refine take_ (i := 4) (N := some 10) (v := ?_) (a' := ?_) #[T_,T_,T_,T_,T_,F_,F_,F_,F_,F_,F_,F_,F_,F_,F_,F_,F_,F_] rfl rfl (take_ofW HT_.out HW_.out (by kernel_rfl)) (fun _ _ _ h => h) (Or.inl ⟨by rfl, ?_⟩) hHeld ?_ ?_
  rotate_left
  ·rintro w' ⟨s0, s1, s2, s3, s4⟩
   go_simp
   with_reducible rfl
  rotate_left
  ·simp only [Act.put, sT_, s0_, sS_, i64_w, i32_w]
   rfl
  refine one_ (i := 5) (N := (some 11)) #[T_,T_,T_,T_,T_,T_,F_,F_,F_,F_,F_,F_,F_,F_,F_,F_,F_,F_] rfl rfl (one_of HT_.out (by kernel_rfl)) (by decide) (fun K hK => ?_)
  go_simp
  go_at_call 88
  refine (impl_railNamed.calls A0 c0 f0 A1 c1 f1 A2 c2 f2 a1 i W5 (Kd.R_reads' HSW.out.rig.r0).2.2 (Kd.R_reads' HSW.out.rig.r0).2.1 (Kd.R_reads' HSW.out.rig.r1).2.2 (Kd.R_reads' HSW.out.rig.r1).2.1 (Kd.R_reads' HSW.out.rig.r2).2.2 (Kd.R_reads' HSW.out.rig.r2).2.1 HT.out).mono ?_
  rintro e w2 ⟨rfl, hb2⟩
  have HS2 := Aside0.mk (HSW.out.step hb2)
  clear hb2 y0 y1 y2 z0 z1
  obtain ⟨z0, z1, z2⟩ := HS2.out.s0
  refine hK.out _ _ ⟨HS2.out.rig.c0, HS2.out.rig.c1, HS2.out.rig.c2, HS2.out.s0.1, HS2.out.s0.2.1⟩ (fun hHeld => ?_)
  clear hK K
  refine pu (i := 6) (N := some 12) #[T_,T_,T_,T_,T_,T_,T_,F_,F_,F_,F_,F_,F_,F_,F_,F_,F_,F_] HT_ ?_
  refine pu (i := 7) (N := some 13) #[T_,T_,T_,T_,T_,T_,T_,T_,F_,F_,F_,F_,F_,F_,F_,F_,F_,F_] HT_ ?_
  refine pu (i := 8) (N := some 14) #[T_,T_,T_,T_,T_,T_,T_,T_,T_,F_,F_,F_,F_,F_,F_,F_,F_,F_] HT_ ?_
  refine pu (i := 9) (N := some 15) #[T_,T_,T_,T_,T_,T_,T_,T_,T_,T_,F_,F_,F_,F_,F_,F_,F_,F_] HT_ ?_
  refine pu (i := 10) (N := some 16) #[T_,T_,T_,T_,T_,T_,T_,T_,T_,T_,T_,F_,F_,F_,F_,F_,F_,F_] HT_ ?_
  refine pu (i := 12) (N := some 18) #[T_,T_,T_,T_,T_,T_,T_,T_,T_,T_,T_,F_,T_,F_,F_,F_,F_,F_] HT_ ?_
  refine take_ (i := 11) (N := some 17) (v := ?_) (a' := ?_) #[T_,T_,T_,T_,T_,T_,T_,T_,T_,T_,T_,T_,T_,F_,F_,F_,F_,F_] rfl rfl (take_ofW HT_.out HW_.out (by kernel_rfl)) (fun _ _ _ h => h) (Or.inl ⟨by rfl, ?_⟩) hHeld ?_ ?_
  rotate_left
  ·rintro w' ⟨s0, s1, s2, s3, s4⟩
   go_simp
   with_reducible rfl
  rotate_left
  ·simp only [Act.put, sT_, s0_, sS_, i64_w, i32_w]
   rfl
  refine take_ (i := 13) (N := some 19) (v := ?_) (a' := ?_) #[T_,T_,T_,T_,T_,T_,T_,T_,T_,T_,T_,T_,T_,T_,F_,F_,F_,F_] rfl rfl (take_ofW HT_.out HW_.out (by kernel_rfl)) (fun _ _ _ h => h) (Or.inl ⟨by rfl, ?_⟩) hHeld ?_ ?_
  rotate_left
  ·rintro w' ⟨s0, s1, s2, s3, s4⟩
   go_simp
   with_reducible rfl
  rotate_left
  ·simp only [Act.put, sT_, s0_, sS_, i64_w, i32_w]
   rfl
  refine last_ (i := 14) (N := (some 20)) #[T_,T_,T_,T_,T_,T_,T_,T_,T_,T_,T_,T_,T_,T_,T_,F_,F_,F_] rfl rfl (one_of HT_.out (by kernel_rfl)) (by decide) (fun K hK => ?_)
  go_simp
  go_at_call 89
  refine (slices_Contains_string_string.calls k A1 c1 f1 a0 u w2 (Kd.R_reads' HS2.out.rig.r1).2.2 (Kd.R_reads' HS2.out.rig.r1).2.1 HU.out).mono ?_
  rintro e w3 ⟨rfl, hb3⟩
  have HS3 := Aside0.mk (HS2.out.step hb3.below)
  clear hb3 z0 z1 z2
  obtain ⟨z0, z1, z2⟩ := HS3.out.s0
  refine hK.out _ _ ?_
  clear hK K
  refine pu (i := 15) (N := some 21) #[T_,T_,T_,T_,T_,T_,T_,T_,T_,T_,T_,T_,T_,T_,T_,T_,F_,F_] HT_ ?_
  refine pu (i := 16) (N := some 22) #[T_,T_,T_,T_,T_,T_,T_,T_,T_,T_,T_,T_,T_,T_,T_,T_,T_,F_] HT_ ?_
  refine pu (i := 17) (N := some 5) #[T_,T_,T_,T_,T_,T_,T_,T_,T_,T_,T_,T_,T_,T_,T_,T_,T_,T_] HT_ ?_
  refine done_ (done_of HT_.out (by kernel_rfl)) ?_
  go_upto_if 5 with fail
  cases u with
  | false =>
   simp only [Bool.false_eq_true, if_false, Option.some.injEq, Prod.mk.injEq] at h
   obtain ⟨rfl, rfl⟩ := h
   go_wp2_with fail
   go_ret
   exact ⟨rfl, HS3.out.rig.own, HS3.out.below⟩
  | true =>
   simp only [if_true] at h

   obtain ⟨p, hp, h⟩ := Option.bind_eq_some_iff.mp h
   have HPN := Aside0.mk hp
   clear hp hid
   go_upto_region 3 with fail
   refine hand_tail 7 (fun W => RailSt base w W g bl A0 c0 A1 c1 A2 c2 f0 f1 f2 #[.string a0, .string a1, .int .i64 a2] 67) (by kernel_rfl) (by kernel_rfl) (HS3.out.step (below_drew (Below.refl _ _))) ?_
   clear z0 z1 z2
   rintro w31 hS
   obtain ⟨z0, z1, z2⟩ := hS.s0
   have x0 := hS.rig.c0
   have x1 := hS.rig.c1
   have x2 := hS.rig.c2
   have hu2 := Tryd.underlying32
   have HS31 := Aside0.mk hS
   clear hS
   simp only [List.take_succ_cons, List.take_zero, List.drop_succ_cons, List.drop_zero]
   repeat still_step
   refine wpStill_nil ?_
   go_upto_if 23 with (go_at_call 90; refine (impl_hasPin.calls A0 c0 f0 A1 c1 f1 A2 c2 f2 a1 a2 p w31 (Kd.R_reads' HS31.out.rig.r0).2.2 (Kd.R_reads' HS31.out.rig.r0).2.1 (Kd.R_reads' HS31.out.rig.r1).2.2 (Kd.R_reads' HS31.out.rig.r1).2.1 (Kd.R_reads' HS31.out.rig.r2).2.2 (Kd.R_reads' HS31.out.rig.r2).2.1 HPN.out).mono ?_; rintro e w4 ⟨rfl, hb4⟩; have HS4 := Aside0.mk (HS31.out.step hb4); clear hb4 z0 z1 z2 x0 x1 x2; obtain ⟨z0, z1, z2⟩ := HS4.out.s0)
   cases p with
   | false =>
    simp only [Bool.false_eq_true, if_false, Option.some.injEq, Prod.mk.injEq] at h
    obtain ⟨rfl, rfl⟩ := h
    go_wp2_with fail
    go_ret
    exact ⟨rfl, HS4.out.rig.own, HS4.out.below⟩
   | true =>
    simp only [if_true] at h
    obtain ⟨o, ho, h⟩ := Option.bind_eq_some_iff.mp h
    have HOF := Aside0.mk ho
    clear ho
    go_upto_region 5 with fail
    refine hand_tail 5 (fun W => RailSt base w W g bl A0 c0 A1 c1 A2 c2 f0 f1 f2 #[.string a0, .string a1, .int .i64 a2] 67) (by kernel_rfl) (by kernel_rfl) (HS4.out.step (below_drew (Below.refl _ _))) ?_
    clear z0 z1 z2
    rintro w41 hS
    obtain ⟨z0, z1, z2⟩ := hS.s0
    have x0 := hS.rig.c0
    have x1 := hS.rig.c1
    have x2 := hS.rig.c2
    have hu2 := Tryd.underlying32
    have HS41 := Aside0.mk hS
    clear hS
    simp only [List.take_succ_cons, List.take_zero, List.drop_succ_cons, List.drop_zero]
    repeat still_step
    refine wpStill_nil ?_
    go_upto_if 33 with (go_at_call 91; refine (impl_belayOf.calls A0 c0 f0 A1 c1 f1 A2 c2 f2 a0 o w41 (Kd.R_reads' HS41.out.rig.r0).2.2 (Kd.R_reads' HS41.out.rig.r0).2.1 (Kd.R_reads' HS41.out.rig.r1).2.2 (Kd.R_reads' HS41.out.rig.r1).2.1 (Kd.R_reads' HS41.out.rig.r2).2.2 (Kd.R_reads' HS41.out.rig.r2).2.1 HOF.out).mono ?_; rintro e w5 ⟨rfl, hb5⟩; have HS5 := Aside0.mk (HS41.out.step hb5); clear hb5 z0 z1 z2 x0 x1 x2; obtain ⟨z0, z1, z2⟩ := HS5.out.s0)
    by_cases ho0 : o ≥ 0
    ·rw [if_pos ho0] at h
     simp only [Option.some.injEq, Prod.mk.injEq] at h
     obtain ⟨rfl, rfl⟩ := h
     have hod : decide ((0 : Int) ≤ o) = true := decide_eq_true ho0
     go_wp2_with fail
     go_ret
     exact ⟨rfl, HS5.out.rig.own, HS5.out.below⟩
    ·rw [if_neg ho0] at h
     have hod : decide ((0 : Int) ≤ o) = false := decide_eq_false ho0
     obtain ⟨z, hz, h⟩ := Option.bind_eq_some_iff.mp h
     have HAT := Aside0.mk hz
     clear hz
     go_upto_region 7 with fail
     refine hand_tail 7 (fun W => RailSt base w W g bl A0 c0 A1 c1 A2 c2 f0 f1 f2 #[.string a0, .string a1, .int .i64 a2] 67) (by kernel_rfl) (by kernel_rfl) (HS5.out.step (below_drew (Below.refl _ _))) ?_
     clear z0 z1 z2
     rintro w51 hS
     obtain ⟨z0, z1, z2⟩ := hS.s0
     have x0 := hS.rig.c0
     have x1 := hS.rig.c1
     have x2 := hS.rig.c2
     have hu2 := Tryd.underlying32
     have HS51 := Aside0.mk hS
     clear hS
     simp only [List.take_succ_cons, List.take_zero, List.drop_succ_cons, List.drop_zero]
     repeat still_step
     refine wpStill_nil ?_
     go_upto_if 41 with (go_at_call 92; refine (impl_belayAt.calls A0 c0 f0 A1 c1 f1 A2 c2 f2 a1 a2 z w51 (Kd.R_reads' HS51.out.rig.r0).2.2 (Kd.R_reads' HS51.out.rig.r0).2.1 (Kd.R_reads' HS51.out.rig.r1).2.2 (Kd.R_reads' HS51.out.rig.r1).2.1 (Kd.R_reads' HS51.out.rig.r2).2.2 (Kd.R_reads' HS51.out.rig.r2).2.1 HAT.out).mono ?_; rintro e w6 ⟨rfl, hb6⟩; have HS6 := Aside0.mk (HS51.out.step hb6); clear hb6 z0 z1 z2 x0 x1 x2; obtain ⟨z0, z1, z2⟩ := HS6.out.s0)
     by_cases hz0 : z ≥ 0
     ·rw [if_pos hz0] at h
      simp only [Option.some.injEq, Prod.mk.injEq] at h
      obtain ⟨rfl, rfl⟩ := h
      have hzd : decide ((0 : Int) ≤ z) = true := decide_eq_true hz0
      go_wp2_with fail
      go_ret
      exact ⟨rfl, HS6.out.rig.own, HS6.out.below⟩
     ·rw [if_neg hz0] at h
      have hzd : decide ((0 : Int) ≤ z) = false := decide_eq_false hz0
      by_cases hl : f2.length < 3000000000
      ·rw [if_pos hl] at h
       simp only [Option.some.injEq, Prod.mk.injEq] at h
       obtain ⟨rfl, rfl⟩ := h
       have HLM := Aside0.mk hl
       clear hl
       have y0 : w6.drew.cell? ⟨g, 2, none⟩ = some (.slice A2 f2.length c2) := HS6.out.rig.c2
       have z0 : w6.drew.cell? ⟨bl, 0, none⟩ = some (.string a0) := HS6.out.s0.1
       have z1 : w6.drew.cell? ⟨bl, 1, none⟩ = some (.string a1) := HS6.out.s0.2.1
       have z2 : w6.drew.cell? ⟨bl, 2, none⟩ = some (.int .i64 a2) := HS6.out.s0.2.2
       go_upto_region 9 with fail
       refine start_ (n := 11) (S := fun w' => w'.cell? ⟨g, 2, none⟩ = some (.slice A2 f2.length c2) ∧ w'.cell? ⟨bl, 0, none⟩ = some (.string a0) ∧ w'.cell? ⟨bl, 1, none⟩ = some (.string a1) ∧ w'.cell? ⟨bl, 2, none⟩ = some (.int .i64 a2)) (ds := [7, 10]) #[F_,F_,F_,F_,F_,F_,F_,F_,F_,F_,F_] (by kernel_rfl) rfl rfl ⟨y0, z0, z1, z2⟩ (fun hHeld => ?_); refine with_tabW impl_addBelay.tab9 impl_addBelay.bits9 (fun HT_ HW_ => ?_)
       generalize hW5 : w6.drew = W5 at hHeld y0 z0 z1 z2 ⊢
       have HS5 : Aside0 (RailSt base w W5 g bl A0 c0 A1 c1 A2 c2 f0 f1 f2 #[.string a0, .string a1, .int .i64 a2] 67) := ⟨by rw [← hW5]; exact HS6.out.step (below_drew (Below.refl _ _))⟩
       clear hW5
       refine pu (i := 0) (N := some 51) #[T_,F_,F_,F_,F_,F_,F_,F_,F_,F_,F_] HT_ ?_
       refine pu (i := 1) (N := some 52) #[T_,T_,F_,F_,F_,F_,F_,F_,F_,F_,F_] HT_ ?_
       refine pu (i := 2) (N := some 53) #[T_,T_,T_,F_,F_,F_,F_,F_,F_,F_,F_] HT_ ?_
       refine pu (i := 3) (N := some 54) #[T_,T_,T_,T_,F_,F_,F_,F_,F_,F_,F_] HT_ ?_
       refine take_ (i := 4) (N := some 55) (v := ?_) (a' := ?_) #[T_,T_,T_,T_,T_,F_,F_,F_,F_,F_,F_] rfl rfl (take_ofW HT_.out HW_.out (by kernel_rfl)) (fun _ _ _ h => h) (Or.inl ⟨by rfl, ?_⟩) hHeld ?_ ?_
       rotate_left
       ·rintro w' ⟨s0, s1, s2, s3⟩
        go_simp
        with_reducible rfl
       rotate_left
       ·simp only [Act.put, sT_, s0_, sS_, i64_w, i32_w]
        rfl
       refine take_ (i := 5) (N := some 56) (v := ?_) (a' := ?_) #[T_,T_,T_,T_,T_,T_,F_,F_,F_,F_,F_] rfl rfl (take_ofW HT_.out HW_.out (by kernel_rfl)) (fun _ _ _ h => h) (Or.inl ⟨by rfl, ?_⟩) hHeld ?_ ?_
       rotate_left
       ·rintro w' ⟨s0, s1, s2, s3⟩
        go_simp
        with_reducible rfl
       rotate_left
       ·simp only [Act.put, sT_, s0_, sS_, i64_w, i32_w]
        rfl
       refine one_ (i := 6) (N := (some 57)) #[T_,T_,T_,T_,T_,T_,T_,F_,F_,F_,F_] rfl rfl (one_of HT_.out (by kernel_rfl)) (by decide) (fun K hK => ?_)
       refine event_step (v := .slice (some ⟨W5.heap.size, 0, none⟩) 1 1) (w1 := W5.alloc (.cells #[.string a0, .string a1, .int .i64 a2] 67)) (by rfl) (by first | (go_simp; done) | (go_simp; rfl)) ?_
       refine hK.out _ _ ⟨pw_cell_below (below_alloc (Below.refl W5.heap.size W5) _) y0, pw_cell_below (below_alloc (Below.refl W5.heap.size W5) _) z0, pw_cell_below (below_alloc (Below.refl W5.heap.size W5) _) z1, pw_cell_below (below_alloc (Below.refl W5.heap.size W5) _) z2⟩ (fun hHeld => ?_)
       clear hK K
       refine norm_ (a' := ?_) ?_ ?_
       rotate_left
       ·show Act.put _ (some 57) _ = _
        simp only [Act.put, sT_, s0_, sS_, i64_w, i32_w]
        rfl
       refine last_ (i := 7) (N := (some 58)) #[T_,T_,T_,T_,T_,T_,T_,T_,F_,F_,F_] rfl rfl (one_of HT_.out (by kernel_rfl)) (by decide) (fun K hK => ?_)
       refine Kd.R_append_step k67 (w0 := w) base (by rfl) (.tmp 55) (.tmp 57) 30 67 (.agg #[(.string ⟨#[]⟩), (.string ⟨#[]⟩), (.int .i64 0)]) 40 rfl Tryd.underlying30 info67 rfl (by decide) (by decide) (.slice A2 f2.length c2) f2 (⟨a0, a1, a2⟩ : S67) [.string a0, .string a1, .int .i64 a2] (fun _ => True) (fun _ => False) rfl rfl (k67_mkM _ _ _ _) (fun _ hk => hk.elim) (fun _ _ => trivial) HS5.out.rig.r2 HS5.out.below HS5.out.rig.lt (by have := HLM.out; omega) ?_
       intro v6 w6 ho hb hg hat
       obtain ⟨A6, c6, e6⟩ := Kd.R_slice ho
       subst e6
       have hP := HS5.out.rig.put2 hg ho
       have HP := Aside0.mk hP
       have HB6 := Aside0.mk hb
       clear ho hb hg hat hP
       refine hK.out _ _ ?_
       clear hK K
       refine norm_ (a' := ?_) ?_ ?_
       rotate_left
       ·show Act.put _ (some 58) _ = _
        simp only [Act.put, sT_, s0_, sS_, i64_w, i32_w]
        rfl
       refine pu (i := 8) (N := some 59) #[T_,T_,T_,T_,T_,T_,T_,T_,T_,F_,F_] HT_ ?_
       refine pu (i := 9) (N := some 60) #[T_,T_,T_,T_,T_,T_,T_,T_,T_,T_,F_] HT_ ?_
       refine last_ (i := 10) (N := none) #[T_,T_,T_,T_,T_,T_,T_,T_,T_,T_,T_] rfl rfl (one_of HT_.out (by kernel_rfl)) (by decide) (fun K hK => ?_)
       refine skip_ (w1 := w6.setCell ⟨g, 2, none⟩ (.slice A6 (f2 ++ [(⟨a0, a1, a2⟩ : S67)]).length c6)) (by rfl) rfl ?_ ?_
       ·have fz := HP.out.1.1
        have xz := HP.out.1.2
        first | (go_simp; done) | (go_simp; rfl)
       refine hK.out _ _ ?_
       clear hK K
       refine done_ (done_of HT_.out (by kernel_rfl)) ?_
       obtain ⟨w7, hw7⟩ : ∃ w7, w7 = w6.setCell ⟨g, 2, none⟩ (.slice A6 (f2 ++ [(⟨a0, a1, a2⟩ : S67)]).length c6) := ⟨_, rfl⟩
       have HR7 : Aside0 (RigOwn base w7 g f0 f1 (f2 ++ [(⟨a0, a1, a2⟩ : S67)])) := ⟨by rw [hw7]; exact HP.out.2.own⟩
       have HB7 : Aside0 (Below base w w7) := ⟨by rw [hw7]; exact HB6.out.setCell HS5.out.rig.ge _⟩
       rw [← hw7]
       clear hw7 HP HB6 HS5 y0 z0 z1 z2
       go_wp2_with fail
       go_ret
       exact ⟨rfl, HR7.out, HB7.out⟩
      ·rw [if_neg hl] at h
       exact absurd h (by simp)


/-! ### impl_ValidRig: function 27 -/
open Go.Proofs.YtcenjcgfdghfnaaDoorW.Hand
/-- The rails, one after the other; none where one does not fit. -/
def impl_ValidRig.rails (k : Nat) : List S64 → List S64 → Option (Option (List S64))
 | [], b => some (some b)
 | x :: xs, b => (impl_addRail.f k b [] [] x.f0 x.f1 x.f2).bind fun q => if q.2 = 0 then impl_ValidRig.rails k xs q.1 else some none
def impl_ValidRig.lines (k : Nat) (f0 : List S64) : List ByteArray → List ByteArray → Option (Option (List ByteArray))
 | [], b => some (some b)
 | x :: xs, b => (impl_addLine.f k f0 b [] x).bind fun q => if q.2 = 0 then impl_ValidRig.lines k f0 xs q.1 else some none
def impl_ValidRig.belays (k : Nat) (f0 : List S64) (f1 : List ByteArray) : List S67 → List S67 → Option (Option (List S67))
 | [], b => some (some b)
 | x :: xs, b => (impl_addBelay.f k f0 f1 b x.f0 x.f1 x.f2).bind fun q => if q.2 = 0 then impl_ValidRig.belays k f0 f1 xs q.1 else some none
def impl_ValidRig.f (k : Nat) (l0 : List S64) (l1 : List ByteArray) (l2 : List S67) : Option Bool :=
 (impl_ValidRig.rails k l0 []).bind fun o0 => match o0 with
  | none => some false
  | some b0 => (impl_ValidRig.lines k b0 l1 []).bind fun o1 => match o1 with
   | none => some false
   | some b1 => (impl_ValidRig.belays k b0 b1 l2 []).bind fun o2 => match o2 with
    | none => some false
    | some _ => some true
theorem impl_ValidRig.rails_step (k : Nat) (l : List S64) (j : Nat) (b : List S64) (h : j < l.length) : impl_ValidRig.rails k (l.drop j) b = (impl_addRail.f k b [] [] (rd_T64 l j).f0 (rd_T64 l j).f1 (rd_T64 l j).f2).bind fun q => if q.2 = 0 then impl_ValidRig.rails k (l.drop (j + 1)) q.1 else some none := by
 have e : rd_T64 l (j : Int) = l[j] := by
  unfold rd_T64
  rw [Int.toNat_natCast, List.getD_eq_getElem?_getD, List.getElem?_eq_getElem h]
  rfl
 rw [List.drop_eq_getElem_cons h, impl_ValidRig.rails, e]
theorem impl_ValidRig.lines_step (k : Nat) (f0 : List S64) (l : List ByteArray) (j : Nat) (b : List ByteArray) (h : j < l.length) : impl_ValidRig.lines k f0 (l.drop j) b = (impl_addLine.f k f0 b [] (rdOf ByteArray.empty l j)).bind fun q => if q.2 = 0 then impl_ValidRig.lines k f0 (l.drop (j + 1)) q.1 else some none := by
 have e : rdOf ByteArray.empty l (j : Int) = l[j] := by
  unfold rdOf
  rw [Int.toNat_natCast, List.getD_eq_getElem?_getD, List.getElem?_eq_getElem h]
  rfl
 rw [List.drop_eq_getElem_cons h, impl_ValidRig.lines, e]
theorem impl_ValidRig.belays_step (k : Nat) (f0 : List S64) (f1 : List ByteArray) (l : List S67) (j : Nat) (b : List S67) (h : j < l.length) : impl_ValidRig.belays k f0 f1 (l.drop j) b = (impl_addBelay.f k f0 f1 b (rd_T67 l j).f0 (rd_T67 l j).f1 (rd_T67 l j).f2).bind fun q => if q.2 = 0 then impl_ValidRig.belays k f0 f1 (l.drop (j + 1)) q.1 else some none := by
 have e : rd_T67 l (j : Int) = l[j] := by
  unfold rd_T67
  rw [Int.toNat_natCast, List.getD_eq_getElem?_getD, List.getElem?_eq_getElem h]
  rfl
 rw [List.drop_eq_getElem_cons h, impl_ValidRig.belays, e]
set_option maxRecDepth 100000 in
set_option maxHeartbeats 8000000 in
theorem impl_ValidRig.core (k : Nat) (A0 : Option Addr) (c0 : Nat) (l0 : List S64) (A1 : Option Addr) (c1 : Nat) (l1 : List ByteArray) (A2 : Option Addr) (c2 : Nat) (l2 : List S67) (r : Bool) (w : World) (hr0 : Kd.C k64 w A0 l0.length l0) (hr1 : Kd.C Kd.string w A1 l1.length l1) (hr2 : Kd.C k67 w A2 l2.length l2) (h : impl_ValidRig.f k l0 l1 l2 = some r) :
  Calls Tryd.prog 27 #[.agg #[.slice A0 l0.length c0, .slice A1 l1.length c1, .slice A2 l2.length c2]] w fun e w' => e = .returned (.bool r) ∧ Below w.heap.size w w' := by
 have hm0 := hr0.2.1
 have hm1 := hr1.2.1
 have hm2 := hr2.2.1
 have HR0 := Aside0.mk hr0
 have HR1 := Aside0.mk hr1
 have HR2 := Aside0.mk hr2
 have hu := Tryd.underlying32
 have hu3 := Tryd.underlying64
 have hu4 := Tryd.underlying67
 clear hr0 hr1 hr2
 unfold impl_ValidRig.f at h
 obtain ⟨o0, h0, hF⟩ := Option.bind_eq_some_iff.mp h
 have H0 := Aside0.mk h0
 have HF0 := Aside0.mk hF
 clear h0 hF h
 go_enter Tryd.func27, Tryd.ntmps27
 go_wp2_with (first | ((with_reducible refine gate_dst (N := 1) rfl ?_); refine hand_box (fun g_ W_ => W_.heap[g_]? = some (.cells #[.slice A0 l0.length c0, .slice A1 l1.length c1, .slice A2 l2.length c2] 32 (0, 0)) ∧ Below w.heap.size w W_) ?hg (N := 1) ?hd (cs := #[.slice A0 l0.length c0, .slice A1 l1.length c1, .slice A2 l2.length c2]) (t := 32) ?hr ?hF ?_; (case hd => rfl); (case hg => rfl); (case hr => first | (go_simp; done) | (go_simp; rfl)); (case hF => exact ⟨heap_alloc_new _ _, below_alloc (Below.refl _ _) _⟩); intro g w1 hh; have HE := Aside0.mk hh; clear hh) | ((with_reducible refine gate_dst (N := 3) rfl ?_); refine hand_box (fun g_ W_ => W_.heap[g_]? = some (.cells #[.slice none 0 0, .slice none 0 0, .slice none 0 0] 32 (0, 0)) ∧ w.heap.size ≤ g_ ∧ Below w.heap.size w W_ ∧ W_.heap[g]? = some (.cells #[.slice A0 l0.length c0, .slice A1 l1.length c1, .slice A2 l2.length c2] 32 (0, 0)) ∧ g < g_) ?hg (N := 3) ?hd (cs := #[.slice none 0 0, .slice none 0 0, .slice none 0 0]) (t := 32) ?hr ?hF ?_; (case hd => rfl); (case hg => rfl); (case hr => first | (go_simp; done) | (go_simp; rfl)); (case hF => exact ⟨heap_alloc_new _ _, HE.out.2.size, HE.out.2.alloc HE.out.2.size _, (Below.heap_alloc _ _ _ (blk_lt HE.out.1)).trans HE.out.1, blk_lt HE.out.1⟩); intro bl w2 hh; have z0 : w2.cell? ⟨bl, 0, none⟩ = some (.slice none 0 0) := (blk_cell hh.1 0).trans rfl; have z1 : w2.cell? ⟨bl, 1, none⟩ = some (.slice none 0 0) := (blk_cell hh.1 1).trans rfl; have z2 : w2.cell? ⟨bl, 2, none⟩ = some (.slice none 0 0) := (blk_cell hh.1 2).trans rfl; have k0 := blk_frozen hh.1 0; have k1 := blk_frozen hh.1 1; have k2 := blk_frozen hh.1 2; have HZ := Aside0.mk hh; clear hh) | (refine hand_store (fun w' => RigOwn bl w' bl [] [] [] ∧ Below w.heap.size w w' ∧ w'.heap[g]? = some (.cells #[.slice A0 l0.length c0, .slice A1 l1.length c1, .slice A2 l2.length c2] 32 (0, 0))) (t := 32) (p := 3) (v := .tmp 10) (w1 := ((w2.setCell ⟨bl, 0, none⟩ (.slice none 0 0)).setCell ⟨bl, 1, none⟩ (.slice none 0 0)).setCell ⟨bl, 2, none⟩ (.slice none 0 0)) ?hg4 rfl ?hN4 ?hr4 ?hF4 ?_; (case hg4 => rfl); (case hN4 => rfl); (case hr4 => first | (go_simp; done) | (go_simp; rfl)); (case hF4 => exact ⟨(rig_new HZ.out.1 (Nat.le_refl bl) (Kd.R_nil _ _ _ _ _) (Kd.R_nil _ _ _ _ _) (Kd.R_nil _ _ _ _ _)).own, set3_below HZ.out.2.2.1 HZ.out.2.1, blk_far (blk_far (blk_far HZ.out.2.2.2.1 (Nat.ne_of_lt HZ.out.2.2.2.2) _) (Nat.ne_of_lt HZ.out.2.2.2.2) _) (Nat.ne_of_lt HZ.out.2.2.2.2) _⟩); clear z0 z1 z2 k0 k1 k2; rintro w3 hh; have HBU := Aside0.mk (show Built bl w3 w3 bl [] [] [] from ⟨hh.1, Below.refl _ _⟩); have HE3 := Aside0.mk hh.2.1; have HG := Aside0.mk hh.2.2; have HLE := Aside0.mk HZ.out.2.1; have HGL := Aside0.mk HZ.out.2.2.2.2; have x0 : w3.cell? ⟨g, 0, none⟩ = some (.slice A0 l0.length c0) := (blk_cell hh.2.2 0).trans rfl; clear hh))
 go_loopg [5, 14] l0.length (fun gg _ v14 wr => ∃ i : Nat, v14 = .int .i64 (i : Int) ∧ Aside0 (i ≤ l0.length ∧ l0.length - i ≤ gg) ∧ Aside0 (∃ b : List S64, impl_ValidRig.rails k (l0.drop i) b = some o0 ∧ Built bl w3 wr bl b [] []))
 case atStart => exact ⟨0, by go_num, ⟨Nat.zero_le _, by omega⟩, ⟨[], H0.out, HBU.out⟩⟩
 case round =>
 obtain ⟨i, rfl, HJ, HY⟩ := hrel
 clear HBU
 obtain ⟨b, hR, hBU⟩ := HY.out
 clear HY
 have HBU := Aside0.mk hBU
 have hWB : Below w.heap.size w wr := (below_trans HE3.out (below_mono (hBU.2) HLE.out))
 by_cases hlt : i < l0.length
 rotate_left
 ·have he : i = l0.length := by have := HJ.out; omega
  have hltb : decide (i < l0.length) = false := decide_eq_false hlt
  have hR2 : o0 = some b := by rw [he, List.drop_length] at hR; exact (Option.some.inj hR).symm
  have HB0 := Aside0.mk hR2
  clear hR hlt HJ he hR2 hBU hWB
  obtain ⟨b0, hbb⟩ : ∃ y, y = b := ⟨_, rfl⟩
  rw [← hbb] at HB0 HBU
  clear hbb
  have hF0 := HF0.out
  rw [HB0.out] at hF0
  obtain ⟨o1, h1, hF0'⟩ := Option.bind_eq_some_iff.mp hF0
  have H1 := Aside0.mk h1
  have HF1 := Aside0.mk hF0'
  clear hF0 h1 hF0'
  have x1 : wr.cell? ⟨g, 1, none⟩ = some (.slice A1 l1.length c1) := (blk_cell ((HBU.out.2.block g HGL.out).trans HG.out) 1).trans rfl
  go_wp2_with fail
  obtain ⟨wo1, rfl⟩ : ∃ wo : World, wo = wr := ⟨_, rfl⟩
  go_loopg [7, 25] l1.length (fun gg _ v25 wr => ∃ i : Nat, v25 = .int .i64 (i : Int) ∧ Aside0 (i ≤ l1.length ∧ l1.length - i ≤ gg) ∧ Aside0 (∃ b : List ByteArray, impl_ValidRig.lines k b0 (l1.drop i) b = some o1 ∧ Built bl w3 wr bl b0 b []))
  case atStart => exact ⟨0, by go_num, ⟨Nat.zero_le _, by omega⟩, ⟨[], H1.out, HBU.out⟩⟩
  case round =>
  obtain ⟨i, rfl, HJ, HY⟩ := hrel
  clear HBU
  obtain ⟨b, hR, hBU⟩ := HY.out
  clear HY
  have HBU := Aside0.mk hBU
  have hWB : Below w.heap.size w wr := (below_trans HE3.out (below_mono (hBU.2) HLE.out))
  by_cases hlt : i < l1.length
  rotate_left
  ·have he : i = l1.length := by have := HJ.out; omega
   have hltb : decide (i < l1.length) = false := decide_eq_false hlt
   have hR2 : o1 = some b := by rw [he, List.drop_length] at hR; exact (Option.some.inj hR).symm
   have HB1 := Aside0.mk hR2
   clear hR hlt HJ he hR2 hBU hWB
   obtain ⟨b1, hbb⟩ : ∃ y, y = b := ⟨_, rfl⟩
   rw [← hbb] at HB1 HBU
   clear hbb
   have hF1 := HF1.out
   rw [HB1.out] at hF1
   obtain ⟨o2, h2, hF1'⟩ := Option.bind_eq_some_iff.mp hF1
   have H2 := Aside0.mk h2
   have HF2 := Aside0.mk hF1'
   clear hF1 h2 hF1'
   have x2 : wr.cell? ⟨g, 2, none⟩ = some (.slice A2 l2.length c2) := (blk_cell ((HBU.out.2.block g HGL.out).trans HG.out) 2).trans rfl
   go_wp2_with fail
   obtain ⟨wo2, rfl⟩ : ∃ wo : World, wo = wr := ⟨_, rfl⟩
   go_loopg [9, 36] l2.length (fun gg _ v36 wr => ∃ i : Nat, v36 = .int .i64 (i : Int) ∧ Aside0 (i ≤ l2.length ∧ l2.length - i ≤ gg) ∧ Aside0 (∃ b : List S67, impl_ValidRig.belays k b0 b1 (l2.drop i) b = some o2 ∧ Built bl w3 wr bl b0 b1 b))
   case atStart => exact ⟨0, by go_num, ⟨Nat.zero_le _, by omega⟩, ⟨[], H2.out, HBU.out⟩⟩
   case round =>
   obtain ⟨i, rfl, HJ, HY⟩ := hrel
   clear HBU
   obtain ⟨b, hR, hBU⟩ := HY.out
   clear HY
   have HBU := Aside0.mk hBU
   have hWB : Below w.heap.size w wr := (below_trans HE3.out (below_mono (hBU.2) HLE.out))
   by_cases hlt : i < l2.length
   rotate_left
   ·have he : i = l2.length := by have := HJ.out; omega
    have hltb : decide (i < l2.length) = false := decide_eq_false hlt
    have hR2 : o2 = some b := by rw [he, List.drop_length] at hR; exact (Option.some.inj hR).symm
    have HB2 := Aside0.mk hR2
    clear hR hlt HJ he hR2 hBU hWB
    have hF2 := HF2.out
    rw [HB2.out] at hF2
    obtain rfl : true = r := Option.some.inj hF2
    clear hF2
    go_wp2_with fail
    go_ret
    exact ⟨rfl, (below_trans HE3.out (below_mono (HBU.out.2) HLE.out))⟩
   have hltb : decide (i < l2.length) = true := decide_eq_true hlt
   have hi0 : 0 ≤ (i : Int) := Int.natCast_nonneg i
   have hi1 : (i : Int) < (l2.length : Int) := by omega
   obtain ⟨ad9, e9, hx0, hx1, hx2⟩ := at_T67 HR2.out (i : Int) hi0 hi1
   rw [Int.toNat_natCast] at hx0 hx1 hx2
   replace hx0 := pw_cell_below hWB hx0
   replace hx1 := pw_cell_below hWB hx1
   replace hx2 := pw_cell_below hWB hx2
   cases e9
   clear hBU hWB
   rw [impl_ValidRig.belays_step k b0 b1 l2 i b hlt] at hR
   obtain ⟨⟨q, c⟩, hq, hR⟩ := Option.bind_eq_some_iff.mp hR
   dsimp only at hR
   have HQ := Aside0.mk hq
   have HR := Aside0.mk hR
   clear hq hR
   go_upto_if 42 with (first | ((with_reducible refine gate_dst (N := 9) rfl ?_); refine hand_box (fun g_ W_ => Built bl w3 W_ bl b0 b1 b ∧ W_.heap[g_]? = some (.cells #[.string ⟨#[]⟩, .string ⟨#[]⟩, .int .i64 0] 67 (0, 0)) ∧ Below wr.heap.size wr W_ ∧ wr.heap.size ≤ g_) ?hg (N := 9) ?hd (cs := #[.string ⟨#[]⟩, .string ⟨#[]⟩, .int .i64 0]) (t := 67) ?hr ?hF ?_; (case hd => rfl); (case hg => rfl); (case hr => first | (go_simp; done) | (go_simp; rfl)); (case hF => exact ⟨built_step HBU.out (below_alloc (Below.refl _ _) _), heap_alloc_new _ _, below_alloc (Below.refl _ _) _, Nat.le_refl _⟩); intro bx w4 hh; have HX4 := Aside0.mk hh; have z0 : w4.cell? ⟨bx, 0, none⟩ = some (.string ⟨#[]⟩) := (blk_cell hh.2.1 0).trans rfl; have z1 : w4.cell? ⟨bx, 1, none⟩ = some (.string ⟨#[]⟩) := (blk_cell hh.2.1 1).trans rfl; have z2 : w4.cell? ⟨bx, 2, none⟩ = some (.int .i64 0) := (blk_cell hh.2.1 2).trans rfl; have k0 := blk_frozen hh.2.1 0; have k1 := blk_frozen hh.2.1 1; have k2 := blk_frozen hh.2.1 2; clear hh) | (refine hand_store (fun w5 => Built bl w3 w5 bl b0 b1 b ∧ w5.heap[bx]? = some (.cells #[.string (rd_T67 l2 (i : Int)).f0, .string (rd_T67 l2 (i : Int)).f1, .int .i64 (rd_T67 l2 (i : Int)).f2] 67 (0, 0))) (t := 67) (p := 9) (v := .tmp 39) (w1 := ((w4.setCell ⟨bx, 0, none⟩ (.string (rd_T67 l2 (i : Int)).f0)).setCell ⟨bx, 1, none⟩ (.string (rd_T67 l2 (i : Int)).f1)).setCell ⟨bx, 2, none⟩ (.int .i64 (rd_T67 l2 (i : Int)).f2)) ?hg4 rfl ?hN4 ?hr4 ?hF4 ?_; (case hg4 => rfl); (case hN4 => rfl); (case hr4 => first | (go_simp; done) | (go_simp; rfl)); (case hF4 => exact ⟨built_step HBU.out (set3_below HX4.out.2.2.1 HX4.out.2.2.2), blk_set (blk_set (blk_set HX4.out.2.1 0 _) 1 _) 2 _⟩); clear z0 z1 z2 k0 k1 k2; rintro w5 hh; have HBU := Aside0.mk hh.1; have y0 : w5.cell? ⟨bx, 0, none⟩ = some (.string (rd_T67 l2 (i : Int)).f0) := (blk_cell hh.2 0).trans rfl; have y1 : w5.cell? ⟨bx, 1, none⟩ = some (.string (rd_T67 l2 (i : Int)).f1) := (blk_cell hh.2 1).trans rfl; have y2 : w5.cell? ⟨bx, 2, none⟩ = some (.int .i64 (rd_T67 l2 (i : Int)).f2) := (blk_cell hh.2 2).trans rfl; clear hh) | (go_at_call 69; refine (impl_addBelay.calls k bl bl b0 b1 b (rd_T67 l2 (i : Int)).f0 (rd_T67 l2 (i : Int)).f1 (rd_T67 l2 (i : Int)).f2 q c w5 HBU.out.1 HQ.out).mono ?_; rintro e w9 ⟨rfl, hO, hb⟩; have HBQ := Aside0.mk (show Built bl w3 w9 bl b0 b1 q from ⟨hO, below_trans HBU.out.2 hb⟩); clear hO hb))
   by_cases hz : c = 0
   rotate_left
   ·have hzb : (c != 0) = true := by simpa using hz
    have hr0 := HR.out
    rw [if_neg hz] at hr0
    have hq0 : o2 = none := (Option.some.inj hr0).symm
    have hF2 := HF2.out
    rw [hq0] at hF2
    obtain rfl : false = r := Option.some.inj hF2
    clear hr0 hq0 hF2
    go_wp2_with fail
    go_ret
    exact ⟨rfl, (below_trans HE3.out (below_mono (HBQ.out.2) HLE.out))⟩
   have hzb : (c != 0) = false := by simpa using hz
   have HR2 : Aside0 (impl_ValidRig.belays k b0 b1 (l2.drop (i + 1)) q = some o2) := ⟨by have h1 := HR.out; rwa [if_pos hz] at h1⟩
   clear HR HQ hz
   go_wp2_with fail
   go_roundg (l2.length - (i + 1))
   case measure => have := HJ.out; omega
   case rel => exact ⟨i + 1, by go_num, ⟨by omega, by omega⟩, ⟨q, HR2.out, HBQ.out⟩⟩
  have hltb : decide (i < l1.length) = true := decide_eq_true hlt
  have hi0 : 0 ≤ (i : Int) := Int.natCast_nonneg i
  have hi1 : (i : Int) < (l1.length : Int) := by omega
  obtain ⟨ad9, e9, hx0⟩ := Kd.at_string HR1.out (i : Int) hi0 hi1
  rw [Int.toNat_natCast] at hx0
  replace hx0 := pw_cell_below hWB hx0
  cases e9
  clear hBU hWB
  rw [impl_ValidRig.lines_step k b0 l1 i b hlt] at hR
  obtain ⟨⟨q, c⟩, hq, hR⟩ := Option.bind_eq_some_iff.mp hR
  dsimp only at hR
  have HQ := Aside0.mk hq
  have HR := Aside0.mk hR
  clear hq hR
  go_upto_if 31 with (go_at_call 68; refine (impl_addLine.calls k bl bl b0 b [] (rdOf ByteArray.empty l1 (i : Int)) q c wr HBU.out.1 HQ.out).mono ?_; rintro e w9 ⟨rfl, hO, hb⟩; have HBQ := Aside0.mk (show Built bl w3 w9 bl b0 q [] from ⟨hO, below_trans HBU.out.2 hb⟩); clear hO hb)
  by_cases hz : c = 0
  rotate_left
  ·have hzb : (c != 0) = true := by simpa using hz
   have hr0 := HR.out
   rw [if_neg hz] at hr0
   have hq0 : o1 = none := (Option.some.inj hr0).symm
   have hF1 := HF1.out
   rw [hq0] at hF1
   obtain rfl : false = r := Option.some.inj hF1
   clear hr0 hq0 hF1
   go_wp2_with fail
   go_ret
   exact ⟨rfl, (below_trans HE3.out (below_mono (HBQ.out.2) HLE.out))⟩
  have hzb : (c != 0) = false := by simpa using hz
  have HR2 : Aside0 (impl_ValidRig.lines k b0 (l1.drop (i + 1)) q = some o1) := ⟨by have h1 := HR.out; rwa [if_pos hz] at h1⟩
  clear HR HQ hz
  go_wp2_with fail
  go_roundg (l1.length - (i + 1))
  case measure => have := HJ.out; omega
  case rel => exact ⟨i + 1, by go_num, ⟨by omega, by omega⟩, ⟨q, HR2.out, HBQ.out⟩⟩
 have hltb : decide (i < l0.length) = true := decide_eq_true hlt
 have hi0 : 0 ≤ (i : Int) := Int.natCast_nonneg i
 have hi1 : (i : Int) < (l0.length : Int) := by omega
 obtain ⟨ad9, e9, hx0, hx1, hx2⟩ := at_T64 HR0.out (i : Int) hi0 hi1
 rw [Int.toNat_natCast] at hx0 hx1 hx2
 replace hx0 := pw_cell_below hWB hx0
 replace hx1 := pw_cell_below hWB hx1
 replace hx2 := pw_cell_below hWB hx2
 cases e9
 clear hBU hWB
 rw [impl_ValidRig.rails_step k l0 i b hlt] at hR
 obtain ⟨⟨q, c⟩, hq, hR⟩ := Option.bind_eq_some_iff.mp hR
 dsimp only at hR
 have HQ := Aside0.mk hq
 have HR := Aside0.mk hR
 clear hq hR
 go_upto_if 20 with (first | ((with_reducible refine gate_dst (N := 5) rfl ?_); refine hand_box (fun g_ W_ => Built bl w3 W_ bl b [] [] ∧ W_.heap[g_]? = some (.cells #[.string ⟨#[]⟩, .string ⟨#[]⟩, .int .i64 0] 64 (0, 0)) ∧ Below wr.heap.size wr W_ ∧ wr.heap.size ≤ g_) ?hg (N := 5) ?hd (cs := #[.string ⟨#[]⟩, .string ⟨#[]⟩, .int .i64 0]) (t := 64) ?hr ?hF ?_; (case hd => rfl); (case hg => rfl); (case hr => first | (go_simp; done) | (go_simp; rfl)); (case hF => exact ⟨built_step HBU.out (below_alloc (Below.refl _ _) _), heap_alloc_new _ _, below_alloc (Below.refl _ _) _, Nat.le_refl _⟩); intro bx w4 hh; have HX4 := Aside0.mk hh; have z0 : w4.cell? ⟨bx, 0, none⟩ = some (.string ⟨#[]⟩) := (blk_cell hh.2.1 0).trans rfl; have z1 : w4.cell? ⟨bx, 1, none⟩ = some (.string ⟨#[]⟩) := (blk_cell hh.2.1 1).trans rfl; have z2 : w4.cell? ⟨bx, 2, none⟩ = some (.int .i64 0) := (blk_cell hh.2.1 2).trans rfl; have k0 := blk_frozen hh.2.1 0; have k1 := blk_frozen hh.2.1 1; have k2 := blk_frozen hh.2.1 2; clear hh) | (refine hand_store (fun w5 => Built bl w3 w5 bl b [] [] ∧ w5.heap[bx]? = some (.cells #[.string (rd_T64 l0 (i : Int)).f0, .string (rd_T64 l0 (i : Int)).f1, .int .i64 (rd_T64 l0 (i : Int)).f2] 64 (0, 0))) (t := 64) (p := 5) (v := .tmp 17) (w1 := ((w4.setCell ⟨bx, 0, none⟩ (.string (rd_T64 l0 (i : Int)).f0)).setCell ⟨bx, 1, none⟩ (.string (rd_T64 l0 (i : Int)).f1)).setCell ⟨bx, 2, none⟩ (.int .i64 (rd_T64 l0 (i : Int)).f2)) ?hg4 rfl ?hN4 ?hr4 ?hF4 ?_; (case hg4 => rfl); (case hN4 => rfl); (case hr4 => first | (go_simp; done) | (go_simp; rfl)); (case hF4 => exact ⟨built_step HBU.out (set3_below HX4.out.2.2.1 HX4.out.2.2.2), blk_set (blk_set (blk_set HX4.out.2.1 0 _) 1 _) 2 _⟩); clear z0 z1 z2 k0 k1 k2; rintro w5 hh; have HBU := Aside0.mk hh.1; have y0 : w5.cell? ⟨bx, 0, none⟩ = some (.string (rd_T64 l0 (i : Int)).f0) := (blk_cell hh.2 0).trans rfl; have y1 : w5.cell? ⟨bx, 1, none⟩ = some (.string (rd_T64 l0 (i : Int)).f1) := (blk_cell hh.2 1).trans rfl; have y2 : w5.cell? ⟨bx, 2, none⟩ = some (.int .i64 (rd_T64 l0 (i : Int)).f2) := (blk_cell hh.2 2).trans rfl; clear hh) | (go_at_call 67; refine (impl_addRail.calls k bl bl b [] [] (rd_T64 l0 (i : Int)).f0 (rd_T64 l0 (i : Int)).f1 (rd_T64 l0 (i : Int)).f2 q c w5 HBU.out.1 HQ.out).mono ?_; rintro e w9 ⟨rfl, hO, hb⟩; have HBQ := Aside0.mk (show Built bl w3 w9 bl q [] [] from ⟨hO, below_trans HBU.out.2 hb⟩); clear hO hb))
 by_cases hz : c = 0
 rotate_left
 ·have hzb : (c != 0) = true := by simpa using hz
  have hr0 := HR.out
  rw [if_neg hz] at hr0
  have hq0 : o0 = none := (Option.some.inj hr0).symm
  have hF0 := HF0.out
  rw [hq0] at hF0
  obtain rfl : false = r := Option.some.inj hF0
  clear hr0 hq0 hF0
  go_wp2_with fail
  go_ret
  exact ⟨rfl, (below_trans HE3.out (below_mono (HBQ.out.2) HLE.out))⟩
 have hzb : (c != 0) = false := by simpa using hz
 have HR2 : Aside0 (impl_ValidRig.rails k (l0.drop (i + 1)) q = some o0) := ⟨by have h1 := HR.out; rwa [if_pos hz] at h1⟩
 clear HR HQ hz
 go_wp2_with fail
 go_roundg (l0.length - (i + 1))
 case measure => have := HJ.out; omega
 case rel => exact ⟨i + 1, by go_num, ⟨by omega, by omega⟩, ⟨q, HR2.out, HBQ.out⟩⟩
theorem impl_ValidRig.calls (k : Nat) (A0_0 : Option Addr) (c0_0 : Nat) (l0_0 : List S64) (A0_1 : Option Addr) (c0_1 : Nat) (l0_1 : List ByteArray) (A0_2 : Option Addr) (c0_2 : Nat) (l0_2 : List S67) (r : Bool) (w : World) (hr0_0 : Kd.C k64 w A0_0 l0_0.length l0_0) (_hc0_0 : l0_0.length ≤ c0_0) (hr0_1 : Kd.C Kd.string w A0_1 l0_1.length l0_1) (_hc0_1 : l0_1.length ≤ c0_1) (hr0_2 : Kd.C k67 w A0_2 l0_2.length l0_2) (_hc0_2 : l0_2.length ≤ c0_2) (h : impl_ValidRig.f k l0_0 l0_1 l0_2 = some r) :
  Calls Tryd.prog 27 #[.agg #[.slice A0_0 l0_0.length c0_0, .slice A0_1 l0_1.length c0_1, .slice A0_2 l0_2.length c0_2]] w fun e w' => e = .returned (.bool r) ∧ Below w.heap.size w w' :=
 impl_ValidRig.core k A0_0 c0_0 l0_0 A0_1 c0_1 l0_1 A0_2 c0_2 l0_2 r w hr0_0 hr0_1 hr0_2 h


/-! ### impl_Decimal: function 37 -/
-- (by hand)
open Go.Sort in
theorem below_grow_ (w : World) (k : Nat) (os : Array Obj) : Below w.heap.size w (Sort.grow (w.drewN k) os) := by
 refine ⟨rfl, rfl, rfl, ?_, fun i hi => ?_⟩
 ·show w.heap.size ≤ (w.heap ++ os).size
  rw [Array.size_append]; omega
 ·show (w.heap ++ os)[i]? = w.heap[i]?
  rw [Array.getElem?_append_left hi]
def impl_Decimal.f (a0 : Int) : Option ByteArray := if -9223372036854775808 ≤ a0 then (if a0 ≤ 9223372036854775807 then some (⟨(Lib.itoa a0).toArray⟩ : ByteArray) else none) else none
theorem impl_Decimal.calls (a0 : Int) (r : ByteArray) (w : World) (hT : TB w) (h : impl_Decimal.f a0 = some r) :
  Calls Tryd.prog 37 #[.int .i64 a0] w fun e w' => e = .returned (.string r) ∧ Below w.heap.size w w' := by
 unfold impl_Decimal.f at h
 by_cases h0 : -9223372036854775808 ≤ a0
 ·rw [if_pos h0] at h
  by_cases h1 : a0 ≤ 9223372036854775807
  ·rw [if_pos h1] at h
   injection h with h
   subst h
   go_enter Tryd.func37, Tryd.ntmps37
   go_wp2_with (go_at_call 77; refine (Tryd.strconv_FormatInt_10 a0 h0 h1 _ hT).mono ?_; rintro e w' ⟨rfl, k, os, rfl⟩)
   go_ret
   exact ⟨rfl, below_grow_ _ _ _⟩
  ·rw [if_neg h1] at h
   exact absurd h (by simp)
 ·rw [if_neg h0] at h
  exact absurd h (by simp)


/-! ### impl_RigText: function 9 -/
mutual
def impl_RigText.l0 : Nat → ByteArray → List (S64) → Int → Int → List (S64) → List ByteArray → List (S67) → Option (ByteArray)
 | 0, _, _, _, _, _, _, _ => none
 | k + 1, x3, x14, x15, x16, x201000, x201001, x201002 => if x16 < x15 then (if 0 ≤ x16 then (if x16 < (x14.length : Int) then (if 5 + ((rd_T64 x14 x16).f0).size ≤ 9223372036854775807 then (if 5 + ((rd_T64 x14 x16).f0).size + 1 ≤ 9223372036854775807 then (if 5 + ((rd_T64 x14 x16).f0).size + 1 + ((rd_T64 x14 x16).f1).size ≤ 9223372036854775807 then (if 5 + ((rd_T64 x14 x16).f0).size + 1 + ((rd_T64 x14 x16).f1).size + 1 ≤ 9223372036854775807 then ((impl_Decimal.f ((rd_T64 x14 x16).f2)).bind fun t204 => (if 5 + ((rd_T64 x14 x16).f0).size + 1 + ((rd_T64 x14 x16).f1).size + 1 + t204.size ≤ 9223372036854775807 then (if 5 + ((rd_T64 x14 x16).f0).size + 1 + ((rd_T64 x14 x16).f1).size + 1 + t204.size + 1 ≤ 9223372036854775807 then (if x3.size + 5 + ((rd_T64 x14 x16).f0).size + 1 + ((rd_T64 x14 x16).f1).size + 1 + t204.size + 1 ≤ 9223372036854775807 then (impl_RigText.l0 k (x3 ++ (((((((⟨#[114, 97, 105, 108, 32]⟩ : ByteArray) ++ ((rd_T64 x14 x16).f0)) ++ (⟨#[32]⟩ : ByteArray)) ++ ((rd_T64 x14 x16).f1)) ++ (⟨#[32]⟩ : ByteArray)) ++ t204) ++ (⟨#[10]⟩ : ByteArray))) x14 x15 (wrap64 (x16 + 1)) x201000 x201001 x201002) else (none)) else (none)) else (none))) else (none)) else (none)) else (none)) else (none)) else (none)) else (none)) else (impl_RigText.l1 k x3 x201001 (x201001.length : Int) 0 x201000 x201001 x201002)
def impl_RigText.l1 : Nat → ByteArray → List ByteArray → Int → Int → List (S64) → List ByteArray → List (S67) → Option (ByteArray)
 | 0, _, _, _, _, _, _, _ => none
 | k + 1, x3, x37, x38, x39, x201000, x201001, x201002 => if x39 < x38 then (if 0 ≤ x39 then (if x39 < (x37.length : Int) then (if 5 + (rdOf ByteArray.empty x37 x39).size ≤ 9223372036854775807 then (if 5 + (rdOf ByteArray.empty x37 x39).size + 1 ≤ 9223372036854775807 then (if x3.size + 5 + (rdOf ByteArray.empty x37 x39).size + 1 ≤ 9223372036854775807 then (impl_RigText.l1 k (x3 ++ (((⟨#[108, 105, 110, 101, 32]⟩ : ByteArray) ++ (rdOf ByteArray.empty x37 x39)) ++ (⟨#[10]⟩ : ByteArray))) x37 x38 (wrap64 (x39 + 1)) x201000 x201001 x201002) else (none)) else (none)) else (none)) else (none)) else (none)) else (impl_RigText.l2 k x3 x201002 (x201002.length : Int) 0)
def impl_RigText.l2 : Nat → ByteArray → List (S67) → Int → Int → Option (ByteArray)
 | 0, _, _, _, _ => none
 | k + 1, x3, x50, x51, x52 => if x52 < x51 then (if 0 ≤ x52 then (if x52 < (x50.length : Int) then (if 6 + ((rd_T67 x50 x52).f0).size ≤ 9223372036854775807 then (if 6 + ((rd_T67 x50 x52).f0).size + 1 ≤ 9223372036854775807 then (if 6 + ((rd_T67 x50 x52).f0).size + 1 + ((rd_T67 x50 x52).f1).size ≤ 9223372036854775807 then (if 6 + ((rd_T67 x50 x52).f0).size + 1 + ((rd_T67 x50 x52).f1).size + 1 ≤ 9223372036854775807 then ((impl_Decimal.f ((rd_T67 x50 x52).f2)).bind fun t208 => (if 6 + ((rd_T67 x50 x52).f0).size + 1 + ((rd_T67 x50 x52).f1).size + 1 + t208.size ≤ 9223372036854775807 then (if 6 + ((rd_T67 x50 x52).f0).size + 1 + ((rd_T67 x50 x52).f1).size + 1 + t208.size + 1 ≤ 9223372036854775807 then (if x3.size + 6 + ((rd_T67 x50 x52).f0).size + 1 + ((rd_T67 x50 x52).f1).size + 1 + t208.size + 1 ≤ 9223372036854775807 then (impl_RigText.l2 k (x3 ++ (((((((⟨#[98, 101, 108, 97, 121, 32]⟩ : ByteArray) ++ ((rd_T67 x50 x52).f0)) ++ (⟨#[32]⟩ : ByteArray)) ++ ((rd_T67 x50 x52).f1)) ++ (⟨#[32]⟩ : ByteArray)) ++ t208) ++ (⟨#[10]⟩ : ByteArray))) x50 x51 (wrap64 (x52 + 1))) else (none)) else (none)) else (none))) else (none)) else (none)) else (none)) else (none)) else (none)) else (none)) else (some x3)
end
def impl_RigText.f (k : Nat) (l0_0 : List (S64)) (l0_1 : List ByteArray) (l0_2 : List (S67)) : Option (ByteArray) := (impl_ValidRig.f k l0_0 l0_1 l0_2).bind fun t201 => (if t201 = true then (impl_RigText.l0 k (⟨#[]⟩ : ByteArray) l0_0 (l0_0.length : Int) 0 l0_0 l0_1 l0_2) else (some (⟨#[]⟩ : ByteArray)))
def impl_RigText.T7 : Bool × List (List Nat × List Nat) := (true, [([], []), ([], []), ([1], [1]), ([2], [2]), ([3], [3]), ([], []), ([5], [5]), ([4, 6], [4, 6]), ([7], [7]), ([], []), ([9], [9]), ([10], [10]), ([8, 11], [8, 11]), ([12], [12]), ([0, 13], [0, 13]), ([14, 11, 0, 1, 2, 3, 4, 5, 6, 7, 8, 9, 10, 11, 12, 13, 14], [0, 14])])
def impl_RigText.B7 : List Nat := [0, 0, 2, 6, 14, 0, 32, 126, 254, 0, 512, 1536, 4094, 8190, 16383, 32767]
theorem impl_RigText.tab7 : rtab .any (opsOf Tryd.f9 7) = impl_RigText.T7 := by kernel_rfl
theorem impl_RigText.bits7 : waitsOk impl_RigText.T7.2 impl_RigText.B7 = true := by kernel_rfl
def impl_RigText.T17 : Bool × List (List Nat × List Nat) := (true, [([], []), ([], []), ([1], [1]), ([2], [2]), ([3], [3]), ([], []), ([5], [5]), ([4, 6], [4, 6]), ([7], [7]), ([], []), ([9], [9]), ([10], [10]), ([8, 11], [8, 11]), ([12], [12]), ([0, 13], [0, 13]), ([14, 11, 0, 1, 2, 3, 4, 5, 6, 7, 8, 9, 10, 11, 12, 13, 14], [0, 14])])
def impl_RigText.B17 : List Nat := [0, 0, 2, 6, 14, 0, 32, 126, 254, 0, 512, 1536, 4094, 8190, 16383, 32767]
theorem impl_RigText.tab17 : rtab .any (opsOf Tryd.f9 17) = impl_RigText.T17 := by kernel_rfl
theorem impl_RigText.bits17 : waitsOk impl_RigText.T17.2 impl_RigText.B17 = true := by kernel_rfl
set_option maxHeartbeats 8000000 in
set_option maxRecDepth 100000 in
theorem impl_RigText.calls (k : Nat) (A0_0 : Option Addr) (c0_0 : Nat) (l0_0 : List (S64)) (A0_1 : Option Addr) (c0_1 : Nat) (l0_1 : List ByteArray) (A0_2 : Option Addr) (c0_2 : Nat) (l0_2 : List (S67)) (r : ByteArray) (w : World) (hr0_0 : Kd.C k64 w A0_0 l0_0.length l0_0) (hc0_0 : l0_0.length ≤ c0_0) (hr0_1 : Kd.C Kd.string w A0_1 l0_1.length l0_1) (hc0_1 : l0_1.length ≤ c0_1) (hr0_2 : Kd.C k67 w A0_2 l0_2.length l0_2) (hc0_2 : l0_2.length ≤ c0_2) (hT : TB w) (h : impl_RigText.f k l0_0 l0_1 l0_2 = some r) :
  Calls Tryd.prog 9 #[.agg #[.slice A0_0 l0_0.length c0_0, .slice A0_1 l0_1.length c0_1, .slice A0_2 l0_2.length c0_2]] w fun e w' => e = .returned (.string r) ∧ Below w.heap.size w w' := by
 have hu32 := Tryd.underlying32
 have hu64 := Tryd.underlying64
 have hu67 := Tryd.underlying67
 have HR0_0 := Aside0.mk hr0_0
 have HC0_0 := Aside0.mk hc0_0
 clear hr0_0 hc0_0
 have HR0_1 := Aside0.mk hr0_1
 have HC0_1 := Aside0.mk hc0_1
 clear hr0_1 hc0_1
 have HR0_2 := Aside0.mk hr0_2
 have HC0_2 := Aside0.mk hc0_2
 clear hr0_2 hc0_2
 have HT := Aside0.mk hT
 clear hT
 have HB := Aside0.mk (Below.refl w.heap.size w)
 have H : ((impl_ValidRig.f k l0_0 l0_1 l0_2).bind fun t201 => (if t201 = true then (impl_RigText.l0 k (⟨#[]⟩ : ByteArray) l0_0 (l0_0.length : Int) 0 l0_0 l0_1 l0_2) else (some (⟨#[]⟩ : ByteArray)))) = some r := h
 clear h
 replace H := Option.bind_eq_some_iff.mp H
 obtain ⟨t201, A20, H⟩ := H
 replace H : (if t201 = true then (impl_RigText.l0 k (⟨#[]⟩ : ByteArray) l0_0 (l0_0.length : Int) 0 l0_0 l0_1 l0_2) else (some (⟨#[]⟩ : ByteArray))) = some r := H
 have A2 := Aside0.mk A20
 clear A20
 by_cases c3 : t201 = true
 ·subst c3
  have H1 : (impl_RigText.l0 k (⟨#[]⟩ : ByteArray) l0_0 (l0_0.length : Int) 0 l0_0 l0_1 l0_2) = some r := by rw [if_pos rfl] at H; exact H
  clear H
  have H := H1
  clear H1
  have H' := Aside0.mk H
  clear H
  go_enter Tryd.func9, Tryd.ntmps9
  go_wp2_with (first | ((with_reducible refine gate_dst (N := 1) rfl ?_); refine box_event ?hg (N := 1) ?hd (cs := #[.slice A0_0 l0_0.length c0_0, .slice A0_1 l0_1.length c0_1, .slice A0_2 l0_2.length c0_2]) (t := 32) ?hr ?_; (case hd => rfl); (case hg => rfl); (case hr => first | (go_simp; done) | (go_simp; rfl)); intro gb200 hg w4 hbox hb; have n0_ := Aside0.mk (below_step hb_ hb); have n1_ := Aside0.mk (hbox); have n2_ := Aside0.mk ((by rw [hg]; exact (below_size hb_) : w.heap.size ≤ gb200)); have n3_ := Aside0.mk ((by rw [hg]; exact (below_size hb_) : w.heap.size ≤ gb200)); clear HB; have HB := n0_; have BK200 := n1_; have GW200 := n2_; have GE200 := n3_; clear n0_ n1_ n2_ n3_; clear hb hbox hg; have hcz5_0 : w4.cell? ⟨gb200, 0, none⟩ = some (.slice A0_0 l0_0.length c0_0) := (blk_cell BK200.out 0).trans rfl; have hcz5_1 : w4.cell? ⟨gb200, 1, none⟩ = some (.slice A0_1 l0_1.length c0_1) := (blk_cell BK200.out 1).trans rfl; have hcz5_2 : w4.cell? ⟨gb200, 2, none⟩ = some (.slice A0_2 l0_2.length c0_2) := (blk_cell BK200.out 2).trans rfl; have hfz5_0 := blk_frozen BK200.out 0; have hfz5_1 := blk_frozen BK200.out 1; have hfz5_2 := blk_frozen BK200.out 2) | ((with_reducible refine gate_callee (f := 27) rfl ?_); refine goesL_ (some 11) rfl rfl Tryd.func27 (by kernel_rfl) rfl #[.agg #[.slice A0_0 l0_0.length c0_0, .slice A0_1 l0_1.length c0_1, .slice A0_2 l0_2.length c0_2]] rfl ln_ ?_; (with_reducible refine (impl_ValidRig.calls k _ _ l0_0 _ _ l0_1 _ _ l0_2 true _ ?side1 ?side2 ?side3 ?side4 ?side5 ?side6 A2.out).mono ?_); (case side1 => exact kc_ (Kd.C_below HR0_0.out HB.out)); (case side2 => exact HC0_0.out); (case side3 => exact kc_ (Kd.C_below HR0_1.out HB.out)); (case side4 => exact HC0_1.out); (case side5 => exact kc_ (Kd.C_below HR0_2.out HB.out)); (case side6 => exact HC0_2.out); rintro e w6 ⟨rfl, hb⟩; refine ⟨_, rfl, ?_⟩; have n0_ := Aside0.mk (blk_below (g := gb200) (o := .cells #[.slice A0_0 l0_0.length c0_0, .slice A0_1 l0_1.length c0_1, .slice A0_2 l0_2.length c0_2] 32 (0, 0)) (bk_ BK200) hb); have n1_ := Aside0.mk (below_step (hg_ GE200) hb); clear BK200; clear HB; have BK200 := n0_; have HB := n1_; clear n0_ n1_; (try clear hb); (try clear hb2); (try clear hk); (try clear hi); have hcz7_0 : w6.cell? ⟨gb200, 0, none⟩ = some (.slice A0_0 l0_0.length c0_0) := (blk_cell BK200.out 0).trans rfl; have hcz7_1 : w6.cell? ⟨gb200, 1, none⟩ = some (.slice A0_1 l0_1.length c0_1) := (blk_cell BK200.out 1).trans rfl; have hcz7_2 : w6.cell? ⟨gb200, 2, none⟩ = some (.slice A0_2 l0_2.length c0_2) := (blk_cell BK200.out 2).trans rfl; have hfz7_0 := blk_frozen BK200.out 0; have hfz7_1 := blk_frozen BK200.out 1; have hfz7_2 := blk_frozen BK200.out 2))
  go_loopg [3, 16] k (fun kq v3 v16 w' => ∃ (x3_1 : ByteArray) (x16_1 : Int), v3 = .string x3_1 ∧ v16 = .int .i64 x16_1 ∧ Aside0 (impl_RigText.l0 kq x3_1 l0_0 (l0_0.length : Int) x16_1 l0_0 l0_1 l0_2 = some r) ∧ Aside0 (kq ≤ k) ∧ Aside0 (w'.heap[gb200]? = some (.cells #[(.slice A0_0 l0_0.length c0_0), (.slice A0_1 l0_1.length c0_1), (.slice A0_2 l0_2.length c0_2)] 32 (0, 0))) ∧ Aside0 (Below w.heap.size w w'))
  case atStart => exact ⟨((⟨#[]⟩ : ByteArray)), (0), (by first | rfl | (simp; done) | (simp [*]; done)), (by first | rfl | (simp; done) | (simp [*]; done)), H', ⟨Nat.le_refl _⟩, ⟨by (with_reducible repeat (first | refine blk_drewN ?_ _ | refine blk_drew ?_ | refine blk_alloc ?_ _)); exact BK200.out⟩, ⟨(hg_ GE200)⟩⟩
  case round =>
   clear H'
   try clear c2
   try clear p2
   try clear c3
   try clear hcz5_0
   try clear hcz5_1
   try clear hcz5_2
   try clear hcz7_0
   try clear hcz7_1
   try clear hcz7_2
   try clear hfz5_0
   try clear hfz5_1
   try clear hfz5_2
   try clear hfz7_0
   try clear hfz7_1
   try clear hfz7_2
   obtain ⟨x3_1, x16_1, rfl, rfl, HA, HK1, BK200, HB⟩ := hrel
   cases gk with
   | zero => exact absurd HA.out (by simp [impl_RigText.l0])
   | succ k1 =>
    have H := HA.out
    clear HA
    simp only [impl_RigText.l0] at H
    by_cases c8 : x16_1 < (l0_0.length : Int)
    ·rw [if_pos c8] at H
     have c8b0 : decide (x16_1 < (l0_0.length : Int)) = true := decide_eq_true c8
     clear c8
     by_cases c9 : 0 ≤ x16_1
     ·rw [if_pos c9] at H
      have c9b0 : decide (0 ≤ x16_1) = true := decide_eq_true c9
      clear c9
      by_cases c10 : x16_1 < (l0_0.length : Int)
      ·rw [if_pos c10] at H
       have c10b0 : decide (x16_1 < (l0_0.length : Int)) = true := decide_eq_true c10
       clear c10
       by_cases c11 : 5 + ((rd_T64 l0_0 x16_1).f0).size ≤ 9223372036854775807
       ·rw [if_pos c11] at H
        have c11b0 := eq_true c11
        have c11b1 : decide (5 + ((rd_T64 l0_0 x16_1).f0).size ≤ 9223372036854775807) = true := decide_eq_true c11
        try have c11b2 : (9223372036854775807 < 5 + ((rd_T64 l0_0 x16_1).f0).size) = False := eq_false (Nat.not_lt.2 c11)
        by_cases c12 : 5 + ((rd_T64 l0_0 x16_1).f0).size + 1 ≤ 9223372036854775807
        ·rw [if_pos c12] at H
         have c12b0 := eq_true c12
         have c12b1 : decide (5 + ((rd_T64 l0_0 x16_1).f0).size + 1 ≤ 9223372036854775807) = true := decide_eq_true c12
         try have c12b2 : (9223372036854775807 < 5 + ((rd_T64 l0_0 x16_1).f0).size + 1) = False := eq_false (Nat.not_lt.2 c12)
         by_cases c13 : 5 + ((rd_T64 l0_0 x16_1).f0).size + 1 + ((rd_T64 l0_0 x16_1).f1).size ≤ 9223372036854775807
         ·rw [if_pos c13] at H
          have c13b0 := eq_true c13
          have c13b1 : decide (5 + ((rd_T64 l0_0 x16_1).f0).size + 1 + ((rd_T64 l0_0 x16_1).f1).size ≤ 9223372036854775807) = true := decide_eq_true c13
          try have c13b2 : (9223372036854775807 < 5 + ((rd_T64 l0_0 x16_1).f0).size + 1 + ((rd_T64 l0_0 x16_1).f1).size) = False := eq_false (Nat.not_lt.2 c13)
          by_cases c14 : 5 + ((rd_T64 l0_0 x16_1).f0).size + 1 + ((rd_T64 l0_0 x16_1).f1).size + 1 ≤ 9223372036854775807
          ·rw [if_pos c14] at H
           have c14b0 := eq_true c14
           have c14b1 : decide (5 + ((rd_T64 l0_0 x16_1).f0).size + 1 + ((rd_T64 l0_0 x16_1).f1).size + 1 ≤ 9223372036854775807) = true := decide_eq_true c14
           try have c14b2 : (9223372036854775807 < 5 + ((rd_T64 l0_0 x16_1).f0).size + 1 + ((rd_T64 l0_0 x16_1).f1).size + 1) = False := eq_false (Nat.not_lt.2 c14)
           replace H := Option.bind_eq_some_iff.mp H
           obtain ⟨t204, A150, H⟩ := H
           replace H : (if 5 + ((rd_T64 l0_0 x16_1).f0).size + 1 + ((rd_T64 l0_0 x16_1).f1).size + 1 + t204.size ≤ 9223372036854775807 then (if 5 + ((rd_T64 l0_0 x16_1).f0).size + 1 + ((rd_T64 l0_0 x16_1).f1).size + 1 + t204.size + 1 ≤ 9223372036854775807 then (if x3_1.size + 5 + ((rd_T64 l0_0 x16_1).f0).size + 1 + ((rd_T64 l0_0 x16_1).f1).size + 1 + t204.size + 1 ≤ 9223372036854775807 then (impl_RigText.l0 k1 (x3_1 ++ (((((((⟨#[114, 97, 105, 108, 32]⟩ : ByteArray) ++ ((rd_T64 l0_0 x16_1).f0)) ++ (⟨#[32]⟩ : ByteArray)) ++ ((rd_T64 l0_0 x16_1).f1)) ++ (⟨#[32]⟩ : ByteArray)) ++ t204) ++ (⟨#[10]⟩ : ByteArray))) l0_0 (l0_0.length : Int) (wrap64 (x16_1 + 1)) l0_0 l0_1 l0_2) else (none)) else (none)) else (none)) = some r := H
           have A15 := Aside0.mk A150
           clear A150
           by_cases c16 : 5 + ((rd_T64 l0_0 x16_1).f0).size + 1 + ((rd_T64 l0_0 x16_1).f1).size + 1 + t204.size ≤ 9223372036854775807
           ·rw [if_pos c16] at H
            have c16b0 := eq_true c16
            have c16b1 : decide (5 + ((rd_T64 l0_0 x16_1).f0).size + 1 + ((rd_T64 l0_0 x16_1).f1).size + 1 + t204.size ≤ 9223372036854775807) = true := decide_eq_true c16
            try have c16b2 : (9223372036854775807 < 5 + ((rd_T64 l0_0 x16_1).f0).size + 1 + ((rd_T64 l0_0 x16_1).f1).size + 1 + t204.size) = False := eq_false (Nat.not_lt.2 c16)
            by_cases c17 : 5 + ((rd_T64 l0_0 x16_1).f0).size + 1 + ((rd_T64 l0_0 x16_1).f1).size + 1 + t204.size + 1 ≤ 9223372036854775807
            ·rw [if_pos c17] at H
             have c17b0 := eq_true c17
             have c17b1 : decide (5 + ((rd_T64 l0_0 x16_1).f0).size + 1 + ((rd_T64 l0_0 x16_1).f1).size + 1 + t204.size + 1 ≤ 9223372036854775807) = true := decide_eq_true c17
             try have c17b2 : (9223372036854775807 < 5 + ((rd_T64 l0_0 x16_1).f0).size + 1 + ((rd_T64 l0_0 x16_1).f1).size + 1 + t204.size + 1) = False := eq_false (Nat.not_lt.2 c17)
             by_cases c18 : x3_1.size + 5 + ((rd_T64 l0_0 x16_1).f0).size + 1 + ((rd_T64 l0_0 x16_1).f1).size + 1 + t204.size + 1 ≤ 9223372036854775807
             ·rw [if_pos c18] at H
              have c18b0 := eq_true c18
              have c18b1 : decide (x3_1.size + 5 + ((rd_T64 l0_0 x16_1).f0).size + 1 + ((rd_T64 l0_0 x16_1).f1).size + 1 + t204.size + 1 ≤ 9223372036854775807) = true := decide_eq_true c18
              try have c18b2 : (9223372036854775807 < x3_1.size + 5 + ((rd_T64 l0_0 x16_1).f0).size + 1 + ((rd_T64 l0_0 x16_1).f1).size + 1 + t204.size + 1) = False := eq_false (Nat.not_lt.2 c18)
              have H' := Aside0.mk H
              clear H
              have p202 : 0 ≤ (x16_1 : Int) := od_
              have q202 : x16_1 < (l0_0.length : Int) := od_
              obtain ⟨ad202, e202, hx202_0, hx202_1, hx202_2⟩ := at_T64 HR0_0.out x16_1 p202 q202
              cases e202
              replace hx202_0 := cq_ HB hx202_0
              replace hx202_1 := cq_ HB hx202_1
              replace hx202_2 := cq_ HB hx202_2
              replace p202 := eq_true p202
              replace q202 := eq_true q202
              try go_wp2_with (first | ((with_reducible refine gate_dst (N := 5) rfl ?_); refine box_event ?hg (N := 5) ?hd (cs := #[.string (⟨#[]⟩ : ByteArray), .string (⟨#[]⟩ : ByteArray), .int .i64 0]) (t := 64) ?hr ?_; (case hd => rfl); (case hg => rfl); (case hr => first | (go_simp; done) | (go_simp; rfl)); intro gb203 hg w19 hbox hb; have n0_ := Aside0.mk (blk_below (g := gb200) (o := .cells #[.slice (some ad202) l0_0.length c0_0, .slice A0_1 l0_1.length c0_1, .slice A0_2 l0_2.length c0_2] 32 (0, 0)) (bk_ BK200) hb); have n1_ := Aside0.mk (below_step (hg_ GE200) hb); have n2_ := Aside0.mk (hbox); have n3_ := Aside0.mk ((by rw [hg]; exact (below_size (hg_ GE200)) : w.heap.size ≤ gb203)); have n4_ := Aside0.mk ((by rw [hg]; exact (below_size (hg_ GE200)) : w.heap.size ≤ gb203)); have n5_ := Aside0.mk ((by rw [hg]; exact Nat.ne_of_lt (blk_lt (g := gb200) (o := .cells #[.slice (some ad202) l0_0.length c0_0, .slice A0_1 l0_1.length c0_1, .slice A0_2 l0_2.length c0_2] 32 (0, 0)) (bk_ BK200)) : gb200 ≠ gb203)); have n6_ := Aside0.mk ((by rw [hg]; exact Nat.ne_of_gt (blk_lt (g := gb200) (o := .cells #[.slice (some ad202) l0_0.length c0_0, .slice A0_1 l0_1.length c0_1, .slice A0_2 l0_2.length c0_2] 32 (0, 0)) (bk_ BK200)) : gb203 ≠ gb200)); clear BK200; clear HB; have BK200 := n0_; have HB := n1_; have BK203 := n2_; have GW203 := n3_; have GE203 := n4_; have NB200_203 := n5_; have NB203_200 := n6_; clear n0_ n1_ n2_ n3_ n4_ n5_ n6_; clear hb hbox hg; have hnb20 := NB203_200.out; have hnc20 := NB200_203.out; have hcz21_0 : w19.cell? ⟨gb203, 0, none⟩ = some (.string (⟨#[]⟩ : ByteArray)) := (blk_cell BK203.out 0).trans rfl; have hcz21_1 : w19.cell? ⟨gb203, 1, none⟩ = some (.string (⟨#[]⟩ : ByteArray)) := (blk_cell BK203.out 1).trans rfl; have hcz21_2 : w19.cell? ⟨gb203, 2, none⟩ = some (.int .i64 0) := (blk_cell BK203.out 2).trans rfl; have hfz21_0 := blk_frozen BK203.out 0; have hfz21_1 := blk_frozen BK203.out 1; have hfz21_2 := blk_frozen BK203.out 2))
              have n0_ : Aside0 ((((w19.setCell ⟨gb203, 0, none⟩ (.string ((rd_T64 l0_0 x16_1).f0))).setCell ⟨gb203, 1, none⟩ (.string ((rd_T64 l0_0 x16_1).f1))).setCell ⟨gb203, 2, none⟩ (.int .i64 ((rd_T64 l0_0 x16_1).f2))).heap[gb200]? = some (.cells #[.slice (some ad202) l0_0.length c0_0, .slice A0_1 l0_1.length c0_1, .slice A0_2 l0_2.length c0_2] 32 (0, 0))) := ⟨by (with_reducible repeat (first | refine blk_drewN ?_ _ | refine blk_drew ?_ | refine blk_alloc ?_ _)); refine blk_far ?_ NB200_203.out _; (with_reducible repeat (first | refine blk_drewN ?_ _ | refine blk_drew ?_ | refine blk_alloc ?_ _)); refine blk_far ?_ NB200_203.out _; (with_reducible repeat (first | refine blk_drewN ?_ _ | refine blk_drew ?_ | refine blk_alloc ?_ _)); refine blk_far ?_ NB200_203.out _; (with_reducible repeat (first | refine blk_drewN ?_ _ | refine blk_drew ?_ | refine blk_alloc ?_ _)); exact BK200.out⟩
              have n1_ : Aside0 ((((w19.setCell ⟨gb203, 0, none⟩ (.string ((rd_T64 l0_0 x16_1).f0))).setCell ⟨gb203, 1, none⟩ (.string ((rd_T64 l0_0 x16_1).f1))).setCell ⟨gb203, 2, none⟩ (.int .i64 ((rd_T64 l0_0 x16_1).f2))).heap[gb203]? = some (.cells #[.string ((rd_T64 l0_0 x16_1).f0), .string ((rd_T64 l0_0 x16_1).f1), .int .i64 ((rd_T64 l0_0 x16_1).f2)] 64 (0, 0))) := ⟨by (with_reducible repeat (first | refine blk_drewN ?_ _ | refine blk_drew ?_ | refine blk_alloc ?_ _)); refine blk_put (cs := #[.string ((rd_T64 l0_0 x16_1).f0), .string ((rd_T64 l0_0 x16_1).f1), .int .i64 0]) ?_ 2 _ rfl; (with_reducible repeat (first | refine blk_drewN ?_ _ | refine blk_drew ?_ | refine blk_alloc ?_ _)); refine blk_put (cs := #[.string ((rd_T64 l0_0 x16_1).f0), .string (⟨#[]⟩ : ByteArray), .int .i64 0]) ?_ 1 _ rfl; (with_reducible repeat (first | refine blk_drewN ?_ _ | refine blk_drew ?_ | refine blk_alloc ?_ _)); refine blk_put (cs := #[.string (⟨#[]⟩ : ByteArray), .string (⟨#[]⟩ : ByteArray), .int .i64 0]) ?_ 0 _ rfl; (with_reducible repeat (first | refine blk_drewN ?_ _ | refine blk_drew ?_ | refine blk_alloc ?_ _)); exact BK203.out⟩
              have n2_ : Aside0 (Below w.heap.size w (((w19.setCell ⟨gb203, 0, none⟩ (.string ((rd_T64 l0_0 x16_1).f0))).setCell ⟨gb203, 1, none⟩ (.string ((rd_T64 l0_0 x16_1).f1))).setCell ⟨gb203, 2, none⟩ (.int .i64 ((rd_T64 l0_0 x16_1).f2)))) := ⟨(hg2_ GE200 GE203)⟩
              (try clear BK200)
              (try clear BK203)
              (try clear HB)
              generalize (((w19.setCell ⟨gb203, 0, none⟩ (.string ((rd_T64 l0_0 x16_1).f0))).setCell ⟨gb203, 1, none⟩ (.string ((rd_T64 l0_0 x16_1).f1))).setCell ⟨gb203, 2, none⟩ (.int .i64 ((rd_T64 l0_0 x16_1).f2))) = w22 at n0_ n1_ n2_ ⊢
              have BK200 := n0_
              have BK203 := n1_
              have HB := n2_
              clear n0_ n1_ n2_
              have n0_ := Aside0.mk (blk_drew BK200.out)
              have n1_ := Aside0.mk (blk_drew BK203.out)
              have n2_ := Aside0.mk (below_drew1 HB.out)
              clear BK200
              clear BK203
              clear HB
              have BK200 := n0_
              have BK203 := n1_
              have HB := n2_
              clear n0_ n1_ n2_
              refine start_ (n := 16) (S := fun w' => w'.cell? ⟨gb203, 0, none⟩ = some (.string ((rd_T64 l0_0 x16_1).f0)) ∧ w'.cell? ⟨gb203, 1, none⟩ = some (.string ((rd_T64 l0_0 x16_1).f1)) ∧ w'.cell? ⟨gb203, 2, none⟩ = some (.int .i64 ((rd_T64 l0_0 x16_1).f2))) (ds := []) #[F_,F_,F_,F_,F_,F_,F_,F_,F_,F_,F_,F_,F_,F_,F_,F_] (by kernel_rfl) rfl rfl ⟨(blk_cell BK203.out 0).trans rfl, (blk_cell BK203.out 1).trans rfl, (blk_cell BK203.out 2).trans rfl⟩ (fun hHeld => ?_); refine with_tabW impl_RigText.tab7 impl_RigText.bits7 (fun HT_ HW_ => ?_)
              generalize w22.drew = w23 at BK200 BK203 HB hHeld ⊢
              refine pu (i := 0) (N := some 20) #[T_,F_,F_,F_,F_,F_,F_,F_,F_,F_,F_,F_,F_,F_,F_,F_] HT_ ?_
              refine pu (i := 1) (N := some 21) #[T_,T_,F_,F_,F_,F_,F_,F_,F_,F_,F_,F_,F_,F_,F_,F_] HT_ ?_
              refine pu (i := 5) (N := some 25) #[T_,T_,F_,F_,F_,T_,F_,F_,F_,F_,F_,F_,F_,F_,F_,F_] HT_ ?_
              refine pu (i := 9) (N := some 29) #[T_,T_,F_,F_,F_,T_,F_,F_,F_,T_,F_,F_,F_,F_,F_,F_] HT_ ?_
              refine take_ (i := 2) (N := some 22) (v := ?_) (a' := ?_) #[T_,T_,T_,F_,F_,T_,F_,F_,F_,T_,F_,F_,F_,F_,F_,F_] rfl rfl (take_ofW HT_.out HW_.out (by kernel_rfl)) (fun _ _ _ h => h) (Or.inl ⟨by rfl, ?_⟩) hHeld ?_ ?_
              rotate_left
              ·rintro w' ⟨s0, s1, s2⟩
               go_simp
               with_reducible rfl
              rotate_left
              ·simp only [Act.put, sT_, s0_, sS_, i64_w, i32_w]
               rfl
              refine pu (i := 3) (N := some 23) #[T_,T_,T_,T_,F_,T_,F_,F_,F_,T_,F_,F_,F_,F_,F_,F_] HT_ ?_
              refine pu (i := 4) (N := some 24) #[T_,T_,T_,T_,T_,T_,F_,F_,F_,T_,F_,F_,F_,F_,F_,F_] HT_ ?_
              refine take_ (i := 6) (N := some 26) (v := ?_) (a' := ?_) #[T_,T_,T_,T_,T_,T_,T_,F_,F_,T_,F_,F_,F_,F_,F_,F_] rfl rfl (take_ofW HT_.out HW_.out (by kernel_rfl)) (fun _ _ _ h => h) (Or.inl ⟨by rfl, ?_⟩) hHeld ?_ ?_
              rotate_left
              ·rintro w' ⟨s0, s1, s2⟩
               go_simp
               with_reducible rfl
              rotate_left
              ·simp only [Act.put, sT_, s0_, sS_, i64_w, i32_w]
               rfl
              refine pu (i := 7) (N := some 27) #[T_,T_,T_,T_,T_,T_,T_,T_,F_,T_,F_,F_,F_,F_,F_,F_] HT_ ?_
              refine pu (i := 8) (N := some 28) #[T_,T_,T_,T_,T_,T_,T_,T_,T_,T_,F_,F_,F_,F_,F_,F_] HT_ ?_
              refine take_ (i := 10) (N := some 30) (v := ?_) (a' := ?_) #[T_,T_,T_,T_,T_,T_,T_,T_,T_,T_,T_,F_,F_,F_,F_,F_] rfl rfl (take_ofW HT_.out HW_.out (by kernel_rfl)) (fun _ _ _ h => h) (Or.inl ⟨by rfl, ?_⟩) hHeld ?_ ?_
              rotate_left
              ·rintro w' ⟨s0, s1, s2⟩
               go_simp
               with_reducible rfl
              rotate_left
              ·simp only [Act.put, sT_, s0_, sS_, i64_w, i32_w]
               rfl
              refine one_ (i := 11) (N := some 31) #[T_,T_,T_,T_,T_,T_,T_,T_,T_,T_,T_,T_,F_,F_,F_,F_] rfl rfl (one_of HT_.out (by kernel_rfl)) (by decide) (fun K hK => ?_)
              refine goes_ Tryd.func37 (by kernel_rfl) rfl #[.int .i64 ((rd_T64 l0_0 x16_1).f2)] (by rfl) rfl rfl ln_ ?_
              with_reducible refine (impl_Decimal.calls ((rd_T64 l0_0 x16_1).f2) t204 _ ?side1 A15.out).mono ?_
              (case side1 => first | exact HT.out | exact TB.below HT.out HB.out | ((repeat (first | exact HT.out | exact TB.below HT.out HB.out | apply TB.drewN | apply TB.drew)); done) | exact TB.below HT.out (by repeat (first | exact HB.out | apply below_alloc | apply pw_below_drewN | apply below_drew1 | refine below_set ?_ (Aside0.out (by assumption)))))
              rintro e w24 ⟨rfl, hb⟩
              refine ⟨_, rfl, ?_⟩
              have n0_ := Aside0.mk (blk_below (g := gb200) (o := .cells #[.slice (some ad202) l0_0.length c0_0, .slice A0_1 l0_1.length c0_1, .slice A0_2 l0_2.length c0_2] 32 (0, 0)) (bk_ BK200) hb)
              have n1_ := Aside0.mk (blk_below (g := gb203) (o := .cells #[.string ((rd_T64 l0_0 x16_1).f0), .string ((rd_T64 l0_0 x16_1).f1), .int .i64 ((rd_T64 l0_0 x16_1).f2)] 64 (0, 0)) (bk_ BK203) hb)
              have n2_ := Aside0.mk (below_step (hg2_ GE200 GE203) hb)
              clear BK200
              clear BK203
              clear HB
              have BK200 := n0_
              have BK203 := n1_
              have HB := n2_
              clear n0_ n1_ n2_
              (try clear hb)
              (try clear hb2)
              (try clear hk)
              (try clear hi)
              refine hK.out _ _ ⟨(blk_cell BK203.out 0).trans rfl, (blk_cell BK203.out 1).trans rfl, (blk_cell BK203.out 2).trans rfl⟩ (fun hHeld => ?_)
              clear hK K
              refine norm_ (a' := ?_) ?_ ?_
              rotate_left
              ·show Act.put _ (some 31) _ = _
               simp only [Act.put, sT_, s0_, sS_, i64_w, i32_w]
               rfl
              refine pu (i := 12) (N := some 32) #[T_,T_,T_,T_,T_,T_,T_,T_,T_,T_,T_,T_,T_,F_,F_,F_] HT_ ?_
              refine pu (i := 13) (N := some 33) #[T_,T_,T_,T_,T_,T_,T_,T_,T_,T_,T_,T_,T_,T_,F_,F_] HT_ ?_
              refine pu (i := 14) (N := some 34) #[T_,T_,T_,T_,T_,T_,T_,T_,T_,T_,T_,T_,T_,T_,T_,F_] HT_ ?_
              refine pu (i := 15) (N := some 3) #[T_,T_,T_,T_,T_,T_,T_,T_,T_,T_,T_,T_,T_,T_,T_,T_] HT_ ?_
              refine done_ (done_of HT_.out (by kernel_rfl)) ?_
              try go_wp2
              go_roundg k1
              case measure => have := HK1.out; omega
              case rel => exact ⟨(x3_1 ++ (((((((⟨#[114, 97, 105, 108, 32]⟩ : ByteArray) ++ ((rd_T64 l0_0 x16_1).f0)) ++ (⟨#[32]⟩ : ByteArray)) ++ ((rd_T64 l0_0 x16_1).f1)) ++ (⟨#[32]⟩ : ByteArray)) ++ t204) ++ (⟨#[10]⟩ : ByteArray))), (wrap64 (x16_1 + 1)), (by first | rfl | (simp; done) | (simp [*]; done)), (by first | rfl | (simp; done) | (simp [*]; done)), H', ⟨by have := HK1.out; omega⟩, ⟨by (with_reducible repeat (first | refine blk_drewN ?_ _ | refine blk_drew ?_ | refine blk_alloc ?_ _)); exact BK200.out⟩, ⟨(hg2_ GE200 GE203)⟩⟩
             ·rw [if_neg c18] at H
              exact absurd H (by simp)
            ·rw [if_neg c17] at H
             exact absurd H (by simp)
           ·rw [if_neg c16] at H
            exact absurd H (by simp)
          ·rw [if_neg c14] at H
           exact absurd H (by simp)
         ·rw [if_neg c13] at H
          exact absurd H (by simp)
        ·rw [if_neg c12] at H
         exact absurd H (by simp)
       ·rw [if_neg c11] at H
        exact absurd H (by simp)
      ·rw [if_neg c10] at H
       exact absurd H (by simp)
     ·rw [if_neg c9] at H
      exact absurd H (by simp)
    ·rw [if_neg c8] at H
     have c8b0 : decide (x16_1 < (l0_0.length : Int)) = false := decide_eq_false c8
     clear c8
     have H' := Aside0.mk H
     clear H
     have hcz25_0 : wr.cell? ⟨gb200, 0, none⟩ = some (.slice A0_0 l0_0.length c0_0) := (blk_cell BK200.out 0).trans rfl
     have hcz25_1 : wr.cell? ⟨gb200, 1, none⟩ = some (.slice A0_1 l0_1.length c0_1) := (blk_cell BK200.out 1).trans rfl
     have hcz25_2 : wr.cell? ⟨gb200, 2, none⟩ = some (.slice A0_2 l0_2.length c0_2) := (blk_cell BK200.out 2).trans rfl
     have hfz25_0 := blk_frozen BK200.out 0
     have hfz25_1 := blk_frozen BK200.out 1
     have hfz25_2 := blk_frozen BK200.out 2
     go_wp2
     go_loopg [3, 39] k1 (fun kq v3 v39 w' => ∃ (x3_2 : ByteArray) (x39_2 : Int), v3 = .string x3_2 ∧ v39 = .int .i64 x39_2 ∧ Aside0 (impl_RigText.l1 kq x3_2 l0_1 (l0_1.length : Int) x39_2 l0_0 l0_1 l0_2 = some r) ∧ Aside0 (kq ≤ k1) ∧ Aside0 (w'.heap[gb200]? = some (.cells #[(.slice A0_0 l0_0.length c0_0), (.slice A0_1 l0_1.length c0_1), (.slice A0_2 l0_2.length c0_2)] 32 (0, 0))) ∧ Aside0 (Below w.heap.size w w'))
     case atStart => exact ⟨(x3_1), (0), (by first | rfl | (simp; done) | (simp [*]; done)), (by first | rfl | (simp; done) | (simp [*]; done)), H', ⟨Nat.le_refl _⟩, ⟨by (with_reducible repeat (first | refine blk_drewN ?_ _ | refine blk_drew ?_ | refine blk_alloc ?_ _)); exact BK200.out⟩, ⟨(hg_ GE200)⟩⟩
     case round =>
      clear H'
      try clear c1
      try clear c2
      try clear p2
      try clear q2
      try clear hx2
      try clear c3
      try clear p6
      try clear c8
      try clear c8b0
      try clear c9
      try clear c9b0
      try clear c10
      try clear c10b0
      try clear c11
      try clear c11b0
      try clear c11b1
      try clear c11b2
      try clear c12
      try clear c12b0
      try clear c12b1
      try clear c12b2
      try clear c13
      try clear c13b0
      try clear c13b1
      try clear c13b2
      try clear c14
      try clear c14b0
      try clear c14b1
      try clear c14b2
      try clear c16
      try clear c16b0
      try clear c16b1
      try clear c16b2
      try clear c17
      try clear c17b0
      try clear c17b1
      try clear c17b2
      try clear c18
      try clear c18b0
      try clear c18b1
      try clear c18b2
      try clear c20
      try clear p20
      try clear q20
      try clear hx20
      try clear hcz21_0
      try clear hcz21_1
      try clear hcz21_2
      try clear hcz25_0
      try clear hcz25_1
      try clear hcz25_2
      try clear hcz5_0
      try clear hcz5_1
      try clear hcz5_2
      try clear hcz7_0
      try clear hcz7_1
      try clear hcz7_2
      try clear hfz21_0
      try clear hfz21_1
      try clear hfz21_2
      try clear hfz25_0
      try clear hfz25_1
      try clear hfz25_2
      try clear hfz5_0
      try clear hfz5_1
      try clear hfz5_2
      try clear hfz7_0
      try clear hfz7_1
      try clear hfz7_2
      try clear hx202_0
      try clear hx202_1
      try clear hx202_2
      try clear p2
      try clear p202
      try clear q202
      obtain ⟨x3_2, x39_2, rfl, rfl, HA, HK2, BK200, HB⟩ := hrel
      cases gk with
      | zero => exact absurd HA.out (by simp [impl_RigText.l1])
      | succ k2 =>
       have H := HA.out
       clear HA
       simp only [impl_RigText.l1] at H
       by_cases c26 : x39_2 < (l0_1.length : Int)
       ·rw [if_pos c26] at H
        have c26b0 : decide (x39_2 < (l0_1.length : Int)) = true := decide_eq_true c26
        clear c26
        by_cases c27 : 0 ≤ x39_2
        ·rw [if_pos c27] at H
         have c27b0 : decide (0 ≤ x39_2) = true := decide_eq_true c27
         clear c27
         by_cases c28 : x39_2 < (l0_1.length : Int)
         ·rw [if_pos c28] at H
          have c28b0 : decide (x39_2 < (l0_1.length : Int)) = true := decide_eq_true c28
          clear c28
          by_cases c29 : 5 + (rdOf ByteArray.empty l0_1 x39_2).size ≤ 9223372036854775807
          ·rw [if_pos c29] at H
           have c29b0 := eq_true c29
           have c29b1 : decide (5 + (rdOf ByteArray.empty l0_1 x39_2).size ≤ 9223372036854775807) = true := decide_eq_true c29
           try have c29b2 : (9223372036854775807 < 5 + (rdOf ByteArray.empty l0_1 x39_2).size) = False := eq_false (Nat.not_lt.2 c29)
           by_cases c30 : 5 + (rdOf ByteArray.empty l0_1 x39_2).size + 1 ≤ 9223372036854775807
           ·rw [if_pos c30] at H
            have c30b0 := eq_true c30
            have c30b1 : decide (5 + (rdOf ByteArray.empty l0_1 x39_2).size + 1 ≤ 9223372036854775807) = true := decide_eq_true c30
            try have c30b2 : (9223372036854775807 < 5 + (rdOf ByteArray.empty l0_1 x39_2).size + 1) = False := eq_false (Nat.not_lt.2 c30)
            by_cases c31 : x3_2.size + 5 + (rdOf ByteArray.empty l0_1 x39_2).size + 1 ≤ 9223372036854775807
            ·rw [if_pos c31] at H
             have c31b0 := eq_true c31
             have c31b1 : decide (x3_2.size + 5 + (rdOf ByteArray.empty l0_1 x39_2).size + 1 ≤ 9223372036854775807) = true := decide_eq_true c31
             try have c31b2 : (9223372036854775807 < x3_2.size + 5 + (rdOf ByteArray.empty l0_1 x39_2).size + 1) = False := eq_false (Nat.not_lt.2 c31)
             have H' := Aside0.mk H
             clear H
             have p205 : 0 ≤ (x39_2 : Int) := od_
             have q205 : x39_2 < (l0_1.length : Int) := od_
             obtain ⟨ad205, e205, hx205_0⟩ := Kd.at_string HR0_1.out x39_2 p205 q205
             cases e205
             replace hx205_0 := cq_ HB hx205_0
             replace p205 := eq_true p205
             replace q205 := eq_true q205
             go_wp2
             go_roundg k2
             case measure => have := HK1.out; have := HK2.out; omega
             case rel => exact ⟨(x3_2 ++ (((⟨#[108, 105, 110, 101, 32]⟩ : ByteArray) ++ (rdOf ByteArray.empty l0_1 x39_2)) ++ (⟨#[10]⟩ : ByteArray))), (wrap64 (x39_2 + 1)), (by first | rfl | (simp; done) | (simp [*]; done)), (by first | rfl | (simp; done) | (simp [*]; done)), H', ⟨by have := HK1.out; have := HK2.out; omega⟩, ⟨by (with_reducible repeat (first | refine blk_drewN ?_ _ | refine blk_drew ?_ | refine blk_alloc ?_ _)); exact BK200.out⟩, ⟨(hg_ GE200)⟩⟩
            ·rw [if_neg c31] at H
             exact absurd H (by simp)
           ·rw [if_neg c30] at H
            exact absurd H (by simp)
          ·rw [if_neg c29] at H
           exact absurd H (by simp)
         ·rw [if_neg c28] at H
          exact absurd H (by simp)
        ·rw [if_neg c27] at H
         exact absurd H (by simp)
       ·rw [if_neg c26] at H
        have c26b0 : decide (x39_2 < (l0_1.length : Int)) = false := decide_eq_false c26
        clear c26
        have H' := Aside0.mk H
        clear H
        have hcz32_0 : wr.cell? ⟨gb200, 0, none⟩ = some (.slice A0_0 l0_0.length c0_0) := (blk_cell BK200.out 0).trans rfl
        have hcz32_1 : wr.cell? ⟨gb200, 1, none⟩ = some (.slice A0_1 l0_1.length c0_1) := (blk_cell BK200.out 1).trans rfl
        have hcz32_2 : wr.cell? ⟨gb200, 2, none⟩ = some (.slice A0_2 l0_2.length c0_2) := (blk_cell BK200.out 2).trans rfl
        have hfz32_0 := blk_frozen BK200.out 0
        have hfz32_1 := blk_frozen BK200.out 1
        have hfz32_2 := blk_frozen BK200.out 2
        go_wp2
        go_loopg [3, 52] k2 (fun kq v3 v52 w' => ∃ (x3_3 : ByteArray) (x52_3 : Int), v3 = .string x3_3 ∧ v52 = .int .i64 x52_3 ∧ Aside0 (impl_RigText.l2 kq x3_3 l0_2 (l0_2.length : Int) x52_3 = some r) ∧ Aside0 (kq ≤ k2) ∧ Aside0 (w'.heap[gb200]? = some (.cells #[(.slice A0_0 l0_0.length c0_0), (.slice A0_1 l0_1.length c0_1), (.slice A0_2 l0_2.length c0_2)] 32 (0, 0))) ∧ Aside0 (Below w.heap.size w w'))
        case atStart => exact ⟨(x3_2), (0), (by first | rfl | (simp; done) | (simp [*]; done)), (by first | rfl | (simp; done) | (simp [*]; done)), H', ⟨Nat.le_refl _⟩, ⟨by (with_reducible repeat (first | refine blk_drewN ?_ _ | refine blk_drew ?_ | refine blk_alloc ?_ _)); exact BK200.out⟩, ⟨(hg_ GE200)⟩⟩
        case round =>
         clear H'
         try clear c1
         try clear c2
         try clear p2
         try clear q2
         try clear hx2
         try clear c3
         try clear p6
         try clear c8
         try clear c8b0
         try clear c9
         try clear c9b0
         try clear c10
         try clear c10b0
         try clear c11
         try clear c11b0
         try clear c11b1
         try clear c11b2
         try clear c12
         try clear c12b0
         try clear c12b1
         try clear c12b2
         try clear c13
         try clear c13b0
         try clear c13b1
         try clear c13b2
         try clear c14
         try clear c14b0
         try clear c14b1
         try clear c14b2
         try clear c16
         try clear c16b0
         try clear c16b1
         try clear c16b2
         try clear c17
         try clear c17b0
         try clear c17b1
         try clear c17b2
         try clear c18
         try clear c18b0
         try clear c18b1
         try clear c18b2
         try clear c20
         try clear p20
         try clear q20
         try clear hx20
         try clear c26
         try clear c26b0
         try clear c27
         try clear c27b0
         try clear c28
         try clear c28b0
         try clear c29
         try clear c29b0
         try clear c29b1
         try clear c29b2
         try clear c30
         try clear c30b0
         try clear c30b1
         try clear c30b2
         try clear c31
         try clear c31b0
         try clear c31b1
         try clear c31b2
         try clear hcz21_0
         try clear hcz21_1
         try clear hcz21_2
         try clear hcz25_0
         try clear hcz25_1
         try clear hcz25_2
         try clear hcz32_0
         try clear hcz32_1
         try clear hcz32_2
         try clear hcz5_0
         try clear hcz5_1
         try clear hcz5_2
         try clear hcz7_0
         try clear hcz7_1
         try clear hcz7_2
         try clear hfz21_0
         try clear hfz21_1
         try clear hfz21_2
         try clear hfz25_0
         try clear hfz25_1
         try clear hfz25_2
         try clear hfz32_0
         try clear hfz32_1
         try clear hfz32_2
         try clear hfz5_0
         try clear hfz5_1
         try clear hfz5_2
         try clear hfz7_0
         try clear hfz7_1
         try clear hfz7_2
         try clear hx202_0
         try clear hx202_1
         try clear hx202_2
         try clear hx205_0
         try clear p2
         try clear p20
         try clear p202
         try clear p205
         try clear p6
         try clear q2
         try clear q20
         try clear q202
         try clear q205
         obtain ⟨x3_3, x52_3, rfl, rfl, HA, HK3, BK200, HB⟩ := hrel
         cases gk with
         | zero => exact absurd HA.out (by simp [impl_RigText.l2])
         | succ k3 =>
          have H := HA.out
          clear HA
          simp only [impl_RigText.l2] at H
          by_cases c33 : x52_3 < (l0_2.length : Int)
          ·rw [if_pos c33] at H
           have c33b0 : decide (x52_3 < (l0_2.length : Int)) = true := decide_eq_true c33
           clear c33
           by_cases c34 : 0 ≤ x52_3
           ·rw [if_pos c34] at H
            have c34b0 : decide (0 ≤ x52_3) = true := decide_eq_true c34
            clear c34
            by_cases c35 : x52_3 < (l0_2.length : Int)
            ·rw [if_pos c35] at H
             have c35b0 : decide (x52_3 < (l0_2.length : Int)) = true := decide_eq_true c35
             clear c35
             by_cases c36 : 6 + ((rd_T67 l0_2 x52_3).f0).size ≤ 9223372036854775807
             ·rw [if_pos c36] at H
              have c36b0 := eq_true c36
              have c36b1 : decide (6 + ((rd_T67 l0_2 x52_3).f0).size ≤ 9223372036854775807) = true := decide_eq_true c36
              try have c36b2 : (9223372036854775807 < 6 + ((rd_T67 l0_2 x52_3).f0).size) = False := eq_false (Nat.not_lt.2 c36)
              by_cases c37 : 6 + ((rd_T67 l0_2 x52_3).f0).size + 1 ≤ 9223372036854775807
              ·rw [if_pos c37] at H
               have c37b0 := eq_true c37
               have c37b1 : decide (6 + ((rd_T67 l0_2 x52_3).f0).size + 1 ≤ 9223372036854775807) = true := decide_eq_true c37
               try have c37b2 : (9223372036854775807 < 6 + ((rd_T67 l0_2 x52_3).f0).size + 1) = False := eq_false (Nat.not_lt.2 c37)
               by_cases c38 : 6 + ((rd_T67 l0_2 x52_3).f0).size + 1 + ((rd_T67 l0_2 x52_3).f1).size ≤ 9223372036854775807
               ·rw [if_pos c38] at H
                have c38b0 := eq_true c38
                have c38b1 : decide (6 + ((rd_T67 l0_2 x52_3).f0).size + 1 + ((rd_T67 l0_2 x52_3).f1).size ≤ 9223372036854775807) = true := decide_eq_true c38
                try have c38b2 : (9223372036854775807 < 6 + ((rd_T67 l0_2 x52_3).f0).size + 1 + ((rd_T67 l0_2 x52_3).f1).size) = False := eq_false (Nat.not_lt.2 c38)
                by_cases c39 : 6 + ((rd_T67 l0_2 x52_3).f0).size + 1 + ((rd_T67 l0_2 x52_3).f1).size + 1 ≤ 9223372036854775807
                ·rw [if_pos c39] at H
                 have c39b0 := eq_true c39
                 have c39b1 : decide (6 + ((rd_T67 l0_2 x52_3).f0).size + 1 + ((rd_T67 l0_2 x52_3).f1).size + 1 ≤ 9223372036854775807) = true := decide_eq_true c39
                 try have c39b2 : (9223372036854775807 < 6 + ((rd_T67 l0_2 x52_3).f0).size + 1 + ((rd_T67 l0_2 x52_3).f1).size + 1) = False := eq_false (Nat.not_lt.2 c39)
                 replace H := Option.bind_eq_some_iff.mp H
                 obtain ⟨t208, A400, H⟩ := H
                 replace H : (if 6 + ((rd_T67 l0_2 x52_3).f0).size + 1 + ((rd_T67 l0_2 x52_3).f1).size + 1 + t208.size ≤ 9223372036854775807 then (if 6 + ((rd_T67 l0_2 x52_3).f0).size + 1 + ((rd_T67 l0_2 x52_3).f1).size + 1 + t208.size + 1 ≤ 9223372036854775807 then (if x3_3.size + 6 + ((rd_T67 l0_2 x52_3).f0).size + 1 + ((rd_T67 l0_2 x52_3).f1).size + 1 + t208.size + 1 ≤ 9223372036854775807 then (impl_RigText.l2 k3 (x3_3 ++ (((((((⟨#[98, 101, 108, 97, 121, 32]⟩ : ByteArray) ++ ((rd_T67 l0_2 x52_3).f0)) ++ (⟨#[32]⟩ : ByteArray)) ++ ((rd_T67 l0_2 x52_3).f1)) ++ (⟨#[32]⟩ : ByteArray)) ++ t208) ++ (⟨#[10]⟩ : ByteArray))) l0_2 (l0_2.length : Int) (wrap64 (x52_3 + 1))) else (none)) else (none)) else (none)) = some r := H
                 have A40 := Aside0.mk A400
                 clear A400
                 by_cases c41 : 6 + ((rd_T67 l0_2 x52_3).f0).size + 1 + ((rd_T67 l0_2 x52_3).f1).size + 1 + t208.size ≤ 9223372036854775807
                 ·rw [if_pos c41] at H
                  have c41b0 := eq_true c41
                  have c41b1 : decide (6 + ((rd_T67 l0_2 x52_3).f0).size + 1 + ((rd_T67 l0_2 x52_3).f1).size + 1 + t208.size ≤ 9223372036854775807) = true := decide_eq_true c41
                  try have c41b2 : (9223372036854775807 < 6 + ((rd_T67 l0_2 x52_3).f0).size + 1 + ((rd_T67 l0_2 x52_3).f1).size + 1 + t208.size) = False := eq_false (Nat.not_lt.2 c41)
                  by_cases c42 : 6 + ((rd_T67 l0_2 x52_3).f0).size + 1 + ((rd_T67 l0_2 x52_3).f1).size + 1 + t208.size + 1 ≤ 9223372036854775807
                  ·rw [if_pos c42] at H
                   have c42b0 := eq_true c42
                   have c42b1 : decide (6 + ((rd_T67 l0_2 x52_3).f0).size + 1 + ((rd_T67 l0_2 x52_3).f1).size + 1 + t208.size + 1 ≤ 9223372036854775807) = true := decide_eq_true c42
                   try have c42b2 : (9223372036854775807 < 6 + ((rd_T67 l0_2 x52_3).f0).size + 1 + ((rd_T67 l0_2 x52_3).f1).size + 1 + t208.size + 1) = False := eq_false (Nat.not_lt.2 c42)
                   by_cases c43 : x3_3.size + 6 + ((rd_T67 l0_2 x52_3).f0).size + 1 + ((rd_T67 l0_2 x52_3).f1).size + 1 + t208.size + 1 ≤ 9223372036854775807
                   ·rw [if_pos c43] at H
                    have c43b0 := eq_true c43
                    have c43b1 : decide (x3_3.size + 6 + ((rd_T67 l0_2 x52_3).f0).size + 1 + ((rd_T67 l0_2 x52_3).f1).size + 1 + t208.size + 1 ≤ 9223372036854775807) = true := decide_eq_true c43
                    try have c43b2 : (9223372036854775807 < x3_3.size + 6 + ((rd_T67 l0_2 x52_3).f0).size + 1 + ((rd_T67 l0_2 x52_3).f1).size + 1 + t208.size + 1) = False := eq_false (Nat.not_lt.2 c43)
                    have H' := Aside0.mk H
                    clear H
                    have p206 : 0 ≤ (x52_3 : Int) := od_
                    have q206 : x52_3 < (l0_2.length : Int) := od_
                    obtain ⟨ad206, e206, hx206_0, hx206_1, hx206_2⟩ := at_T67 HR0_2.out x52_3 p206 q206
                    cases e206
                    replace hx206_0 := cq_ HB hx206_0
                    replace hx206_1 := cq_ HB hx206_1
                    replace hx206_2 := cq_ HB hx206_2
                    replace p206 := eq_true p206
                    replace q206 := eq_true q206
                    try go_wp2_with (first | ((with_reducible refine gate_dst (N := 9) rfl ?_); refine box_event ?hg (N := 9) ?hd (cs := #[.string (⟨#[]⟩ : ByteArray), .string (⟨#[]⟩ : ByteArray), .int .i64 0]) (t := 67) ?hr ?_; (case hd => rfl); (case hg => rfl); (case hr => first | (go_simp; done) | (go_simp; rfl)); intro gb207 hg w44 hbox hb; have n0_ := Aside0.mk (blk_below (g := gb200) (o := .cells #[.slice A0_0 l0_0.length c0_0, .slice A0_1 l0_1.length c0_1, .slice (some ad206) l0_2.length c0_2] 32 (0, 0)) (bk_ BK200) hb); have n1_ := Aside0.mk (below_step (hg_ GE200) hb); have n2_ := Aside0.mk (hbox); have n3_ := Aside0.mk ((by rw [hg]; exact (below_size (hg_ GE200)) : w.heap.size ≤ gb207)); have n4_ := Aside0.mk ((by rw [hg]; exact (below_size (hg_ GE200)) : w.heap.size ≤ gb207)); have n5_ := Aside0.mk ((by rw [hg]; exact Nat.ne_of_lt (blk_lt (g := gb200) (o := .cells #[.slice A0_0 l0_0.length c0_0, .slice A0_1 l0_1.length c0_1, .slice (some ad206) l0_2.length c0_2] 32 (0, 0)) (bk_ BK200)) : gb200 ≠ gb207)); have n6_ := Aside0.mk ((by rw [hg]; exact Nat.ne_of_gt (blk_lt (g := gb200) (o := .cells #[.slice A0_0 l0_0.length c0_0, .slice A0_1 l0_1.length c0_1, .slice (some ad206) l0_2.length c0_2] 32 (0, 0)) (bk_ BK200)) : gb207 ≠ gb200)); clear BK200; clear HB; have BK200 := n0_; have HB := n1_; have BK207 := n2_; have GW207 := n3_; have GE207 := n4_; have NB200_207 := n5_; have NB207_200 := n6_; clear n0_ n1_ n2_ n3_ n4_ n5_ n6_; clear hb hbox hg; have hnb45 := NB207_200.out; have hnc45 := NB200_207.out; have hcz46_0 : w44.cell? ⟨gb207, 0, none⟩ = some (.string (⟨#[]⟩ : ByteArray)) := (blk_cell BK207.out 0).trans rfl; have hcz46_1 : w44.cell? ⟨gb207, 1, none⟩ = some (.string (⟨#[]⟩ : ByteArray)) := (blk_cell BK207.out 1).trans rfl; have hcz46_2 : w44.cell? ⟨gb207, 2, none⟩ = some (.int .i64 0) := (blk_cell BK207.out 2).trans rfl; have hfz46_0 := blk_frozen BK207.out 0; have hfz46_1 := blk_frozen BK207.out 1; have hfz46_2 := blk_frozen BK207.out 2))
                    have n0_ : Aside0 ((((w44.setCell ⟨gb207, 0, none⟩ (.string ((rd_T67 l0_2 x52_3).f0))).setCell ⟨gb207, 1, none⟩ (.string ((rd_T67 l0_2 x52_3).f1))).setCell ⟨gb207, 2, none⟩ (.int .i64 ((rd_T67 l0_2 x52_3).f2))).heap[gb200]? = some (.cells #[.slice A0_0 l0_0.length c0_0, .slice A0_1 l0_1.length c0_1, .slice (some ad206) l0_2.length c0_2] 32 (0, 0))) := ⟨by (with_reducible repeat (first | refine blk_drewN ?_ _ | refine blk_drew ?_ | refine blk_alloc ?_ _)); refine blk_far ?_ NB200_207.out _; (with_reducible repeat (first | refine blk_drewN ?_ _ | refine blk_drew ?_ | refine blk_alloc ?_ _)); refine blk_far ?_ NB200_207.out _; (with_reducible repeat (first | refine blk_drewN ?_ _ | refine blk_drew ?_ | refine blk_alloc ?_ _)); refine blk_far ?_ NB200_207.out _; (with_reducible repeat (first | refine blk_drewN ?_ _ | refine blk_drew ?_ | refine blk_alloc ?_ _)); exact BK200.out⟩
                    have n1_ : Aside0 ((((w44.setCell ⟨gb207, 0, none⟩ (.string ((rd_T67 l0_2 x52_3).f0))).setCell ⟨gb207, 1, none⟩ (.string ((rd_T67 l0_2 x52_3).f1))).setCell ⟨gb207, 2, none⟩ (.int .i64 ((rd_T67 l0_2 x52_3).f2))).heap[gb207]? = some (.cells #[.string ((rd_T67 l0_2 x52_3).f0), .string ((rd_T67 l0_2 x52_3).f1), .int .i64 ((rd_T67 l0_2 x52_3).f2)] 67 (0, 0))) := ⟨by (with_reducible repeat (first | refine blk_drewN ?_ _ | refine blk_drew ?_ | refine blk_alloc ?_ _)); refine blk_put (cs := #[.string ((rd_T67 l0_2 x52_3).f0), .string ((rd_T67 l0_2 x52_3).f1), .int .i64 0]) ?_ 2 _ rfl; (with_reducible repeat (first | refine blk_drewN ?_ _ | refine blk_drew ?_ | refine blk_alloc ?_ _)); refine blk_put (cs := #[.string ((rd_T67 l0_2 x52_3).f0), .string (⟨#[]⟩ : ByteArray), .int .i64 0]) ?_ 1 _ rfl; (with_reducible repeat (first | refine blk_drewN ?_ _ | refine blk_drew ?_ | refine blk_alloc ?_ _)); refine blk_put (cs := #[.string (⟨#[]⟩ : ByteArray), .string (⟨#[]⟩ : ByteArray), .int .i64 0]) ?_ 0 _ rfl; (with_reducible repeat (first | refine blk_drewN ?_ _ | refine blk_drew ?_ | refine blk_alloc ?_ _)); exact BK207.out⟩
                    have n2_ : Aside0 (Below w.heap.size w (((w44.setCell ⟨gb207, 0, none⟩ (.string ((rd_T67 l0_2 x52_3).f0))).setCell ⟨gb207, 1, none⟩ (.string ((rd_T67 l0_2 x52_3).f1))).setCell ⟨gb207, 2, none⟩ (.int .i64 ((rd_T67 l0_2 x52_3).f2)))) := ⟨(hg2_ GE200 GE207)⟩
                    (try clear BK200)
                    (try clear BK207)
                    (try clear HB)
                    generalize (((w44.setCell ⟨gb207, 0, none⟩ (.string ((rd_T67 l0_2 x52_3).f0))).setCell ⟨gb207, 1, none⟩ (.string ((rd_T67 l0_2 x52_3).f1))).setCell ⟨gb207, 2, none⟩ (.int .i64 ((rd_T67 l0_2 x52_3).f2))) = w47 at n0_ n1_ n2_ ⊢
                    have BK200 := n0_
                    have BK207 := n1_
                    have HB := n2_
                    clear n0_ n1_ n2_
                    have n0_ := Aside0.mk (blk_drew BK200.out)
                    have n1_ := Aside0.mk (blk_drew BK207.out)
                    have n2_ := Aside0.mk (below_drew1 HB.out)
                    clear BK200
                    clear BK207
                    clear HB
                    have BK200 := n0_
                    have BK207 := n1_
                    have HB := n2_
                    clear n0_ n1_ n2_
                    refine start_ (n := 16) (S := fun w' => w'.cell? ⟨gb207, 0, none⟩ = some (.string ((rd_T67 l0_2 x52_3).f0)) ∧ w'.cell? ⟨gb207, 1, none⟩ = some (.string ((rd_T67 l0_2 x52_3).f1)) ∧ w'.cell? ⟨gb207, 2, none⟩ = some (.int .i64 ((rd_T67 l0_2 x52_3).f2))) (ds := []) #[F_,F_,F_,F_,F_,F_,F_,F_,F_,F_,F_,F_,F_,F_,F_,F_] (by kernel_rfl) rfl rfl ⟨(blk_cell BK207.out 0).trans rfl, (blk_cell BK207.out 1).trans rfl, (blk_cell BK207.out 2).trans rfl⟩ (fun hHeld => ?_); refine with_tabW impl_RigText.tab17 impl_RigText.bits17 (fun HT_ HW_ => ?_)
                    generalize w47.drew = w48 at BK200 BK207 HB hHeld ⊢
                    refine pu (i := 0) (N := some 56) #[T_,F_,F_,F_,F_,F_,F_,F_,F_,F_,F_,F_,F_,F_,F_,F_] HT_ ?_
                    refine pu (i := 1) (N := some 57) #[T_,T_,F_,F_,F_,F_,F_,F_,F_,F_,F_,F_,F_,F_,F_,F_] HT_ ?_
                    refine pu (i := 5) (N := some 61) #[T_,T_,F_,F_,F_,T_,F_,F_,F_,F_,F_,F_,F_,F_,F_,F_] HT_ ?_
                    refine pu (i := 9) (N := some 65) #[T_,T_,F_,F_,F_,T_,F_,F_,F_,T_,F_,F_,F_,F_,F_,F_] HT_ ?_
                    refine take_ (i := 2) (N := some 58) (v := ?_) (a' := ?_) #[T_,T_,T_,F_,F_,T_,F_,F_,F_,T_,F_,F_,F_,F_,F_,F_] rfl rfl (take_ofW HT_.out HW_.out (by kernel_rfl)) (fun _ _ _ h => h) (Or.inl ⟨by rfl, ?_⟩) hHeld ?_ ?_
                    rotate_left
                    ·rintro w' ⟨s0, s1, s2⟩
                     go_simp
                     with_reducible rfl
                    rotate_left
                    ·simp only [Act.put, sT_, s0_, sS_, i64_w, i32_w]
                     rfl
                    refine pu (i := 3) (N := some 59) #[T_,T_,T_,T_,F_,T_,F_,F_,F_,T_,F_,F_,F_,F_,F_,F_] HT_ ?_
                    refine pu (i := 4) (N := some 60) #[T_,T_,T_,T_,T_,T_,F_,F_,F_,T_,F_,F_,F_,F_,F_,F_] HT_ ?_
                    refine take_ (i := 6) (N := some 62) (v := ?_) (a' := ?_) #[T_,T_,T_,T_,T_,T_,T_,F_,F_,T_,F_,F_,F_,F_,F_,F_] rfl rfl (take_ofW HT_.out HW_.out (by kernel_rfl)) (fun _ _ _ h => h) (Or.inl ⟨by rfl, ?_⟩) hHeld ?_ ?_
                    rotate_left
                    ·rintro w' ⟨s0, s1, s2⟩
                     go_simp
                     with_reducible rfl
                    rotate_left
                    ·simp only [Act.put, sT_, s0_, sS_, i64_w, i32_w]
                     rfl
                    refine pu (i := 7) (N := some 63) #[T_,T_,T_,T_,T_,T_,T_,T_,F_,T_,F_,F_,F_,F_,F_,F_] HT_ ?_
                    refine pu (i := 8) (N := some 64) #[T_,T_,T_,T_,T_,T_,T_,T_,T_,T_,F_,F_,F_,F_,F_,F_] HT_ ?_
                    refine take_ (i := 10) (N := some 66) (v := ?_) (a' := ?_) #[T_,T_,T_,T_,T_,T_,T_,T_,T_,T_,T_,F_,F_,F_,F_,F_] rfl rfl (take_ofW HT_.out HW_.out (by kernel_rfl)) (fun _ _ _ h => h) (Or.inl ⟨by rfl, ?_⟩) hHeld ?_ ?_
                    rotate_left
                    ·rintro w' ⟨s0, s1, s2⟩
                     go_simp
                     with_reducible rfl
                    rotate_left
                    ·simp only [Act.put, sT_, s0_, sS_, i64_w, i32_w]
                     rfl
                    refine one_ (i := 11) (N := some 67) #[T_,T_,T_,T_,T_,T_,T_,T_,T_,T_,T_,T_,F_,F_,F_,F_] rfl rfl (one_of HT_.out (by kernel_rfl)) (by decide) (fun K hK => ?_)
                    refine goes_ Tryd.func37 (by kernel_rfl) rfl #[.int .i64 ((rd_T67 l0_2 x52_3).f2)] (by rfl) rfl rfl ln_ ?_
                    with_reducible refine (impl_Decimal.calls ((rd_T67 l0_2 x52_3).f2) t208 _ ?side1 A40.out).mono ?_
                    (case side1 => first | exact HT.out | exact TB.below HT.out HB.out | ((repeat (first | exact HT.out | exact TB.below HT.out HB.out | apply TB.drewN | apply TB.drew)); done) | exact TB.below HT.out (by repeat (first | exact HB.out | apply below_alloc | apply pw_below_drewN | apply below_drew1 | refine below_set ?_ (Aside0.out (by assumption)))))
                    rintro e w49 ⟨rfl, hb⟩
                    refine ⟨_, rfl, ?_⟩
                    have n0_ := Aside0.mk (blk_below (g := gb200) (o := .cells #[.slice A0_0 l0_0.length c0_0, .slice A0_1 l0_1.length c0_1, .slice (some ad206) l0_2.length c0_2] 32 (0, 0)) (bk_ BK200) hb)
                    have n1_ := Aside0.mk (blk_below (g := gb207) (o := .cells #[.string ((rd_T67 l0_2 x52_3).f0), .string ((rd_T67 l0_2 x52_3).f1), .int .i64 ((rd_T67 l0_2 x52_3).f2)] 67 (0, 0)) (bk_ BK207) hb)
                    have n2_ := Aside0.mk (below_step (hg2_ GE200 GE207) hb)
                    clear BK200
                    clear BK207
                    clear HB
                    have BK200 := n0_
                    have BK207 := n1_
                    have HB := n2_
                    clear n0_ n1_ n2_
                    (try clear hb)
                    (try clear hb2)
                    (try clear hk)
                    (try clear hi)
                    refine hK.out _ _ ⟨(blk_cell BK207.out 0).trans rfl, (blk_cell BK207.out 1).trans rfl, (blk_cell BK207.out 2).trans rfl⟩ (fun hHeld => ?_)
                    clear hK K
                    refine norm_ (a' := ?_) ?_ ?_
                    rotate_left
                    ·show Act.put _ (some 67) _ = _
                     simp only [Act.put, sT_, s0_, sS_, i64_w, i32_w]
                     rfl
                    refine pu (i := 12) (N := some 68) #[T_,T_,T_,T_,T_,T_,T_,T_,T_,T_,T_,T_,T_,F_,F_,F_] HT_ ?_
                    refine pu (i := 13) (N := some 69) #[T_,T_,T_,T_,T_,T_,T_,T_,T_,T_,T_,T_,T_,T_,F_,F_] HT_ ?_
                    refine pu (i := 14) (N := some 70) #[T_,T_,T_,T_,T_,T_,T_,T_,T_,T_,T_,T_,T_,T_,T_,F_] HT_ ?_
                    refine pu (i := 15) (N := some 3) #[T_,T_,T_,T_,T_,T_,T_,T_,T_,T_,T_,T_,T_,T_,T_,T_] HT_ ?_
                    refine done_ (done_of HT_.out (by kernel_rfl)) ?_
                    try go_wp2
                    go_roundg k3
                    case measure => have := HK1.out; have := HK2.out; have := HK3.out; omega
                    case rel => exact ⟨(x3_3 ++ (((((((⟨#[98, 101, 108, 97, 121, 32]⟩ : ByteArray) ++ ((rd_T67 l0_2 x52_3).f0)) ++ (⟨#[32]⟩ : ByteArray)) ++ ((rd_T67 l0_2 x52_3).f1)) ++ (⟨#[32]⟩ : ByteArray)) ++ t208) ++ (⟨#[10]⟩ : ByteArray))), (wrap64 (x52_3 + 1)), (by first | rfl | (simp; done) | (simp [*]; done)), (by first | rfl | (simp; done) | (simp [*]; done)), H', ⟨by have := HK1.out; have := HK2.out; have := HK3.out; omega⟩, ⟨by (with_reducible repeat (first | refine blk_drewN ?_ _ | refine blk_drew ?_ | refine blk_alloc ?_ _)); exact BK200.out⟩, ⟨(hg2_ GE200 GE207)⟩⟩
                   ·rw [if_neg c43] at H
                    exact absurd H (by simp)
                  ·rw [if_neg c42] at H
                   exact absurd H (by simp)
                 ·rw [if_neg c41] at H
                  exact absurd H (by simp)
                ·rw [if_neg c39] at H
                 exact absurd H (by simp)
               ·rw [if_neg c38] at H
                exact absurd H (by simp)
              ·rw [if_neg c37] at H
               exact absurd H (by simp)
             ·rw [if_neg c36] at H
              exact absurd H (by simp)
            ·rw [if_neg c35] at H
             exact absurd H (by simp)
           ·rw [if_neg c34] at H
            exact absurd H (by simp)
          ·rw [if_neg c33] at H
           have c33b0 : decide (x52_3 < (l0_2.length : Int)) = false := decide_eq_false c33
           clear c33
           obtain rfl := Option.some.inj H
           go_wp2
           go_ret
           exact ⟨ew_, (hg_ GE200)⟩
 ·replace c3 := Bool.eq_false_iff.mpr c3
  subst c3
  have H1 : (some (⟨#[]⟩ : ByteArray)) = some r := by rw [if_neg (show ¬ (false = true) by decide)] at H; exact H
  clear H
  have H := H1
  clear H1
  obtain rfl := Option.some.inj H
  go_enter Tryd.func9, Tryd.ntmps9
  go_wp2_with (first | ((with_reducible refine gate_dst (N := 1) rfl ?_); refine box_event ?hg (N := 1) ?hd (cs := #[.slice A0_0 l0_0.length c0_0, .slice A0_1 l0_1.length c0_1, .slice A0_2 l0_2.length c0_2]) (t := 32) ?hr ?_; (case hd => rfl); (case hg => rfl); (case hr => first | (go_simp; done) | (go_simp; rfl)); intro gb200 hg w50 hbox hb; have n0_ := Aside0.mk (below_step hb_ hb); have n1_ := Aside0.mk (hbox); have n2_ := Aside0.mk ((by rw [hg]; exact (below_size hb_) : w.heap.size ≤ gb200)); have n3_ := Aside0.mk ((by rw [hg]; exact (below_size hb_) : w.heap.size ≤ gb200)); clear HB; have HB := n0_; have BK200 := n1_; have GW200 := n2_; have GE200 := n3_; clear n0_ n1_ n2_ n3_; clear hb hbox hg; have hcz51_0 : w50.cell? ⟨gb200, 0, none⟩ = some (.slice A0_0 l0_0.length c0_0) := (blk_cell BK200.out 0).trans rfl; have hcz51_1 : w50.cell? ⟨gb200, 1, none⟩ = some (.slice A0_1 l0_1.length c0_1) := (blk_cell BK200.out 1).trans rfl; have hcz51_2 : w50.cell? ⟨gb200, 2, none⟩ = some (.slice A0_2 l0_2.length c0_2) := (blk_cell BK200.out 2).trans rfl; have hfz51_0 := blk_frozen BK200.out 0; have hfz51_1 := blk_frozen BK200.out 1; have hfz51_2 := blk_frozen BK200.out 2) | ((with_reducible refine gate_callee (f := 27) rfl ?_); refine goesL_ (some 11) rfl rfl Tryd.func27 (by kernel_rfl) rfl #[.agg #[.slice A0_0 l0_0.length c0_0, .slice A0_1 l0_1.length c0_1, .slice A0_2 l0_2.length c0_2]] rfl ln_ ?_; (with_reducible refine (impl_ValidRig.calls k _ _ l0_0 _ _ l0_1 _ _ l0_2 false _ ?side1 ?side2 ?side3 ?side4 ?side5 ?side6 A2.out).mono ?_); (case side1 => exact kc_ (Kd.C_below HR0_0.out HB.out)); (case side2 => exact HC0_0.out); (case side3 => exact kc_ (Kd.C_below HR0_1.out HB.out)); (case side4 => exact HC0_1.out); (case side5 => exact kc_ (Kd.C_below HR0_2.out HB.out)); (case side6 => exact HC0_2.out); rintro e w52 ⟨rfl, hb⟩; refine ⟨_, rfl, ?_⟩; have n0_ := Aside0.mk (blk_below (g := gb200) (o := .cells #[.slice A0_0 l0_0.length c0_0, .slice A0_1 l0_1.length c0_1, .slice A0_2 l0_2.length c0_2] 32 (0, 0)) (bk_ BK200) hb); have n1_ := Aside0.mk (below_step (hg_ GE200) hb); clear BK200; clear HB; have BK200 := n0_; have HB := n1_; clear n0_ n1_; (try clear hb); (try clear hb2); (try clear hk); (try clear hi)))
  go_ret
  exact ⟨ew_, (hg_ GE200)⟩

end Go.Proofs.YtcenjcgfdghfnaaDoor.P
end
