-- Written by gprint.py (own program, over the printer of the kit) out of the translation. Lean checks it.
import Derived.Test.YtdbigcfpinpnpaaPx0
import Derived.Test.YtdbigcfpinpnpaaPx2
import Derived.Test.YtdbigcfpinpnpaaPx4
import Derived.Test.YtdbigcfpinpnpaaPx6
import Derived.Test.YtdbigcfpinpnpaaPx9
import Derived.Test.YtdbigcfpinpnpaaPx12
import Derived.Test.YtdbigcfpinpnpaaPx14
import Derived.Test.YtdbigcfpinpnpaaPx20
import Derived.Test.YtdbigcfpinpnpaaPx22
import Derived.Test.YtdbigcfpinpnpaaWPk
namespace Go.Proofs.Ytdbigcfpinpnpaa.P
open Go.RowKit Go.Proofs.YtdbigcfpinpnpaaW.PrintWords Go.Proofs.YtdbigcfpinpnpaaW.PrintLast Go.Proofs.YtdbigcfpinpnpaaW.PrintMore Go.Proofs.YtdbigcfpinpnpaaW.Pk
open Bool renaming true → T_, false → F_
open List renaming setIfInBounds_toArray → sT_, set_cons_zero → s0_, set_cons_succ → sS_
attribute [local go_sem] max2_int min2_int max_two min_two max_three min_three max_four min_four   -- for this text's walks alone
set_option linter.unusedVariables false
set_option linter.unusedSimpArgs false

/-! ### spec_WornOn: function 53 -/
def spec_WornOn.l0 : Nat → List (S73) → List (S53) → Int → List ByteArray → Int → Option (List ByteArray × Int)
 | 0, _, _, _, _, _ => none
 | k + 1, x0, x1, x2, x8, x9 => if x9 < (x0.length : Int) then (if 0 ≤ x9 then ((spec_l21Wear.f k ((rd_T73 x0 x9).f0) ((rd_T73 x0 x9).f1) ((rd_T73 x0 x9).f2) ((rd_T73 x0 x9).f3) x1 x2).bind fun t895 => (if t895 > ((rd_T73 x0 x9).f3) then (if x8.length < 8796093022208 then (spec_WornOn.l0 k x0 x1 x2 (x8 ++ [(rd_T73 x0 x9).f0]) (wrap64 (x9 + 1))) else (none)) else (spec_WornOn.l0 k x0 x1 x2 x8 (wrap64 (x9 + 1))))) else (none)) else (some (x8, 0))
def spec_WornOn.f (k : Nat) (l0 : List (S73)) (l1 : List (S53)) (a2 : Int) : Option (List ByteArray × Int) := (spec_l21Checks.f k l0 l1).bind fun t889 => (if t889 = true then ((spec_l21Day.f a2).bind fun t890 => (if t890 = true then (spec_WornOn.l0 k l0 l1 a2 (([] : List ByteArray)) 0) else (some (([] : List ByteArray), 2)))) else (some (([] : List ByteArray), 1)))
theorem spec_WornOn.mono_l : ∀ k, (∀ y0 y1 y2 y3 y4, LeO (spec_WornOn.l0 k y0 y1 y2 y3 y4) (spec_WornOn.l0 (k + 1) y0 y1 y2 y3 y4))
 | 0 => fun _ _ _ _ _ r h => by simp [spec_WornOn.l0] at h
 | k + 1 => by
  have ih0 := spec_WornOn.mono_l k
  ·intro y0 y1 y2 y3 y4
   unfold spec_WornOn.l0
   repeat' first
   | (with_reducible exact ih0 _ _ _ _ _)
   | (with_reducible exact spec_l21Checks.mono _ _ _)
   | (with_reducible exact spec_l21Wear.mono _ _ _ _ _ _ _)
   | (with_reducible exact LeO.refl _)
   | (with_reducible exact LeO.none _)
   | (with_reducible refine LeO.ite ?_ ?_)
   | (with_reducible refine LeO.bind ?_ (fun _ => ?_))
   | exact ih0 _ _ _ _ _
   | exact spec_l21Checks.mono _ _ _
   | exact spec_l21Wear.mono _ _ _ _ _ _ _
   | exact LeO.none _
   | refine LeO.ite ?_ ?_
   | refine LeO.bind ?_ (fun _ => ?_)
theorem spec_WornOn.mono : ∀ a0 a1 a2 k, LeO (spec_WornOn.f k a0 a1 a2) (spec_WornOn.f (k + 1) a0 a1 a2) := by
 intro a0 a1 a2 k
 have ih0 := spec_WornOn.mono_l k
 unfold spec_WornOn.f
 repeat' first
   | (with_reducible exact ih0 _ _ _ _ _)
   | (with_reducible exact spec_l21Checks.mono _ _ _)
   | (with_reducible exact spec_l21Wear.mono _ _ _ _ _ _ _)
   | (with_reducible exact LeO.refl _)
   | (with_reducible exact LeO.none _)
   | (with_reducible refine LeO.ite ?_ ?_)
   | (with_reducible refine LeO.bind ?_ (fun _ => ?_))
   | exact ih0 _ _ _ _ _
   | exact spec_l21Checks.mono _ _ _
   | exact spec_l21Wear.mono _ _ _ _ _ _ _
   | exact LeO.none _
   | refine LeO.ite ?_ ?_
   | refine LeO.bind ?_ (fun _ => ?_)
def spec_WornOn.T9 : Bool × List (List Nat × List Nat) := (true, [([], []), ([], []), ([0, 1], [0, 1]), ([], []), ([], []), ([2, 3, 4], [2, 3, 4]), ([], []), ([], []), ([6, 7], [6, 7]), ([8], [8]), ([9], [9]), ([5, 10], [5, 10])])
def spec_WornOn.B9 : List Nat := [0, 0, 3, 0, 0, 31, 0, 0, 192, 448, 960, 2047]
theorem spec_WornOn.tab9 : rtab .any (opsOf Try.f53 9) = spec_WornOn.T9 := by kernel_rfl
theorem spec_WornOn.bits9 : waitsOk spec_WornOn.T9.2 spec_WornOn.B9 = true := by kernel_rfl
set_option maxHeartbeats 8000000 in
set_option maxRecDepth 100000 in
theorem spec_WornOn.calls (k : Nat) (A0 : Option Addr) (c0 : Nat) (l0 : List (S73)) (A1 : Option Addr) (c1 : Nat) (l1 : List (S53)) (a2 : Int) (r1 : List ByteArray) (r2 : Int) (w : World) (hr0 : Kd.C k73 w A0 l0.length l0) (hc0 : l0.length ≤ c0) (hr1 : Kd.C k53 w A1 l1.length l1) (hc1 : l1.length ≤ c1) (h : spec_WornOn.f k l0 l1 a2 = some (r1, r2)) :
  Calls Try.prog 53 #[.slice A0 l0.length c0, .slice A1 l1.length c1, .int .i64 a2] w fun e w' => ∃ v0_ : Value, e = .returned (.tuple #[v0_, .int .i64 r2]) ∧ Kd.R Kd.string 9 w' w.heap.size (fun _ => True) v0_ r1 ∧ Below w.heap.size w w' := by
 have HR0 := Aside0.mk hr0
 have HC0 := Aside0.mk hc0
 clear hr0 hc0
 have HR1 := Aside0.mk hr1
 have HC1 := Aside0.mk hc1
 clear hr1 hc1
 have HB := Aside0.mk (Below.refl w.heap.size w)
 have H : ((spec_l21Checks.f k l0 l1).bind fun t889 => (if t889 = true then ((spec_l21Day.f a2).bind fun t890 => (if t890 = true then (spec_WornOn.l0 k l0 l1 a2 (([] : List ByteArray)) 0) else (some (([] : List ByteArray), 2)))) else (some (([] : List ByteArray), 1)))) = some (r1, r2) := h
 clear h
 replace H := Option.bind_eq_some_iff.mp H
 obtain ⟨t889, A40, H⟩ := H
 replace H : (if t889 = true then ((spec_l21Day.f a2).bind fun t890 => (if t890 = true then (spec_WornOn.l0 k l0 l1 a2 (([] : List ByteArray)) 0) else (some (([] : List ByteArray), 2)))) else (some (([] : List ByteArray), 1))) = some (r1, r2) := H
 have A4 := Aside0.mk A40
 clear A40
 by_cases c5 : t889 = true
 ·subst c5
  have H1 : ((spec_l21Day.f a2).bind fun t890 => (if t890 = true then (spec_WornOn.l0 k l0 l1 a2 (([] : List ByteArray)) 0) else (some (([] : List ByteArray), 2)))) = some (r1, r2) := by rw [if_pos rfl] at H; exact H
  clear H
  have H := H1
  clear H1
  replace H := Option.bind_eq_some_iff.mp H
  obtain ⟨t890, A60, H⟩ := H
  replace H : (if t890 = true then (spec_WornOn.l0 k l0 l1 a2 (([] : List ByteArray)) 0) else (some (([] : List ByteArray), 2))) = some (r1, r2) := H
  have A6 := Aside0.mk A60
  clear A60
  by_cases c7 : t890 = true
  ·subst c7
   have H1 : (spec_WornOn.l0 k l0 l1 a2 (([] : List ByteArray)) 0) = some (r1, r2) := by rw [if_pos rfl] at H; exact H
   clear H
   have H := H1
   clear H1
   obtain ⟨y891, hy891⟩ : ∃ y_ : List ByteArray, y_ = (([] : List ByteArray)) := ⟨_, rfl⟩
   replace H : (spec_WornOn.l0 k l0 l1 a2 y891 0) = some (r1, r2) := by first | (rw [hy891]; with_reducible exact H) | (have H2_ := (Option.bind_some _ _).symm.trans H; rw [hy891]; with_reducible exact H2_) | (have H2_ := (Option.bind_some _ _).symm.trans H; with_reducible exact H2_) | with_reducible exact H | (rw [hy891]; exact H) | exact H
   have Ny891 := Aside0.mk hy891
   clear hy891
   have H' := Aside0.mk H
   clear H
   go_enter Try.func53, Try.ntmps53
   go_wp2_with (first | ((with_reducible refine gate_callee (f := 63) rfl ?_); refine goesL_ (some 12) rfl rfl Try.func63 (by kernel_rfl) rfl #[.slice A0 l0.length c0, .slice A1 l1.length c1] rfl ln_ ?_; (with_reducible refine (spec_l21Checks.calls k _ _ l0 _ _ l1 true _ ?side1 ?side2 ?side3 ?side4 A4.out).mono ?_); (case side1 => exact kc_ HR0.out); (case side2 => exact HC0.out); (case side3 => exact kc_ HR1.out); (case side4 => exact HC1.out); rintro e w8 ⟨rfl, hb⟩; refine ⟨_, rfl, ?_⟩; have n0_ := Aside0.mk (below_step hb_ hb); clear HB; have HB := n0_; clear n0_; (try clear hb); (try clear hb2); (try clear hk); (try clear hi)) | ((with_reducible refine gate_callee (f := 65) rfl ?_); refine goesL_ (some 15) rfl rfl Try.func65 (by kernel_rfl) rfl #[.int .i64 a2] rfl ln_ ?_; (with_reducible refine (spec_l21Day.calls a2 true _ A6.out).mono ?_); rintro e w' ⟨rfl, ⟨nd, rfl⟩⟩; refine ⟨_, rfl, ?_⟩) | ((with_reducible refine gate_dst (N := 17) rfl ?_); refine Kd.R_lit Kd.string _ 9 ?hg (N := 17) ?hd (xs := ([] : List ByteArray)) (inner := []) (ok := fun _ => True) (okp := fun _ => True) ?hr ?hp (fun _ hk => hk) trivial (Below.refl _ _) (Nat.le_refl _) (by simp) ?_; (case hd => rfl); (case hg => rfl); (case hr => first | (go_simp; done) | (go_simp; rfl)); (case hp => exact (Reps.none _ _)); intro v892 w9 ho10 hb hg_ hnew_; clear hg_ hnew_; (first | rw [← Ny891.out] at ho10 | (simp only [Int.reduceToNat] at ho10; rw [← Ny891.out] at ho10)); have n0_ := Aside0.mk (Kd.R_lower ho10 (below_size hb_)); have n1_ := Aside0.mk (below_step hb_ hb); clear HB; have HO893 := n0_; have HB := n1_; clear n0_ n1_; clear hb ho10))
   go_loopg [8, 9] k (fun kq v8 v9 w' => ∃ (x8_1 : List ByteArray) (x9_1 : Int), v9 = .int .i64 x9_1 ∧ Aside0 (spec_WornOn.l0 kq l0 l1 a2 x8_1 x9_1 = some (r1, r2)) ∧ Aside0 (kq ≤ k) ∧ Aside0 (Kd.R Kd.string 9 w' w.heap.size (fun _ => True) v8 x8_1) ∧ Aside0 (Below w.heap.size w w'))
   case atStart => exact ⟨(y891), (0), (by first | rfl | (simp; done) | (simp [*]; done)), H', ⟨Nat.le_refl _⟩, ⟨by (with_reducible repeat (first | apply Kd.R_alloc | apply Kd.R_drewN | apply Kd.R_drew)); exact HO893.out⟩, ⟨hb_⟩⟩
   case round =>
    clear H'
    try clear c1
    try clear p2
    try clear c5
    try clear c6
    try clear c7
    obtain ⟨x8_1, x9_1, rfl, HA, HK1, HO_8, HB⟩ := hrel
    cases gk with
    | zero => exact absurd HA.out (by simp [spec_WornOn.l0])
    | succ k1 =>
     have H := HA.out
     clear HA
     simp only [spec_WornOn.l0] at H
     by_cases c11 : x9_1 < (l0.length : Int)
     ·rw [if_pos c11] at H
      have c11b0 : decide (x9_1 < (l0.length : Int)) = true := decide_eq_true c11
      clear c11
      by_cases c12 : 0 ≤ x9_1
      ·rw [if_pos c12] at H
       have c12b0 : decide (0 ≤ x9_1) = true := decide_eq_true c12
       clear c12
       replace H := Option.bind_eq_some_iff.mp H
       obtain ⟨t895, A130, H⟩ := H
       replace H : (if t895 > ((rd_T73 l0 x9_1).f3) then (if x8_1.length < 8796093022208 then (spec_WornOn.l0 k1 l0 l1 a2 (x8_1 ++ [(rd_T73 l0 x9_1).f0]) (wrap64 (x9_1 + 1))) else (none)) else (spec_WornOn.l0 k1 l0 l1 a2 x8_1 (wrap64 (x9_1 + 1)))) = some (r1, r2) := H
       have A13 := Aside0.mk A130
       clear A130
       by_cases c14 : t895 > ((rd_T73 l0 x9_1).f3)
       ·rw [if_pos c14] at H
        have c14b0 : decide (((rd_T73 l0 x9_1).f3) < t895) = true := decide_eq_true c14
        clear c14
        by_cases c15 : x8_1.length < 8796093022208
        ·rw [if_pos c15] at H
         have LMc15 := Aside0.mk c15
         clear c15
         obtain ⟨y898, hy898⟩ : ∃ y_ : List ByteArray, y_ = (x8_1 ++ [(rd_T73 l0 x9_1).f0]) := ⟨_, rfl⟩
         replace H : (spec_WornOn.l0 k1 l0 l1 a2 y898 (wrap64 (x9_1 + 1))) = some (r1, r2) := by first | (rw [hy898]; with_reducible exact H) | (have H2_ := (Option.bind_some _ _).symm.trans H; rw [hy898]; with_reducible exact H2_) | (have H2_ := (Option.bind_some _ _).symm.trans H; with_reducible exact H2_) | with_reducible exact H | (rw [hy898]; exact H) | exact H
         have Ny898 := Aside0.mk hy898
         clear hy898
         have H' := Aside0.mk H
         clear H
         try go_wp2
         have n0_ := Aside0.mk (Kd.R_drew HO_8.out)
         have n1_ := Aside0.mk (below_drew1 HB.out)
         clear HO_8
         clear HB
         have HO_8 := n0_
         have HB := n1_
         clear n0_ n1_
         have p894 : 0 ≤ (x9_1 : Int) := od_
         have q894 : x9_1 < (l0.length : Int) := od_
         obtain ⟨ad894, e894, hx894_0, hx894_1, hx894_2, hx894_3⟩ := at_T73 HR0.out x9_1 p894 q894
         have hw894_3 := hx894_3
         have hw894_2 := hx894_2
         have hw894_1 := hx894_1
         have hw894_0 := hx894_0
         cases e894
         replace hx894_0 := cq_ HB hx894_0
         replace hx894_1 := cq_ HB hx894_1
         replace hx894_2 := cq_ HB hx894_2
         replace hx894_3 := cq_ HB hx894_3
         replace p894 := eq_true p894
         replace q894 := eq_true q894
         have p896 : 0 ≤ (x9_1 : Int) := od_
         have q896 : x9_1 < (l0.length : Int) := od_
         obtain ⟨ad896, e896, hx896_0, hx896_1, hx896_2, hx896_3⟩ := at_T73 HR0.out x9_1 p896 q896
         have hw896_3 := hx896_3
         have hw896_2 := hx896_2
         have hw896_1 := hx896_1
         have hw896_0 := hx896_0
         obtain rfl : ad894 = ad896 := (by injection e896)
         replace hx896_0 := cq_ HB hx896_0
         replace hx896_1 := cq_ HB hx896_1
         replace hx896_2 := cq_ HB hx896_2
         replace hx896_3 := cq_ HB hx896_3
         replace p896 := eq_true p896
         replace q896 := eq_true q896
         refine start_ (n := 12) (S := fun w' => w'.cell? (ad894.add ((x9_1).toNat * 4)) = some (.string ((rd_T73 l0 x9_1).f0)) ∧ w'.cell? ⟨(ad894.add ((x9_1).toNat * 4)).block, (ad894.add ((x9_1).toNat * 4)).off + 1, none⟩ = some (.int .i64 ((rd_T73 l0 x9_1).f1)) ∧ w'.cell? ⟨(ad894.add ((x9_1).toNat * 4)).block, (ad894.add ((x9_1).toNat * 4)).off + 2, none⟩ = some (.int .i64 ((rd_T73 l0 x9_1).f2)) ∧ w'.cell? ⟨(ad894.add ((x9_1).toNat * 4)).block, (ad894.add ((x9_1).toNat * 4)).off + 3, none⟩ = some (.int .i64 ((rd_T73 l0 x9_1).f3)) ∧ w'.cell? (ad894.add ((x9_1).toNat * 4)) = some (.string ((rd_T73 l0 x9_1).f0)) ∧ w'.cell? ⟨(ad894.add ((x9_1).toNat * 4)).block, (ad894.add ((x9_1).toNat * 4)).off + 1, none⟩ = some (.int .i64 ((rd_T73 l0 x9_1).f1)) ∧ w'.cell? ⟨(ad894.add ((x9_1).toNat * 4)).block, (ad894.add ((x9_1).toNat * 4)).off + 2, none⟩ = some (.int .i64 ((rd_T73 l0 x9_1).f2)) ∧ w'.cell? ⟨(ad894.add ((x9_1).toNat * 4)).block, (ad894.add ((x9_1).toNat * 4)).off + 3, none⟩ = some (.int .i64 ((rd_T73 l0 x9_1).f3))) (ds := []) #[F_,F_,F_,F_,F_,F_,F_,F_,F_,F_,F_,F_] (by kernel_rfl) rfl rfl ⟨((HB.out.cell (World.block_lt_of_cell? w _ hw894_0)).trans hw894_0), ((HB.out.cell (World.block_lt_of_cell? w _ hw894_1)).trans hw894_1), ((HB.out.cell (World.block_lt_of_cell? w _ hw894_2)).trans hw894_2), ((HB.out.cell (World.block_lt_of_cell? w _ hw894_3)).trans hw894_3), ((HB.out.cell (World.block_lt_of_cell? w _ hw896_0)).trans hw896_0), ((HB.out.cell (World.block_lt_of_cell? w _ hw896_1)).trans hw896_1), ((HB.out.cell (World.block_lt_of_cell? w _ hw896_2)).trans hw896_2), ((HB.out.cell (World.block_lt_of_cell? w _ hw896_3)).trans hw896_3)⟩ (fun hHeld => ?_); refine with_tabW spec_WornOn.tab9 spec_WornOn.bits9 (fun HT_ HW_ => ?_)
         generalize wr.drew = w16 at HO_8 HB hx894_0 hx894_1 hx894_2 hx894_3 hx896_0 hx896_1 hx896_2 hx896_3 hHeld ⊢
         refine pu (i := 0) (N := some 24) #[T_,F_,F_,F_,F_,F_,F_,F_,F_,F_,F_,F_] HT_ ?_
         refine pu (i := 1) (N := some 25) #[T_,T_,F_,F_,F_,F_,F_,F_,F_,F_,F_,F_] HT_ ?_
         refine pu (i := 2) (N := some 26) #[T_,T_,T_,F_,F_,F_,F_,F_,F_,F_,F_,F_] HT_ ?_
         refine pu (i := 3) (N := some 27) #[T_,T_,T_,T_,F_,F_,F_,F_,F_,F_,F_,F_] HT_ ?_
         refine pu (i := 4) (N := some 28) #[T_,T_,T_,T_,T_,F_,F_,F_,F_,F_,F_,F_] HT_ ?_
         refine pu (i := 6) (N := some 30) #[T_,T_,T_,T_,T_,F_,T_,F_,F_,F_,F_,F_] HT_ ?_
         refine pu (i := 7) (N := some 31) #[T_,T_,T_,T_,T_,F_,T_,T_,F_,F_,F_,F_] HT_ ?_
         refine pu (i := 8) (N := some 32) #[T_,T_,T_,T_,T_,F_,T_,T_,T_,F_,F_,F_] HT_ ?_
         refine pu (i := 9) (N := some 33) #[T_,T_,T_,T_,T_,F_,T_,T_,T_,T_,F_,F_] HT_ ?_
         refine take_ (i := 10) (N := some 34) (v := ?_) (a' := ?_) #[T_,T_,T_,T_,T_,F_,T_,T_,T_,T_,T_,F_] rfl rfl (take_ofW HT_.out HW_.out (by kernel_rfl)) (fun _ _ _ h => h) (Or.inl ⟨by rfl, ?_⟩) hHeld ?_ ?_
         rotate_left
         ·rintro w' ⟨s0, s1, s2, s3, s4, s5, s6, s7⟩
          go_simp
          with_reducible rfl
         rotate_left
         ·simp only [Act.put, sT_, s0_, sS_, i64_w, i32_w]
          rfl
         refine one_ (i := 5) (N := some 29) #[T_,T_,T_,T_,T_,T_,T_,T_,T_,T_,T_,F_] rfl rfl (one_of HT_.out (by kernel_rfl)) (by decide) (fun K hK => ?_)
         refine goes_ Try.func70 (by kernel_rfl) rfl #[.pointer (some (ad894.add ((x9_1).toNat * 4))), .slice A1 l1.length c1, .int .i64 a2] (by rfl) rfl rfl ln_ ?_
         with_reducible refine (spec_l21Wear.calls k1 _ ((rd_T73 l0 x9_1).f0) ((rd_T73 l0 x9_1).f1) ((rd_T73 l0 x9_1).f2) ((rd_T73 l0 x9_1).f3) _ _ l1 a2 t895 _ ?side1 ?side2 ?side3 ?side4 ?side5 ?side6 A13.out).mono ?_
         (case side1 => exact kc_ (Kd.C_below HR1.out HB.out))
         (case side2 => exact HC1.out)
         (case side3 => first | exact hx894_0 | (simpa using hx894_0) | (go_simp; done))
         (case side4 => first | exact hx894_1 | (simpa using hx894_1) | (go_simp; done))
         (case side5 => first | exact hx894_2 | (simpa using hx894_2) | (go_simp; done))
         (case side6 => first | exact hx894_3 | (simpa using hx894_3) | (go_simp; done))
         rintro e w17 ⟨rfl, hb⟩
         refine ⟨_, rfl, ?_⟩
         have n0_ := Aside0.mk (Kd.R_below (kr_ HO_8) hb)
         have n1_ := Aside0.mk (below_step hb_ hb)
         clear HO_8
         clear HB
         have HO_8 := n0_
         have HB := n1_
         clear n0_ n1_
         (try clear hb)
         (try clear hb2)
         (try clear hk)
         (try clear hi)
         refine hK.out _ _ ⟨((HB.out.cell (World.block_lt_of_cell? w _ hw894_0)).trans hw894_0), ((HB.out.cell (World.block_lt_of_cell? w _ hw894_1)).trans hw894_1), ((HB.out.cell (World.block_lt_of_cell? w _ hw894_2)).trans hw894_2), ((HB.out.cell (World.block_lt_of_cell? w _ hw894_3)).trans hw894_3), ((HB.out.cell (World.block_lt_of_cell? w _ hw896_0)).trans hw896_0), ((HB.out.cell (World.block_lt_of_cell? w _ hw896_1)).trans hw896_1), ((HB.out.cell (World.block_lt_of_cell? w _ hw896_2)).trans hw896_2), ((HB.out.cell (World.block_lt_of_cell? w _ hw896_3)).trans hw896_3)⟩ (fun hHeld => ?_)
         clear hK K
         refine norm_ (a' := ?_) ?_ ?_
         rotate_left
         ·show Act.put _ (some 29) _ = _
          simp only [Act.put, sT_, s0_, sS_, i64_w, i32_w]
          rfl
         refine pu (i := 11) (N := some 35) #[T_,T_,T_,T_,T_,T_,T_,T_,T_,T_,T_,T_] HT_ ?_
         refine done_ (done_of HT_.out (by kernel_rfl)) ?_
         have p897 : 0 ≤ (x9_1 : Int) := od_
         have q897 : x9_1 < (l0.length : Int) := od_
         obtain ⟨ad897, e897, hx897_0, hx897_1, hx897_2, hx897_3⟩ := at_T73 HR0.out x9_1 p897 q897
         obtain rfl : ad894 = ad897 := (by injection e897)
         replace hx897_0 := cq_ HB hx897_0
         replace hx897_1 := cq_ HB hx897_1
         replace hx897_2 := cq_ HB hx897_2
         replace hx897_3 := cq_ HB hx897_3
         replace p897 := eq_true p897
         replace q897 := eq_true q897
         try go_wp2_with (first | ((with_reducible refine gate_builtin (b := .append) (xs := #[.tmp 36, .tmp 42]) rfl ?_); at_builtin; refine Kd.R_append Kd.string (w0 := w) w.heap.size rfl (.tmp 36) (.tmp 42) 57 9 (.string ⟨#[]⟩) 16 rfl Try.underlying57 info9 rfl (by decide) (by omega) u8 x8_1 ((rd_T73 l0 x9_1).f0) [.string ((rd_T73 l0 x9_1).f0)] (fun _ => True) (fun _ => False) rfl rfl ?aP (fun _ hk => hk.elim) ?aF ?aO ?aB ?aS ?aL ?_; (case aP => exact rfl); (case aB => exact hb_); (case aF => exact (fun _ _ => trivial)); (case aO => exact (kr_ HO_8)); (case aS => exact (below_size hb_)); (case aL => have := LMc15.out; omega); intro v899 w18 ho hb hg hat; rw [← Ny898.out] at ho; have n0_ := Aside0.mk (hb); have n1_ := Aside0.mk (ho); clear HB; clear HO_8; have HB := n0_; have HO900 := n1_; clear n0_ n1_; clear ho hb hg hat))
         go_roundg k1
         case measure => have := HK1.out; omega
         case rel => exact ⟨(y898), (wrap64 (x9_1 + 1)), (by first | rfl | (simp; done) | (simp [*]; done)), H', ⟨by have := HK1.out; omega⟩, ⟨by (with_reducible repeat (first | apply Kd.R_alloc | apply Kd.R_drewN | apply Kd.R_drew)); exact HO900.out⟩, ⟨hb_⟩⟩
        ·rw [if_neg c15] at H
         exact absurd H (by simp)
       ·rw [if_neg c14] at H
        have c14b0 : decide (((rd_T73 l0 x9_1).f3) < t895) = false := decide_eq_false c14
        clear c14
        have H' := Aside0.mk H
        clear H
        try go_wp2
        have n0_ := Aside0.mk (Kd.R_drew HO_8.out)
        have n1_ := Aside0.mk (below_drew1 HB.out)
        clear HO_8
        clear HB
        have HO_8 := n0_
        have HB := n1_
        clear n0_ n1_
        have p894 : 0 ≤ (x9_1 : Int) := od_
        have q894 : x9_1 < (l0.length : Int) := od_
        obtain ⟨ad894, e894, hx894_0, hx894_1, hx894_2, hx894_3⟩ := at_T73 HR0.out x9_1 p894 q894
        have hw894_3 := hx894_3
        have hw894_2 := hx894_2
        have hw894_1 := hx894_1
        have hw894_0 := hx894_0
        cases e894
        replace hx894_0 := cq_ HB hx894_0
        replace hx894_1 := cq_ HB hx894_1
        replace hx894_2 := cq_ HB hx894_2
        replace hx894_3 := cq_ HB hx894_3
        replace p894 := eq_true p894
        replace q894 := eq_true q894
        have p896 : 0 ≤ (x9_1 : Int) := od_
        have q896 : x9_1 < (l0.length : Int) := od_
        obtain ⟨ad896, e896, hx896_0, hx896_1, hx896_2, hx896_3⟩ := at_T73 HR0.out x9_1 p896 q896
        have hw896_3 := hx896_3
        have hw896_2 := hx896_2
        have hw896_1 := hx896_1
        have hw896_0 := hx896_0
        obtain rfl : ad894 = ad896 := (by injection e896)
        replace hx896_0 := cq_ HB hx896_0
        replace hx896_1 := cq_ HB hx896_1
        replace hx896_2 := cq_ HB hx896_2
        replace hx896_3 := cq_ HB hx896_3
        replace p896 := eq_true p896
        replace q896 := eq_true q896
        refine start_ (n := 12) (S := fun w' => w'.cell? (ad894.add ((x9_1).toNat * 4)) = some (.string ((rd_T73 l0 x9_1).f0)) ∧ w'.cell? ⟨(ad894.add ((x9_1).toNat * 4)).block, (ad894.add ((x9_1).toNat * 4)).off + 1, none⟩ = some (.int .i64 ((rd_T73 l0 x9_1).f1)) ∧ w'.cell? ⟨(ad894.add ((x9_1).toNat * 4)).block, (ad894.add ((x9_1).toNat * 4)).off + 2, none⟩ = some (.int .i64 ((rd_T73 l0 x9_1).f2)) ∧ w'.cell? ⟨(ad894.add ((x9_1).toNat * 4)).block, (ad894.add ((x9_1).toNat * 4)).off + 3, none⟩ = some (.int .i64 ((rd_T73 l0 x9_1).f3)) ∧ w'.cell? (ad894.add ((x9_1).toNat * 4)) = some (.string ((rd_T73 l0 x9_1).f0)) ∧ w'.cell? ⟨(ad894.add ((x9_1).toNat * 4)).block, (ad894.add ((x9_1).toNat * 4)).off + 1, none⟩ = some (.int .i64 ((rd_T73 l0 x9_1).f1)) ∧ w'.cell? ⟨(ad894.add ((x9_1).toNat * 4)).block, (ad894.add ((x9_1).toNat * 4)).off + 2, none⟩ = some (.int .i64 ((rd_T73 l0 x9_1).f2)) ∧ w'.cell? ⟨(ad894.add ((x9_1).toNat * 4)).block, (ad894.add ((x9_1).toNat * 4)).off + 3, none⟩ = some (.int .i64 ((rd_T73 l0 x9_1).f3))) (ds := []) #[F_,F_,F_,F_,F_,F_,F_,F_,F_,F_,F_,F_] (by kernel_rfl) rfl rfl ⟨((HB.out.cell (World.block_lt_of_cell? w _ hw894_0)).trans hw894_0), ((HB.out.cell (World.block_lt_of_cell? w _ hw894_1)).trans hw894_1), ((HB.out.cell (World.block_lt_of_cell? w _ hw894_2)).trans hw894_2), ((HB.out.cell (World.block_lt_of_cell? w _ hw894_3)).trans hw894_3), ((HB.out.cell (World.block_lt_of_cell? w _ hw896_0)).trans hw896_0), ((HB.out.cell (World.block_lt_of_cell? w _ hw896_1)).trans hw896_1), ((HB.out.cell (World.block_lt_of_cell? w _ hw896_2)).trans hw896_2), ((HB.out.cell (World.block_lt_of_cell? w _ hw896_3)).trans hw896_3)⟩ (fun hHeld => ?_); refine with_tabW spec_WornOn.tab9 spec_WornOn.bits9 (fun HT_ HW_ => ?_)
        generalize wr.drew = w19 at HO_8 HB hx894_0 hx894_1 hx894_2 hx894_3 hx896_0 hx896_1 hx896_2 hx896_3 hHeld ⊢
        refine pu (i := 0) (N := some 24) #[T_,F_,F_,F_,F_,F_,F_,F_,F_,F_,F_,F_] HT_ ?_
        refine pu (i := 1) (N := some 25) #[T_,T_,F_,F_,F_,F_,F_,F_,F_,F_,F_,F_] HT_ ?_
        refine pu (i := 2) (N := some 26) #[T_,T_,T_,F_,F_,F_,F_,F_,F_,F_,F_,F_] HT_ ?_
        refine pu (i := 3) (N := some 27) #[T_,T_,T_,T_,F_,F_,F_,F_,F_,F_,F_,F_] HT_ ?_
        refine pu (i := 4) (N := some 28) #[T_,T_,T_,T_,T_,F_,F_,F_,F_,F_,F_,F_] HT_ ?_
        refine pu (i := 6) (N := some 30) #[T_,T_,T_,T_,T_,F_,T_,F_,F_,F_,F_,F_] HT_ ?_
        refine pu (i := 7) (N := some 31) #[T_,T_,T_,T_,T_,F_,T_,T_,F_,F_,F_,F_] HT_ ?_
        refine pu (i := 8) (N := some 32) #[T_,T_,T_,T_,T_,F_,T_,T_,T_,F_,F_,F_] HT_ ?_
        refine pu (i := 9) (N := some 33) #[T_,T_,T_,T_,T_,F_,T_,T_,T_,T_,F_,F_] HT_ ?_
        refine take_ (i := 10) (N := some 34) (v := ?_) (a' := ?_) #[T_,T_,T_,T_,T_,F_,T_,T_,T_,T_,T_,F_] rfl rfl (take_ofW HT_.out HW_.out (by kernel_rfl)) (fun _ _ _ h => h) (Or.inl ⟨by rfl, ?_⟩) hHeld ?_ ?_
        rotate_left
        ·rintro w' ⟨s0, s1, s2, s3, s4, s5, s6, s7⟩
         go_simp
         with_reducible rfl
        rotate_left
        ·simp only [Act.put, sT_, s0_, sS_, i64_w, i32_w]
         rfl
        refine one_ (i := 5) (N := some 29) #[T_,T_,T_,T_,T_,T_,T_,T_,T_,T_,T_,F_] rfl rfl (one_of HT_.out (by kernel_rfl)) (by decide) (fun K hK => ?_)
        refine goes_ Try.func70 (by kernel_rfl) rfl #[.pointer (some (ad894.add ((x9_1).toNat * 4))), .slice A1 l1.length c1, .int .i64 a2] (by rfl) rfl rfl ln_ ?_
        with_reducible refine (spec_l21Wear.calls k1 _ ((rd_T73 l0 x9_1).f0) ((rd_T73 l0 x9_1).f1) ((rd_T73 l0 x9_1).f2) ((rd_T73 l0 x9_1).f3) _ _ l1 a2 t895 _ ?side1 ?side2 ?side3 ?side4 ?side5 ?side6 A13.out).mono ?_
        (case side1 => exact kc_ (Kd.C_below HR1.out HB.out))
        (case side2 => exact HC1.out)
        (case side3 => first | exact hx894_0 | (simpa using hx894_0) | (go_simp; done))
        (case side4 => first | exact hx894_1 | (simpa using hx894_1) | (go_simp; done))
        (case side5 => first | exact hx894_2 | (simpa using hx894_2) | (go_simp; done))
        (case side6 => first | exact hx894_3 | (simpa using hx894_3) | (go_simp; done))
        rintro e w20 ⟨rfl, hb⟩
        refine ⟨_, rfl, ?_⟩
        have n0_ := Aside0.mk (Kd.R_below (kr_ HO_8) hb)
        have n1_ := Aside0.mk (below_step hb_ hb)
        clear HO_8
        clear HB
        have HO_8 := n0_
        have HB := n1_
        clear n0_ n1_
        (try clear hb)
        (try clear hb2)
        (try clear hk)
        (try clear hi)
        refine hK.out _ _ ⟨((HB.out.cell (World.block_lt_of_cell? w _ hw894_0)).trans hw894_0), ((HB.out.cell (World.block_lt_of_cell? w _ hw894_1)).trans hw894_1), ((HB.out.cell (World.block_lt_of_cell? w _ hw894_2)).trans hw894_2), ((HB.out.cell (World.block_lt_of_cell? w _ hw894_3)).trans hw894_3), ((HB.out.cell (World.block_lt_of_cell? w _ hw896_0)).trans hw896_0), ((HB.out.cell (World.block_lt_of_cell? w _ hw896_1)).trans hw896_1), ((HB.out.cell (World.block_lt_of_cell? w _ hw896_2)).trans hw896_2), ((HB.out.cell (World.block_lt_of_cell? w _ hw896_3)).trans hw896_3)⟩ (fun hHeld => ?_)
        clear hK K
        refine norm_ (a' := ?_) ?_ ?_
        rotate_left
        ·show Act.put _ (some 29) _ = _
         simp only [Act.put, sT_, s0_, sS_, i64_w, i32_w]
         rfl
        refine pu (i := 11) (N := some 35) #[T_,T_,T_,T_,T_,T_,T_,T_,T_,T_,T_,T_] HT_ ?_
        refine done_ (done_of HT_.out (by kernel_rfl)) ?_
        try go_wp2
        go_roundg k1
        case measure => have := HK1.out; omega
        case rel => exact ⟨(x8_1), (wrap64 (x9_1 + 1)), (by first | rfl | (simp; done) | (simp [*]; done)), H', ⟨by have := HK1.out; omega⟩, ⟨by (with_reducible repeat (first | apply Kd.R_alloc | apply Kd.R_drewN | apply Kd.R_drew)); exact HO_8.out⟩, ⟨hb_⟩⟩
      ·rw [if_neg c12] at H
       exact absurd H (by simp)
     ·rw [if_neg c11] at H
      have c11b0 : decide (x9_1 < (l0.length : Int)) = false := decide_eq_false c11
      clear c11
      simp only [Option.some.injEq, Prod.mk.injEq] at H
      obtain ⟨rfl, rfl⟩ := H
      go_wp2
      go_ret2
      exact ⟨_, ew_, by (with_reducible repeat (first | apply Kd.R_alloc | apply Kd.R_drewN | apply Kd.R_drew)); exact HO_8.out, hb_⟩
  ·replace c7 := Bool.eq_false_iff.mpr c7
   subst c7
   have H1 : (some (([] : List ByteArray), 2)) = some (r1, r2) := by rw [if_neg (show ¬ (false = true) by decide)] at H; exact H
   clear H
   have H := H1
   clear H1
   simp only [Option.some.injEq, Prod.mk.injEq] at H
   obtain ⟨rfl, rfl⟩ := H
   go_enter Try.func53, Try.ntmps53
   go_wp2_with (first | ((with_reducible refine gate_callee (f := 63) rfl ?_); refine goesL_ (some 12) rfl rfl Try.func63 (by kernel_rfl) rfl #[.slice A0 l0.length c0, .slice A1 l1.length c1] rfl ln_ ?_; (with_reducible refine (spec_l21Checks.calls k _ _ l0 _ _ l1 true _ ?side1 ?side2 ?side3 ?side4 A4.out).mono ?_); (case side1 => exact kc_ HR0.out); (case side2 => exact HC0.out); (case side3 => exact kc_ HR1.out); (case side4 => exact HC1.out); rintro e w21 ⟨rfl, hb⟩; refine ⟨_, rfl, ?_⟩; have n0_ := Aside0.mk (below_step hb_ hb); clear HB; have HB := n0_; clear n0_; (try clear hb); (try clear hb2); (try clear hk); (try clear hi)) | ((with_reducible refine gate_callee (f := 65) rfl ?_); refine goesL_ (some 15) rfl rfl Try.func65 (by kernel_rfl) rfl #[.int .i64 a2] rfl ln_ ?_; (with_reducible refine (spec_l21Day.calls a2 false _ A6.out).mono ?_); rintro e w' ⟨rfl, ⟨nd, rfl⟩⟩; refine ⟨_, rfl, ?_⟩))
   go_ret2
   exact ⟨_, ew_, by first | exact Kd.R_nil _ _ _ _ _ | exact Kd.N_nil _ _ _ _ _ | exact Kd.V_nil _ _ _ _ _ | exact Kd.Q_nil _ _ _ _ _ | exact Kd.S_nil _ _ _ _ _, hb_⟩
 ·replace c5 := Bool.eq_false_iff.mpr c5
  subst c5
  have H1 : (some (([] : List ByteArray), 1)) = some (r1, r2) := by rw [if_neg (show ¬ (false = true) by decide)] at H; exact H
  clear H
  have H := H1
  clear H1
  simp only [Option.some.injEq, Prod.mk.injEq] at H
  obtain ⟨rfl, rfl⟩ := H
  go_enter Try.func53, Try.ntmps53
  go_wp2_with (first | ((with_reducible refine gate_callee (f := 63) rfl ?_); refine goesL_ (some 12) rfl rfl Try.func63 (by kernel_rfl) rfl #[.slice A0 l0.length c0, .slice A1 l1.length c1] rfl ln_ ?_; (with_reducible refine (spec_l21Checks.calls k _ _ l0 _ _ l1 false _ ?side1 ?side2 ?side3 ?side4 A4.out).mono ?_); (case side1 => exact kc_ HR0.out); (case side2 => exact HC0.out); (case side3 => exact kc_ HR1.out); (case side4 => exact HC1.out); rintro e w22 ⟨rfl, hb⟩; refine ⟨_, rfl, ?_⟩; have n0_ := Aside0.mk (below_step hb_ hb); clear HB; have HB := n0_; clear n0_; (try clear hb); (try clear hb2); (try clear hk); (try clear hi)))
  go_ret2
  exact ⟨_, ew_, by first | exact Kd.R_nil _ _ _ _ _ | exact Kd.N_nil _ _ _ _ _ | exact Kd.V_nil _ _ _ _ _ | exact Kd.Q_nil _ _ _ _ _ | exact Kd.S_nil _ _ _ _ _, hb_⟩

/-! ### impl_WornOn: function 54 -/
def impl_WornOn.l0 : Nat → List (S53) → Int → List ByteArray → List (S73) → Int → Int → Option (List ByteArray × Int)
 | 0, _, _, _, _, _, _ => none
 | k + 1, x1, x2, x9, x20, x21, x22 => if x22 < x21 then (if 0 ≤ x22 then (if x22 < (x20.length : Int) then ((impl_wearOn.f k ((rd_T73 x20 x22).f0) ((rd_T73 x20 x22).f1) ((rd_T73 x20 x22).f2) ((rd_T73 x20 x22).f3) x1 x2).bind fun t907 => (if t907 > ((rd_T73 x20 x22).f3) then (if x9.length < 8796093022208 then (impl_WornOn.l0 k x1 x2 (x9 ++ [(rd_T73 x20 x22).f0]) x20 x21 (wrap64 (x22 + 1))) else (none)) else (impl_WornOn.l0 k x1 x2 x9 x20 x21 (wrap64 (x22 + 1))))) else (none)) else (none)) else (some (x9, 0))
def impl_WornOn.f (k : Nat) (l0 : List (S73)) (l1 : List (S53)) (a2 : Int) : Option (List ByteArray × Int) := (impl_gearCode.f k l0 l1 a2).bind fun t901 => (if t901 = 0 then (impl_WornOn.l0 k l1 a2 (([] : List ByteArray)) l0 (l0.length : Int) 0) else (some (([] : List ByteArray), t901)))
theorem impl_WornOn.mono_l : ∀ k, (∀ y0 y1 y2 y3 y4 y5, LeO (impl_WornOn.l0 k y0 y1 y2 y3 y4 y5) (impl_WornOn.l0 (k + 1) y0 y1 y2 y3 y4 y5))
 | 0 => fun _ _ _ _ _ _ r h => by simp [impl_WornOn.l0] at h
 | k + 1 => by
  have ih0 := impl_WornOn.mono_l k
  ·intro y0 y1 y2 y3 y4 y5
   unfold impl_WornOn.l0
   repeat' first
   | (with_reducible exact ih0 _ _ _ _ _ _)
   | (with_reducible exact impl_gearCode.mono _ _ _ _)
   | (with_reducible exact impl_wearOn.mono _ _ _ _ _ _ _)
   | (with_reducible exact LeO.refl _)
   | (with_reducible exact LeO.none _)
   | (with_reducible refine LeO.ite ?_ ?_)
   | (with_reducible refine LeO.bind ?_ (fun _ => ?_))
   | exact ih0 _ _ _ _ _ _
   | exact impl_gearCode.mono _ _ _ _
   | exact impl_wearOn.mono _ _ _ _ _ _ _
   | exact LeO.none _
   | refine LeO.ite ?_ ?_
   | refine LeO.bind ?_ (fun _ => ?_)
theorem impl_WornOn.mono : ∀ a0 a1 a2 k, LeO (impl_WornOn.f k a0 a1 a2) (impl_WornOn.f (k + 1) a0 a1 a2) := by
 intro a0 a1 a2 k
 have ih0 := impl_WornOn.mono_l k
 unfold impl_WornOn.f
 repeat' first
   | (with_reducible exact ih0 _ _ _ _ _ _)
   | (with_reducible exact impl_gearCode.mono _ _ _ _)
   | (with_reducible exact impl_wearOn.mono _ _ _ _ _ _ _)
   | (with_reducible exact LeO.refl _)
   | (with_reducible exact LeO.none _)
   | (with_reducible refine LeO.ite ?_ ?_)
   | (with_reducible refine LeO.bind ?_ (fun _ => ?_))
   | exact ih0 _ _ _ _ _ _
   | exact impl_gearCode.mono _ _ _ _
   | exact impl_wearOn.mono _ _ _ _ _ _ _
   | exact LeO.none _
   | refine LeO.ite ?_ ?_
   | refine LeO.bind ?_ (fun _ => ?_)
set_option maxHeartbeats 8000000 in
set_option maxRecDepth 100000 in
theorem impl_WornOn.calls (k : Nat) (A0 : Option Addr) (c0 : Nat) (l0 : List (S73)) (A1 : Option Addr) (c1 : Nat) (l1 : List (S53)) (a2 : Int) (r1 : List ByteArray) (r2 : Int) (w : World) (hr0 : Kd.C k73 w A0 l0.length l0) (hc0 : l0.length ≤ c0) (hr1 : Kd.C k53 w A1 l1.length l1) (hc1 : l1.length ≤ c1) (h : impl_WornOn.f k l0 l1 a2 = some (r1, r2)) :
  Calls Try.prog 54 #[.slice A0 l0.length c0, .slice A1 l1.length c1, .int .i64 a2] w fun e w' => ∃ v0_ : Value, e = .returned (.tuple #[v0_, .int .i64 r2]) ∧ Kd.R Kd.string 9 w' w.heap.size (fun _ => True) v0_ r1 ∧ Below w.heap.size w w' := by
 have hu73 := Try.underlying73
 have HR0 := Aside0.mk hr0
 have HC0 := Aside0.mk hc0
 clear hr0 hc0
 have HR1 := Aside0.mk hr1
 have HC1 := Aside0.mk hc1
 clear hr1 hc1
 have HB := Aside0.mk (Below.refl w.heap.size w)
 have H : ((impl_gearCode.f k l0 l1 a2).bind fun t901 => (if t901 = 0 then (impl_WornOn.l0 k l1 a2 (([] : List ByteArray)) l0 (l0.length : Int) 0) else (some (([] : List ByteArray), t901)))) = some (r1, r2) := h
 clear h
 replace H := Option.bind_eq_some_iff.mp H
 obtain ⟨t901, A40, H⟩ := H
 replace H : (if t901 = 0 then (impl_WornOn.l0 k l1 a2 (([] : List ByteArray)) l0 (l0.length : Int) 0) else (some (([] : List ByteArray), t901))) = some (r1, r2) := H
 have A4 := Aside0.mk A40
 clear A40
 by_cases c5 : t901 = 0
 ·rw [if_pos c5] at H
  have c5b0 : (t901 == 0) = true := beq_iff_eq.mpr c5
  have c5b1 : (t901 != 0) = false := bne_eq_false_iff_eq.mpr c5
  clear c5
  obtain ⟨y902, hy902⟩ : ∃ y_ : List ByteArray, y_ = (([] : List ByteArray)) := ⟨_, rfl⟩
  replace H : (impl_WornOn.l0 k l1 a2 y902 l0 (l0.length : Int) 0) = some (r1, r2) := by first | (rw [hy902]; with_reducible exact H) | (have H2_ := (Option.bind_some _ _).symm.trans H; rw [hy902]; with_reducible exact H2_) | (have H2_ := (Option.bind_some _ _).symm.trans H; with_reducible exact H2_) | with_reducible exact H | (rw [hy902]; exact H) | exact H
  have Ny902 := Aside0.mk hy902
  clear hy902
  have H' := Aside0.mk H
  clear H
  go_enter Try.func54, Try.ntmps54
  go_wp2_with (first | ((with_reducible refine gate_callee (f := 71) rfl ?_); refine goesL_ (some 15) rfl rfl Try.func71 (by kernel_rfl) rfl #[.slice A0 l0.length c0, .slice A1 l1.length c1, .int .i64 a2] rfl ln_ ?_; (with_reducible refine (impl_gearCode.calls k _ _ l0 _ _ l1 a2 t901 _ ?side1 ?side2 ?side3 ?side4 A4.out).mono ?_); (case side1 => exact kc_ HR0.out); (case side2 => exact HC0.out); (case side3 => exact kc_ HR1.out); (case side4 => exact HC1.out); rintro e w6 ⟨rfl, hb⟩; refine ⟨_, rfl, ?_⟩; have n0_ := Aside0.mk (below_step hb_ hb); clear HB; have HB := n0_; clear n0_; (try clear hb); (try clear hb2); (try clear hk); (try clear hi)) | ((with_reducible refine gate_dst (N := 19) rfl ?_); refine Kd.R_lit Kd.string _ 9 ?hg (N := 19) ?hd (xs := ([] : List ByteArray)) (inner := []) (ok := fun _ => True) (okp := fun _ => True) ?hr ?hp (fun _ hk => hk) trivial (Below.refl _ _) (Nat.le_refl _) (by simp) ?_; (case hd => rfl); (case hg => rfl); (case hr => first | (go_simp; done) | (go_simp; rfl)); (case hp => exact (Reps.none _ _)); intro v903 w7 ho8 hb hg_ hnew_; clear hg_ hnew_; (first | rw [← Ny902.out] at ho8 | (simp only [Int.reduceToNat] at ho8; rw [← Ny902.out] at ho8)); have n0_ := Aside0.mk (Kd.R_lower ho8 (below_size hb_)); have n1_ := Aside0.mk (below_step hb_ hb); clear HB; have HO904 := n0_; have HB := n1_; clear n0_ n1_; clear hb ho8))
  go_loopg [9, 22] k (fun kq v9 v22 w' => ∃ (x9_1 : List ByteArray) (x22_1 : Int), v22 = .int .i64 x22_1 ∧ Aside0 (impl_WornOn.l0 kq l1 a2 x9_1 l0 (l0.length : Int) x22_1 = some (r1, r2)) ∧ Aside0 (kq ≤ k) ∧ Aside0 (Kd.R Kd.string 9 w' w.heap.size (fun _ => True) v9 x9_1) ∧ Aside0 (Below w.heap.size w w'))
  case atStart => exact ⟨(y902), (0), (by first | rfl | (simp; done) | (simp [*]; done)), H', ⟨Nat.le_refl _⟩, ⟨by (with_reducible repeat (first | apply Kd.R_alloc | apply Kd.R_drewN | apply Kd.R_drew)); exact HO904.out⟩, ⟨hb_⟩⟩
  case round =>
   clear H'
   try clear c1
   try clear p2
   try clear c5
   try clear c5b0
   try clear c5b1
   try clear c7
   obtain ⟨x9_1, x22_1, rfl, HA, HK1, HO_9, HB⟩ := hrel
   cases gk with
   | zero => exact absurd HA.out (by simp [impl_WornOn.l0])
   | succ k1 =>
    have H := HA.out
    clear HA
    simp only [impl_WornOn.l0] at H
    by_cases c9 : x22_1 < (l0.length : Int)
    ·rw [if_pos c9] at H
     have c9b0 : decide (x22_1 < (l0.length : Int)) = true := decide_eq_true c9
     clear c9
     by_cases c10 : 0 ≤ x22_1
     ·rw [if_pos c10] at H
      have c10b0 : decide (0 ≤ x22_1) = true := decide_eq_true c10
      clear c10
      by_cases c11 : x22_1 < (l0.length : Int)
      ·rw [if_pos c11] at H
       have c11b0 : decide (x22_1 < (l0.length : Int)) = true := decide_eq_true c11
       clear c11
       replace H := Option.bind_eq_some_iff.mp H
       obtain ⟨t907, A120, H⟩ := H
       replace H : (if t907 > ((rd_T73 l0 x22_1).f3) then (if x9_1.length < 8796093022208 then (impl_WornOn.l0 k1 l1 a2 (x9_1 ++ [(rd_T73 l0 x22_1).f0]) l0 (l0.length : Int) (wrap64 (x22_1 + 1))) else (none)) else (impl_WornOn.l0 k1 l1 a2 x9_1 l0 (l0.length : Int) (wrap64 (x22_1 + 1)))) = some (r1, r2) := H
       have A12 := Aside0.mk A120
       clear A120
       by_cases c13 : t907 > ((rd_T73 l0 x22_1).f3)
       ·rw [if_pos c13] at H
        have c13b0 : decide (((rd_T73 l0 x22_1).f3) < t907) = true := decide_eq_true c13
        clear c13
        by_cases c14 : x9_1.length < 8796093022208
        ·rw [if_pos c14] at H
         have LMc14 := Aside0.mk c14
         clear c14
         obtain ⟨y908, hy908⟩ : ∃ y_ : List ByteArray, y_ = (x9_1 ++ [(rd_T73 l0 x22_1).f0]) := ⟨_, rfl⟩
         replace H : (impl_WornOn.l0 k1 l1 a2 y908 l0 (l0.length : Int) (wrap64 (x22_1 + 1))) = some (r1, r2) := by first | (rw [hy908]; with_reducible exact H) | (have H2_ := (Option.bind_some _ _).symm.trans H; rw [hy908]; with_reducible exact H2_) | (have H2_ := (Option.bind_some _ _).symm.trans H; with_reducible exact H2_) | with_reducible exact H | (rw [hy908]; exact H) | exact H
         have Ny908 := Aside0.mk hy908
         clear hy908
         have H' := Aside0.mk H
         clear H
         have p905 : 0 ≤ (x22_1 : Int) := od_
         have q905 : x22_1 < (l0.length : Int) := od_
         obtain ⟨ad905, e905, hx905_0, hx905_1, hx905_2, hx905_3⟩ := at_T73 HR0.out x22_1 p905 q905
         cases e905
         replace hx905_0 := cq_ HB hx905_0
         replace hx905_1 := cq_ HB hx905_1
         replace hx905_2 := cq_ HB hx905_2
         replace hx905_3 := cq_ HB hx905_3
         replace p905 := eq_true p905
         replace q905 := eq_true q905
         try go_wp2_with (first | ((with_reducible refine gate_dst (N := 11) rfl ?_); refine box_event ?hg (N := 11) ?hd (cs := #[.string (⟨#[]⟩ : ByteArray), .int .i64 0, .int .i64 0, .int .i64 0]) (t := 73) ?hr ?_; (case hd => rfl); (case hg => rfl); (case hr => first | (go_simp; done) | (go_simp; rfl)); intro gb906 hg w15 hbox hb; have n0_ := Aside0.mk (Kd.R_below (kr_ HO_9) hb); have n1_ := Aside0.mk (below_step hb_ hb); have n2_ := Aside0.mk (hbox); have n3_ := Aside0.mk ((by rw [hg]; exact (below_size hb_) : w.heap.size ≤ gb906)); have n4_ := Aside0.mk ((by rw [hg]; exact (below_size hb_) : w.heap.size ≤ gb906)); clear HO_9; clear HB; have HO_9 := n0_; have HB := n1_; have BK906 := n2_; have GW906 := n3_; have GE906 := n4_; clear n0_ n1_ n2_ n3_ n4_; clear hb hbox hg; have hcz16_0 : w15.cell? ⟨gb906, 0, none⟩ = some (.string (⟨#[]⟩ : ByteArray)) := (blk_cell BK906.out 0).trans rfl; have hcz16_1 : w15.cell? ⟨gb906, 1, none⟩ = some (.int .i64 0) := (blk_cell BK906.out 1).trans rfl; have hcz16_2 : w15.cell? ⟨gb906, 2, none⟩ = some (.int .i64 0) := (blk_cell BK906.out 2).trans rfl; have hcz16_3 : w15.cell? ⟨gb906, 3, none⟩ = some (.int .i64 0) := (blk_cell BK906.out 3).trans rfl; have hfz16_0 := blk_frozen BK906.out 0; have hfz16_1 := blk_frozen BK906.out 1; have hfz16_2 := blk_frozen BK906.out 2; have hfz16_3 := blk_frozen BK906.out 3))
         have n0_ : Aside0 (Kd.R Kd.string 9 ((((w15.setCell ⟨gb906, 0, none⟩ (.string ((rd_T73 l0 x22_1).f0))).setCell ⟨gb906, 1, none⟩ (.int .i64 ((rd_T73 l0 x22_1).f1))).setCell ⟨gb906, 2, none⟩ (.int .i64 ((rd_T73 l0 x22_1).f2))).setCell ⟨gb906, 3, none⟩ (.int .i64 ((rd_T73 l0 x22_1).f3))) w.heap.size (fun _ => True) u9 x9_1) := ⟨by (with_reducible repeat (first | apply Kd.R_alloc | apply Kd.R_drewN | apply Kd.R_drew)); exact Kd.R_mono (Kd.R_far (p := ⟨gb906, 3, none⟩) (Kd.R_far (p := ⟨gb906, 2, none⟩) (Kd.R_far (p := ⟨gb906, 1, none⟩) (Kd.R_far (p := ⟨gb906, 0, none⟩) (Kd.R_types HO_9.out BK906.out (by decide)) (fun _ hk => hk.2) (.string ((rd_T73 l0 x22_1).f0))) (fun _ hk => hk.2) (.int .i64 ((rd_T73 l0 x22_1).f1))) (fun _ hk => hk.2) (.int .i64 ((rd_T73 l0 x22_1).f2))) (fun _ hk => hk.2) (.int .i64 ((rd_T73 l0 x22_1).f3))) (fun _ hk => trivial)⟩
         have n1_ : Aside0 (((((w15.setCell ⟨gb906, 0, none⟩ (.string ((rd_T73 l0 x22_1).f0))).setCell ⟨gb906, 1, none⟩ (.int .i64 ((rd_T73 l0 x22_1).f1))).setCell ⟨gb906, 2, none⟩ (.int .i64 ((rd_T73 l0 x22_1).f2))).setCell ⟨gb906, 3, none⟩ (.int .i64 ((rd_T73 l0 x22_1).f3))).heap[gb906]? = some (.cells #[.string ((rd_T73 l0 x22_1).f0), .int .i64 ((rd_T73 l0 x22_1).f1), .int .i64 ((rd_T73 l0 x22_1).f2), .int .i64 ((rd_T73 l0 x22_1).f3)] 73 (0, 0))) := ⟨by (with_reducible repeat (first | refine blk_drewN ?_ _ | refine blk_drew ?_ | refine blk_alloc ?_ _)); refine blk_put (cs := #[.string ((rd_T73 l0 x22_1).f0), .int .i64 ((rd_T73 l0 x22_1).f1), .int .i64 ((rd_T73 l0 x22_1).f2), .int .i64 0]) ?_ 3 _ rfl; (with_reducible repeat (first | refine blk_drewN ?_ _ | refine blk_drew ?_ | refine blk_alloc ?_ _)); refine blk_put (cs := #[.string ((rd_T73 l0 x22_1).f0), .int .i64 ((rd_T73 l0 x22_1).f1), .int .i64 0, .int .i64 0]) ?_ 2 _ rfl; (with_reducible repeat (first | refine blk_drewN ?_ _ | refine blk_drew ?_ | refine blk_alloc ?_ _)); refine blk_put (cs := #[.string ((rd_T73 l0 x22_1).f0), .int .i64 0, .int .i64 0, .int .i64 0]) ?_ 1 _ rfl; (with_reducible repeat (first | refine blk_drewN ?_ _ | refine blk_drew ?_ | refine blk_alloc ?_ _)); refine blk_put (cs := #[.string (⟨#[]⟩ : ByteArray), .int .i64 0, .int .i64 0, .int .i64 0]) ?_ 0 _ rfl; (with_reducible repeat (first | refine blk_drewN ?_ _ | refine blk_drew ?_ | refine blk_alloc ?_ _)); exact BK906.out⟩
         have n2_ : Aside0 (Below w.heap.size w ((((w15.setCell ⟨gb906, 0, none⟩ (.string ((rd_T73 l0 x22_1).f0))).setCell ⟨gb906, 1, none⟩ (.int .i64 ((rd_T73 l0 x22_1).f1))).setCell ⟨gb906, 2, none⟩ (.int .i64 ((rd_T73 l0 x22_1).f2))).setCell ⟨gb906, 3, none⟩ (.int .i64 ((rd_T73 l0 x22_1).f3)))) := ⟨(hg_ GE906)⟩
         (try clear HO_9)
         (try clear BK906)
         (try clear HB)
         generalize ((((w15.setCell ⟨gb906, 0, none⟩ (.string ((rd_T73 l0 x22_1).f0))).setCell ⟨gb906, 1, none⟩ (.int .i64 ((rd_T73 l0 x22_1).f1))).setCell ⟨gb906, 2, none⟩ (.int .i64 ((rd_T73 l0 x22_1).f2))).setCell ⟨gb906, 3, none⟩ (.int .i64 ((rd_T73 l0 x22_1).f3))) = w17 at n0_ n1_ n2_ ⊢
         have HO_9 := n0_
         have BK906 := n1_
         have HB := n2_
         clear n0_ n1_ n2_
         have n0_ := Aside0.mk (Kd.R_drew HO_9.out)
         have n1_ := Aside0.mk (blk_drew BK906.out)
         have n2_ := Aside0.mk (below_drew1 HB.out)
         clear HO_9
         clear BK906
         clear HB
         have HO_9 := n0_
         have BK906 := n1_
         have HB := n2_
         clear n0_ n1_ n2_
         refine start_ (n := 7) (S := fun w' => w'.cell? ⟨gb906, 0, none⟩ = some (.string ((rd_T73 l0 x22_1).f0)) ∧ w'.cell? ⟨gb906, 1, none⟩ = some (.int .i64 ((rd_T73 l0 x22_1).f1)) ∧ w'.cell? ⟨gb906, 2, none⟩ = some (.int .i64 ((rd_T73 l0 x22_1).f2)) ∧ w'.cell? ⟨gb906, 3, none⟩ = some (.int .i64 ((rd_T73 l0 x22_1).f3))) (ds := []) #[F_,F_,F_,F_,F_,F_,F_] (by kernel_rfl) rfl rfl ⟨(blk_cell BK906.out 0).trans rfl, (blk_cell BK906.out 1).trans rfl, (blk_cell BK906.out 2).trans rfl, (blk_cell BK906.out 3).trans rfl⟩ (fun hHeld => ?_)
         generalize w17.drew = w18 at HO_9 BK906 HB hHeld ⊢
         refine pure_ (i := 1) (N := some 27) (v := ?_) (a' := ?_) #[F_,T_,F_,F_,F_,F_,F_] rfl rfl (by kernel_rfl) (fun _ _ _ h => h) (Or.inl ⟨by rfl, ?_⟩) ?_ ?_
         rotate_left
         ·intro w'
          go_simp
          with_reducible rfl
         rotate_left
         ·simp only [Act.put, sT_, s0_, sS_, i64_w, i32_w]
          rfl
         refine pure_ (i := 2) (N := some 28) (v := ?_) (a' := ?_) #[F_,T_,T_,F_,F_,F_,F_] rfl rfl (by kernel_rfl) (fun _ _ _ h => h) (Or.inl ⟨by rfl, ?_⟩) ?_ ?_
         rotate_left
         ·intro w'
          go_simp
          with_reducible rfl
         rotate_left
         ·simp only [Act.put, sT_, s0_, sS_, i64_w, i32_w]
          rfl
         refine pure_ (i := 4) (N := some 30) (v := ?_) (a' := ?_) #[F_,T_,T_,F_,T_,F_,F_] rfl rfl (by kernel_rfl) (fun _ _ _ h => h) (Or.inl ⟨by rfl, ?_⟩) ?_ ?_
         rotate_left
         ·intro w'
          go_simp
          with_reducible rfl
         rotate_left
         ·simp only [Act.put, sT_, s0_, sS_, i64_w, i32_w]
          rfl
         refine take_ (i := 0) (N := some 26) (v := ?_) (a' := ?_) #[T_,T_,T_,F_,T_,F_,F_] rfl rfl (by kernel_rfl) (fun _ _ _ h => h) (Or.inl ⟨by rfl, ?_⟩) hHeld ?_ ?_
         rotate_left
         ·rintro w' ⟨s0, s1, s2, s3⟩
          go_simp
          with_reducible rfl
         rotate_left
         ·simp only [Act.put, sT_, s0_, sS_, i64_w, i32_w]
          rfl
         refine take_ (i := 5) (N := some 31) (v := ?_) (a' := ?_) #[T_,T_,T_,F_,T_,T_,F_] rfl rfl (by kernel_rfl) (fun _ _ _ h => h) (Or.inl ⟨by rfl, ?_⟩) hHeld ?_ ?_
         rotate_left
         ·rintro w' ⟨s0, s1, s2, s3⟩
          go_simp
          with_reducible rfl
         rotate_left
         ·simp only [Act.put, sT_, s0_, sS_, i64_w, i32_w]
          rfl
         refine one_ (i := 3) (N := some 29) #[T_,T_,T_,T_,T_,T_,F_] rfl rfl (by kernel_rfl) (by decide) (fun K hK => ?_)
         refine goes_ Try.func72 (by kernel_rfl) rfl #[.agg #[.string ((rd_T73 l0 x22_1).f0), .int .i64 ((rd_T73 l0 x22_1).f1), .int .i64 ((rd_T73 l0 x22_1).f2), .int .i64 ((rd_T73 l0 x22_1).f3)], .slice A1 l1.length c1, .int .i64 a2] (by rfl) rfl rfl ln_ ?_
         with_reducible refine (impl_wearOn.calls k1 ((rd_T73 l0 x22_1).f0) ((rd_T73 l0 x22_1).f1) ((rd_T73 l0 x22_1).f2) ((rd_T73 l0 x22_1).f3) _ _ l1 a2 t907 _ ?side1 ?side2 A12.out).mono ?_
         (case side1 => exact kc_ (Kd.C_below HR1.out HB.out))
         (case side2 => exact HC1.out)
         rintro e w19 ⟨rfl, hb⟩
         refine ⟨_, rfl, ?_⟩
         have n0_ := Aside0.mk (Kd.R_below (kr_ HO_9) hb)
         have n1_ := Aside0.mk (blk_below (g := gb906) (o := .cells #[.string ((rd_T73 l0 x22_1).f0), .int .i64 ((rd_T73 l0 x22_1).f1), .int .i64 ((rd_T73 l0 x22_1).f2), .int .i64 ((rd_T73 l0 x22_1).f3)] 73 (0, 0)) (bk_ BK906) hb)
         have n2_ := Aside0.mk (below_step (hg_ GE906) hb)
         clear HO_9
         clear BK906
         clear HB
         have HO_9 := n0_
         have BK906 := n1_
         have HB := n2_
         clear n0_ n1_ n2_
         (try clear hb)
         (try clear hb2)
         (try clear hk)
         (try clear hi)
         refine hK.out _ _ ⟨(blk_cell BK906.out 0).trans rfl, (blk_cell BK906.out 1).trans rfl, (blk_cell BK906.out 2).trans rfl, (blk_cell BK906.out 3).trans rfl⟩ (fun hHeld => ?_)
         clear hK K
         refine norm_ (a' := ?_) ?_ ?_
         rotate_left
         ·show Act.put _ (some 29) _ = _
          simp only [Act.put, sT_, s0_, sS_, i64_w, i32_w]
          rfl
         refine pure_ (i := 6) (N := some 32) (v := ?_) (a' := ?_) #[T_,T_,T_,T_,T_,T_,T_] rfl rfl (by kernel_rfl) (fun _ _ _ h => h) (Or.inl ⟨by rfl, ?_⟩) ?_ ?_
         rotate_left
         ·intro w'
          go_simp
          with_reducible rfl
         rotate_left
         ·simp only [Act.put, sT_, s0_, sS_, i64_w, i32_w]
          rfl
         refine done_ (by kernel_rfl) ?_
         have hcz20_0 : w19.cell? ⟨gb906, 0, none⟩ = some (.string ((rd_T73 l0 x22_1).f0)) := (blk_cell BK906.out 0).trans rfl
         have hcz20_1 : w19.cell? ⟨gb906, 1, none⟩ = some (.int .i64 ((rd_T73 l0 x22_1).f1)) := (blk_cell BK906.out 1).trans rfl
         have hcz20_2 : w19.cell? ⟨gb906, 2, none⟩ = some (.int .i64 ((rd_T73 l0 x22_1).f2)) := (blk_cell BK906.out 2).trans rfl
         have hcz20_3 : w19.cell? ⟨gb906, 3, none⟩ = some (.int .i64 ((rd_T73 l0 x22_1).f3)) := (blk_cell BK906.out 3).trans rfl
         have hfz20_0 := blk_frozen BK906.out 0
         have hfz20_1 := blk_frozen BK906.out 1
         have hfz20_2 := blk_frozen BK906.out 2
         have hfz20_3 := blk_frozen BK906.out 3
         try go_wp2_with (first | ((with_reducible refine gate_builtin (b := .append) (xs := #[.tmp 33, .tmp 36]) rfl ?_); at_builtin; refine Kd.R_append Kd.string (w0 := w) w.heap.size rfl (.tmp 33) (.tmp 36) 57 9 (.string ⟨#[]⟩) 16 rfl Try.underlying57 info9 rfl (by decide) (by omega) u9 x9_1 ((rd_T73 l0 x22_1).f0) [.string ((rd_T73 l0 x22_1).f0)] (fun _ => True) (fun _ => False) rfl rfl ?aP (fun _ hk => hk.elim) ?aF ?aO ?aB ?aS ?aL ?_; (case aP => exact rfl); (case aB => exact (hg_ GE906)); (case aF => exact (fun _ _ => trivial)); (case aO => exact (kr_ HO_9)); (case aS => exact (below_size (hg_ GE906))); (case aL => have := LMc14.out; omega); intro v909 w21 ho hb hg hat; rw [← Ny908.out] at ho; have n0_ := Aside0.mk (blk_grown (g := gb906) (o := .cells #[.string ((rd_T73 l0 x22_1).f0), .int .i64 ((rd_T73 l0 x22_1).f1), .int .i64 ((rd_T73 l0 x22_1).f2), .int .i64 ((rd_T73 l0 x22_1).f3)] 73 (0, 0)) (bk_ BK906) hg (Kd.R_ne HO_9.out BK906.out (by decide))); have n1_ := Aside0.mk (hb); have n2_ := Aside0.mk (ho); clear BK906; clear HB; clear HO_9; have BK906 := n0_; have HB := n1_; have HO910 := n2_; clear n0_ n1_ n2_; clear ho hb hg hat))
         go_roundg k1
         case measure => have := HK1.out; omega
         case rel => exact ⟨(y908), (wrap64 (x22_1 + 1)), (by first | rfl | (simp; done) | (simp [*]; done)), H', ⟨by have := HK1.out; omega⟩, ⟨by (with_reducible repeat (first | apply Kd.R_alloc | apply Kd.R_drewN | apply Kd.R_drew)); exact HO910.out⟩, ⟨(hg_ GE906)⟩⟩
        ·rw [if_neg c14] at H
         exact absurd H (by simp)
       ·rw [if_neg c13] at H
        have c13b0 : decide (((rd_T73 l0 x22_1).f3) < t907) = false := decide_eq_false c13
        clear c13
        have H' := Aside0.mk H
        clear H
        have p905 : 0 ≤ (x22_1 : Int) := od_
        have q905 : x22_1 < (l0.length : Int) := od_
        obtain ⟨ad905, e905, hx905_0, hx905_1, hx905_2, hx905_3⟩ := at_T73 HR0.out x22_1 p905 q905
        cases e905
        replace hx905_0 := cq_ HB hx905_0
        replace hx905_1 := cq_ HB hx905_1
        replace hx905_2 := cq_ HB hx905_2
        replace hx905_3 := cq_ HB hx905_3
        replace p905 := eq_true p905
        replace q905 := eq_true q905
        try go_wp2_with (first | ((with_reducible refine gate_dst (N := 11) rfl ?_); refine box_event ?hg (N := 11) ?hd (cs := #[.string (⟨#[]⟩ : ByteArray), .int .i64 0, .int .i64 0, .int .i64 0]) (t := 73) ?hr ?_; (case hd => rfl); (case hg => rfl); (case hr => first | (go_simp; done) | (go_simp; rfl)); intro gb906 hg w22 hbox hb; have n0_ := Aside0.mk (Kd.R_below (kr_ HO_9) hb); have n1_ := Aside0.mk (below_step hb_ hb); have n2_ := Aside0.mk (hbox); have n3_ := Aside0.mk ((by rw [hg]; exact (below_size hb_) : w.heap.size ≤ gb906)); have n4_ := Aside0.mk ((by rw [hg]; exact (below_size hb_) : w.heap.size ≤ gb906)); clear HO_9; clear HB; have HO_9 := n0_; have HB := n1_; have BK906 := n2_; have GW906 := n3_; have GE906 := n4_; clear n0_ n1_ n2_ n3_ n4_; clear hb hbox hg; have hcz23_0 : w22.cell? ⟨gb906, 0, none⟩ = some (.string (⟨#[]⟩ : ByteArray)) := (blk_cell BK906.out 0).trans rfl; have hcz23_1 : w22.cell? ⟨gb906, 1, none⟩ = some (.int .i64 0) := (blk_cell BK906.out 1).trans rfl; have hcz23_2 : w22.cell? ⟨gb906, 2, none⟩ = some (.int .i64 0) := (blk_cell BK906.out 2).trans rfl; have hcz23_3 : w22.cell? ⟨gb906, 3, none⟩ = some (.int .i64 0) := (blk_cell BK906.out 3).trans rfl; have hfz23_0 := blk_frozen BK906.out 0; have hfz23_1 := blk_frozen BK906.out 1; have hfz23_2 := blk_frozen BK906.out 2; have hfz23_3 := blk_frozen BK906.out 3))
        have n0_ : Aside0 (Kd.R Kd.string 9 ((((w22.setCell ⟨gb906, 0, none⟩ (.string ((rd_T73 l0 x22_1).f0))).setCell ⟨gb906, 1, none⟩ (.int .i64 ((rd_T73 l0 x22_1).f1))).setCell ⟨gb906, 2, none⟩ (.int .i64 ((rd_T73 l0 x22_1).f2))).setCell ⟨gb906, 3, none⟩ (.int .i64 ((rd_T73 l0 x22_1).f3))) w.heap.size (fun _ => True) u9 x9_1) := ⟨by (with_reducible repeat (first | apply Kd.R_alloc | apply Kd.R_drewN | apply Kd.R_drew)); exact Kd.R_mono (Kd.R_far (p := ⟨gb906, 3, none⟩) (Kd.R_far (p := ⟨gb906, 2, none⟩) (Kd.R_far (p := ⟨gb906, 1, none⟩) (Kd.R_far (p := ⟨gb906, 0, none⟩) (Kd.R_types HO_9.out BK906.out (by decide)) (fun _ hk => hk.2) (.string ((rd_T73 l0 x22_1).f0))) (fun _ hk => hk.2) (.int .i64 ((rd_T73 l0 x22_1).f1))) (fun _ hk => hk.2) (.int .i64 ((rd_T73 l0 x22_1).f2))) (fun _ hk => hk.2) (.int .i64 ((rd_T73 l0 x22_1).f3))) (fun _ hk => trivial)⟩
        have n1_ : Aside0 (((((w22.setCell ⟨gb906, 0, none⟩ (.string ((rd_T73 l0 x22_1).f0))).setCell ⟨gb906, 1, none⟩ (.int .i64 ((rd_T73 l0 x22_1).f1))).setCell ⟨gb906, 2, none⟩ (.int .i64 ((rd_T73 l0 x22_1).f2))).setCell ⟨gb906, 3, none⟩ (.int .i64 ((rd_T73 l0 x22_1).f3))).heap[gb906]? = some (.cells #[.string ((rd_T73 l0 x22_1).f0), .int .i64 ((rd_T73 l0 x22_1).f1), .int .i64 ((rd_T73 l0 x22_1).f2), .int .i64 ((rd_T73 l0 x22_1).f3)] 73 (0, 0))) := ⟨by (with_reducible repeat (first | refine blk_drewN ?_ _ | refine blk_drew ?_ | refine blk_alloc ?_ _)); refine blk_put (cs := #[.string ((rd_T73 l0 x22_1).f0), .int .i64 ((rd_T73 l0 x22_1).f1), .int .i64 ((rd_T73 l0 x22_1).f2), .int .i64 0]) ?_ 3 _ rfl; (with_reducible repeat (first | refine blk_drewN ?_ _ | refine blk_drew ?_ | refine blk_alloc ?_ _)); refine blk_put (cs := #[.string ((rd_T73 l0 x22_1).f0), .int .i64 ((rd_T73 l0 x22_1).f1), .int .i64 0, .int .i64 0]) ?_ 2 _ rfl; (with_reducible repeat (first | refine blk_drewN ?_ _ | refine blk_drew ?_ | refine blk_alloc ?_ _)); refine blk_put (cs := #[.string ((rd_T73 l0 x22_1).f0), .int .i64 0, .int .i64 0, .int .i64 0]) ?_ 1 _ rfl; (with_reducible repeat (first | refine blk_drewN ?_ _ | refine blk_drew ?_ | refine blk_alloc ?_ _)); refine blk_put (cs := #[.string (⟨#[]⟩ : ByteArray), .int .i64 0, .int .i64 0, .int .i64 0]) ?_ 0 _ rfl; (with_reducible repeat (first | refine blk_drewN ?_ _ | refine blk_drew ?_ | refine blk_alloc ?_ _)); exact BK906.out⟩
        have n2_ : Aside0 (Below w.heap.size w ((((w22.setCell ⟨gb906, 0, none⟩ (.string ((rd_T73 l0 x22_1).f0))).setCell ⟨gb906, 1, none⟩ (.int .i64 ((rd_T73 l0 x22_1).f1))).setCell ⟨gb906, 2, none⟩ (.int .i64 ((rd_T73 l0 x22_1).f2))).setCell ⟨gb906, 3, none⟩ (.int .i64 ((rd_T73 l0 x22_1).f3)))) := ⟨(hg_ GE906)⟩
        (try clear HO_9)
        (try clear BK906)
        (try clear HB)
        generalize ((((w22.setCell ⟨gb906, 0, none⟩ (.string ((rd_T73 l0 x22_1).f0))).setCell ⟨gb906, 1, none⟩ (.int .i64 ((rd_T73 l0 x22_1).f1))).setCell ⟨gb906, 2, none⟩ (.int .i64 ((rd_T73 l0 x22_1).f2))).setCell ⟨gb906, 3, none⟩ (.int .i64 ((rd_T73 l0 x22_1).f3))) = w24 at n0_ n1_ n2_ ⊢
        have HO_9 := n0_
        have BK906 := n1_
        have HB := n2_
        clear n0_ n1_ n2_
        have n0_ := Aside0.mk (Kd.R_drew HO_9.out)
        have n1_ := Aside0.mk (blk_drew BK906.out)
        have n2_ := Aside0.mk (below_drew1 HB.out)
        clear HO_9
        clear BK906
        clear HB
        have HO_9 := n0_
        have BK906 := n1_
        have HB := n2_
        clear n0_ n1_ n2_
        refine start_ (n := 7) (S := fun w' => w'.cell? ⟨gb906, 0, none⟩ = some (.string ((rd_T73 l0 x22_1).f0)) ∧ w'.cell? ⟨gb906, 1, none⟩ = some (.int .i64 ((rd_T73 l0 x22_1).f1)) ∧ w'.cell? ⟨gb906, 2, none⟩ = some (.int .i64 ((rd_T73 l0 x22_1).f2)) ∧ w'.cell? ⟨gb906, 3, none⟩ = some (.int .i64 ((rd_T73 l0 x22_1).f3))) (ds := []) #[F_,F_,F_,F_,F_,F_,F_] (by kernel_rfl) rfl rfl ⟨(blk_cell BK906.out 0).trans rfl, (blk_cell BK906.out 1).trans rfl, (blk_cell BK906.out 2).trans rfl, (blk_cell BK906.out 3).trans rfl⟩ (fun hHeld => ?_)
        generalize w24.drew = w25 at HO_9 BK906 HB hHeld ⊢
        refine pure_ (i := 1) (N := some 27) (v := ?_) (a' := ?_) #[F_,T_,F_,F_,F_,F_,F_] rfl rfl (by kernel_rfl) (fun _ _ _ h => h) (Or.inl ⟨by rfl, ?_⟩) ?_ ?_
        rotate_left
        ·intro w'
         go_simp
         with_reducible rfl
        rotate_left
        ·simp only [Act.put, sT_, s0_, sS_, i64_w, i32_w]
         rfl
        refine pure_ (i := 2) (N := some 28) (v := ?_) (a' := ?_) #[F_,T_,T_,F_,F_,F_,F_] rfl rfl (by kernel_rfl) (fun _ _ _ h => h) (Or.inl ⟨by rfl, ?_⟩) ?_ ?_
        rotate_left
        ·intro w'
         go_simp
         with_reducible rfl
        rotate_left
        ·simp only [Act.put, sT_, s0_, sS_, i64_w, i32_w]
         rfl
        refine pure_ (i := 4) (N := some 30) (v := ?_) (a' := ?_) #[F_,T_,T_,F_,T_,F_,F_] rfl rfl (by kernel_rfl) (fun _ _ _ h => h) (Or.inl ⟨by rfl, ?_⟩) ?_ ?_
        rotate_left
        ·intro w'
         go_simp
         with_reducible rfl
        rotate_left
        ·simp only [Act.put, sT_, s0_, sS_, i64_w, i32_w]
         rfl
        refine take_ (i := 0) (N := some 26) (v := ?_) (a' := ?_) #[T_,T_,T_,F_,T_,F_,F_] rfl rfl (by kernel_rfl) (fun _ _ _ h => h) (Or.inl ⟨by rfl, ?_⟩) hHeld ?_ ?_
        rotate_left
        ·rintro w' ⟨s0, s1, s2, s3⟩
         go_simp
         with_reducible rfl
        rotate_left
        ·simp only [Act.put, sT_, s0_, sS_, i64_w, i32_w]
         rfl
        refine take_ (i := 5) (N := some 31) (v := ?_) (a' := ?_) #[T_,T_,T_,F_,T_,T_,F_] rfl rfl (by kernel_rfl) (fun _ _ _ h => h) (Or.inl ⟨by rfl, ?_⟩) hHeld ?_ ?_
        rotate_left
        ·rintro w' ⟨s0, s1, s2, s3⟩
         go_simp
         with_reducible rfl
        rotate_left
        ·simp only [Act.put, sT_, s0_, sS_, i64_w, i32_w]
         rfl
        refine one_ (i := 3) (N := some 29) #[T_,T_,T_,T_,T_,T_,F_] rfl rfl (by kernel_rfl) (by decide) (fun K hK => ?_)
        refine goes_ Try.func72 (by kernel_rfl) rfl #[.agg #[.string ((rd_T73 l0 x22_1).f0), .int .i64 ((rd_T73 l0 x22_1).f1), .int .i64 ((rd_T73 l0 x22_1).f2), .int .i64 ((rd_T73 l0 x22_1).f3)], .slice A1 l1.length c1, .int .i64 a2] (by rfl) rfl rfl ln_ ?_
        with_reducible refine (impl_wearOn.calls k1 ((rd_T73 l0 x22_1).f0) ((rd_T73 l0 x22_1).f1) ((rd_T73 l0 x22_1).f2) ((rd_T73 l0 x22_1).f3) _ _ l1 a2 t907 _ ?side1 ?side2 A12.out).mono ?_
        (case side1 => exact kc_ (Kd.C_below HR1.out HB.out))
        (case side2 => exact HC1.out)
        rintro e w26 ⟨rfl, hb⟩
        refine ⟨_, rfl, ?_⟩
        have n0_ := Aside0.mk (Kd.R_below (kr_ HO_9) hb)
        have n1_ := Aside0.mk (blk_below (g := gb906) (o := .cells #[.string ((rd_T73 l0 x22_1).f0), .int .i64 ((rd_T73 l0 x22_1).f1), .int .i64 ((rd_T73 l0 x22_1).f2), .int .i64 ((rd_T73 l0 x22_1).f3)] 73 (0, 0)) (bk_ BK906) hb)
        have n2_ := Aside0.mk (below_step (hg_ GE906) hb)
        clear HO_9
        clear BK906
        clear HB
        have HO_9 := n0_
        have BK906 := n1_
        have HB := n2_
        clear n0_ n1_ n2_
        (try clear hb)
        (try clear hb2)
        (try clear hk)
        (try clear hi)
        refine hK.out _ _ ⟨(blk_cell BK906.out 0).trans rfl, (blk_cell BK906.out 1).trans rfl, (blk_cell BK906.out 2).trans rfl, (blk_cell BK906.out 3).trans rfl⟩ (fun hHeld => ?_)
        clear hK K
        refine norm_ (a' := ?_) ?_ ?_
        rotate_left
        ·show Act.put _ (some 29) _ = _
         simp only [Act.put, sT_, s0_, sS_, i64_w, i32_w]
         rfl
        refine pure_ (i := 6) (N := some 32) (v := ?_) (a' := ?_) #[T_,T_,T_,T_,T_,T_,T_] rfl rfl (by kernel_rfl) (fun _ _ _ h => h) (Or.inl ⟨by rfl, ?_⟩) ?_ ?_
        rotate_left
        ·intro w'
         go_simp
         with_reducible rfl
        rotate_left
        ·simp only [Act.put, sT_, s0_, sS_, i64_w, i32_w]
         rfl
        refine done_ (by kernel_rfl) ?_
        try go_wp2
        go_roundg k1
        case measure => have := HK1.out; omega
        case rel => exact ⟨(x9_1), (wrap64 (x22_1 + 1)), (by first | rfl | (simp; done) | (simp [*]; done)), H', ⟨by have := HK1.out; omega⟩, ⟨by (with_reducible repeat (first | apply Kd.R_alloc | apply Kd.R_drewN | apply Kd.R_drew)); exact HO_9.out⟩, ⟨(hg_ GE906)⟩⟩
      ·rw [if_neg c11] at H
       exact absurd H (by simp)
     ·rw [if_neg c10] at H
      exact absurd H (by simp)
    ·rw [if_neg c9] at H
     have c9b0 : decide (x22_1 < (l0.length : Int)) = false := decide_eq_false c9
     clear c9
     simp only [Option.some.injEq, Prod.mk.injEq] at H
     obtain ⟨rfl, rfl⟩ := H
     go_wp2
     go_ret2
     exact ⟨_, ew_, by (with_reducible repeat (first | apply Kd.R_alloc | apply Kd.R_drewN | apply Kd.R_drew)); exact HO_9.out, hb_⟩
 ·rw [if_neg c5] at H
  have c5b0 : (t901 == 0) = false := beq_eq_false_iff_ne.mpr c5
  have c5b1 : (t901 != 0) = true := bne_iff_ne.mpr c5
  simp only [Option.some.injEq, Prod.mk.injEq] at H
  obtain ⟨rfl, rfl⟩ := H
  go_enter Try.func54, Try.ntmps54
  go_wp2_with (first | ((with_reducible refine gate_callee (f := 71) rfl ?_); refine goesL_ (some 15) rfl rfl Try.func71 (by kernel_rfl) rfl #[.slice A0 l0.length c0, .slice A1 l1.length c1, .int .i64 a2] rfl ln_ ?_; (with_reducible refine (impl_gearCode.calls k _ _ l0 _ _ l1 a2 t901 _ ?side1 ?side2 ?side3 ?side4 A4.out).mono ?_); (case side1 => exact kc_ HR0.out); (case side2 => exact HC0.out); (case side3 => exact kc_ HR1.out); (case side4 => exact HC1.out); rintro e w27 ⟨rfl, hb⟩; refine ⟨_, rfl, ?_⟩; have n0_ := Aside0.mk (below_step hb_ hb); clear HB; have HB := n0_; clear n0_; (try clear hb); (try clear hb2); (try clear hk); (try clear hi)))
  go_ret2
  exact ⟨_, ew_, by first | exact Kd.R_nil _ _ _ _ _ | exact Kd.N_nil _ _ _ _ _ | exact Kd.V_nil _ _ _ _ _ | exact Kd.Q_nil _ _ _ _ _ | exact Kd.S_nil _ _ _ _ _, hb_⟩

/-! ### laws_FnExactWornOn: function 14 -/
mutual
def laws_FnExactWornOn.j0 : Nat → List (S72) → List (S49) → Int → List ByteArray → Int → List (S73) → List (S53) → List ByteArray → Int → Bool → Option (Bool)
 | 0, _, _, _, _, _, _, _, _, _, _ => none
 | k + 1, x0, x1, x2, x8, x9, x10, x11, x12, x13, x57 => if x57 = true then (some false) else ((laws_toGearS.f k x0).bind fun t934 => ((laws_eqGearS.f k x10 t934).bind fun t937 => (if t937 = true then ((laws_toCheckS.f k x1).bind fun t938 => ((laws_eqCheckS.f k x11 t938).bind fun t941 => (if t941 = true then ((laws_markGearS.f k x10 1).bind fun bt942 => ((laws_markCheckS.f k x11 bt942.1).bind fun bt944 => (if bt944.1 < 0 then (laws_FnExactWornOn.j1 k x0 x1 x2 x8 x9 x12 true) else ((laws_eqStringS.f k x12 x8).bind fun t946 => (if t946 = true then (laws_FnExactWornOn.j1 k x0 x1 x2 x8 x9 x12 (x13 != x9)) else (laws_FnExactWornOn.j1 k x0 x1 x2 x8 x9 x12 true)))))) else (some false)))) else (some false))))
def laws_FnExactWornOn.j1 : Nat → List (S72) → List (S49) → Int → List ByteArray → Int → List ByteArray → Bool → Option (Bool)
 | 0, _, _, _, _, _, _, _ => none
 | k + 1, x0, x1, x2, x8, x9, x12, x86 => if x86 = true then (some false) else ((laws_markStringS.f k x12 1).bind fun bt947 => ((laws_heldStringS.f k bt947.2 1).bind fun t949 => (if t949 < 0 then (some false) else (if t949 = bt947.1 then ((laws_toGearS.f k x0).bind fun t950 => ((laws_toCheckS.f k x1).bind fun t953 => ((impl_WornOn.f k t950 t953 x2).bind fun bt956 => ((laws_eqStringS.f k bt956.1 x8).bind fun t960 => (if t960 = true then (laws_FnExactWornOn.j2 k bt947.2 bt947.1 (bt956.2 != x9)) else (laws_FnExactWornOn.j2 k bt947.2 bt947.1 true)))))) else (some false)))))
def laws_FnExactWornOn.j2 : Nat → List ByteArray → Int → Bool → Option (Bool)
 | 0, _, _, _ => none
 | k + 1, x12, x15, x115 => if x115 = true then (some false) else ((laws_heldStringS.f k x12 1).bind fun t961 => (if t961 < 0 then (some false) else (if t961 = x15 then (some true) else (some false))))
end
def laws_FnExactWornOn.f (k : Nat) (l0 : List (S72)) (l1 : List (S49)) (a2 : Int) : Option (Bool) := (laws_szGearS.f k l0 1048576).bind fun t911 => (if t911 < 0 then (some true) else ((laws_szCheckS.f k l1 t911).bind fun t912 => (if t912 < 0 then (some true) else ((laws_toGearS.f k l0).bind fun t913 => ((laws_toCheckS.f k l1).bind fun t916 => ((spec_WornOn.f k t913 t916 a2).bind fun bt919 => ((laws_toGearS.f k l0).bind fun t923 => ((laws_toCheckS.f k l1).bind fun t926 => ((impl_WornOn.f k t923 t926 a2).bind fun bt929 => ((laws_eqStringS.f k bt929.1 bt919.1).bind fun t933 => (if t933 = true then (laws_FnExactWornOn.j0 k l0 l1 a2 bt919.1 bt919.2 t923 t926 bt929.1 bt929.2 (bt929.2 != bt919.2)) else (laws_FnExactWornOn.j0 k l0 l1 a2 bt919.1 bt919.2 t923 t926 bt929.1 bt929.2 true))))))))))))
theorem laws_FnExactWornOn.mono_l : ∀ k, (∀ y0 y1 y2 y3 y4 y5 y6 y7 y8 y9, LeO (laws_FnExactWornOn.j0 k y0 y1 y2 y3 y4 y5 y6 y7 y8 y9) (laws_FnExactWornOn.j0 (k + 1) y0 y1 y2 y3 y4 y5 y6 y7 y8 y9)) ∧ (∀ y0 y1 y2 y3 y4 y5 y6, LeO (laws_FnExactWornOn.j1 k y0 y1 y2 y3 y4 y5 y6) (laws_FnExactWornOn.j1 (k + 1) y0 y1 y2 y3 y4 y5 y6)) ∧ (∀ y0 y1 y2, LeO (laws_FnExactWornOn.j2 k y0 y1 y2) (laws_FnExactWornOn.j2 (k + 1) y0 y1 y2))
 | 0 => ⟨fun _ _ _ _ _ _ _ _ _ _ r h => by simp [laws_FnExactWornOn.j0] at h, fun _ _ _ _ _ _ _ r h => by simp [laws_FnExactWornOn.j1] at h, fun _ _ _ r h => by simp [laws_FnExactWornOn.j2] at h⟩
 | k + 1 => by
  obtain ⟨ih0, ih1, ih2⟩ := laws_FnExactWornOn.mono_l k
  refine ⟨?_, ?_, ?_⟩
  ·intro y0 y1 y2 y3 y4 y5 y6 y7 y8 y9
   unfold laws_FnExactWornOn.j0
   repeat' first
   | (with_reducible exact ih0 _ _ _ _ _ _ _ _ _ _)
   | (with_reducible exact ih1 _ _ _ _ _ _ _)
   | (with_reducible exact ih2 _ _ _)
   | (with_reducible exact impl_WornOn.mono _ _ _ _)
   | (with_reducible exact laws_eqCheckS.mono _ _ _)
   | (with_reducible exact laws_eqGearS.mono _ _ _)
   | (with_reducible exact laws_eqStringS.mono _ _ _)
   | (with_reducible exact laws_heldStringS.mono _ _ _)
   | (with_reducible exact laws_markCheckS.mono _ _ _)
   | (with_reducible exact laws_markGearS.mono _ _ _)
   | (with_reducible exact laws_markStringS.mono _ _ _)
   | (with_reducible exact laws_szCheckS.mono _ _ _)
   | (with_reducible exact laws_szGearS.mono _ _ _)
   | (with_reducible exact laws_toCheckS.mono _ _)
   | (with_reducible exact laws_toGearS.mono _ _)
   | (with_reducible exact spec_WornOn.mono _ _ _ _)
   | (with_reducible exact LeO.refl _)
   | (with_reducible exact LeO.none _)
   | (with_reducible refine LeO.ite ?_ ?_)
   | (with_reducible refine LeO.bind ?_ (fun _ => ?_))
   | exact ih0 _ _ _ _ _ _ _ _ _ _
   | exact ih1 _ _ _ _ _ _ _
   | exact ih2 _ _ _
   | exact impl_WornOn.mono _ _ _ _
   | exact laws_eqCheckS.mono _ _ _
   | exact laws_eqGearS.mono _ _ _
   | exact laws_eqStringS.mono _ _ _
   | exact laws_heldStringS.mono _ _ _
   | exact laws_markCheckS.mono _ _ _
   | exact laws_markGearS.mono _ _ _
   | exact laws_markStringS.mono _ _ _
   | exact laws_szCheckS.mono _ _ _
   | exact laws_szGearS.mono _ _ _
   | exact laws_toCheckS.mono _ _
   | exact laws_toGearS.mono _ _
   | exact spec_WornOn.mono _ _ _ _
   | exact LeO.none _
   | refine LeO.ite ?_ ?_
   | refine LeO.bind ?_ (fun _ => ?_)
  ·intro y0 y1 y2 y3 y4 y5 y6
   unfold laws_FnExactWornOn.j1
   repeat' first
   | (with_reducible exact ih0 _ _ _ _ _ _ _ _ _ _)
   | (with_reducible exact ih1 _ _ _ _ _ _ _)
   | (with_reducible exact ih2 _ _ _)
   | (with_reducible exact impl_WornOn.mono _ _ _ _)
   | (with_reducible exact laws_eqCheckS.mono _ _ _)
   | (with_reducible exact laws_eqGearS.mono _ _ _)
   | (with_reducible exact laws_eqStringS.mono _ _ _)
   | (with_reducible exact laws_heldStringS.mono _ _ _)
   | (with_reducible exact laws_markCheckS.mono _ _ _)
   | (with_reducible exact laws_markGearS.mono _ _ _)
   | (with_reducible exact laws_markStringS.mono _ _ _)
   | (with_reducible exact laws_szCheckS.mono _ _ _)
   | (with_reducible exact laws_szGearS.mono _ _ _)
   | (with_reducible exact laws_toCheckS.mono _ _)
   | (with_reducible exact laws_toGearS.mono _ _)
   | (with_reducible exact spec_WornOn.mono _ _ _ _)
   | (with_reducible exact LeO.refl _)
   | (with_reducible exact LeO.none _)
   | (with_reducible refine LeO.ite ?_ ?_)
   | (with_reducible refine LeO.bind ?_ (fun _ => ?_))
   | exact ih0 _ _ _ _ _ _ _ _ _ _
   | exact ih1 _ _ _ _ _ _ _
   | exact ih2 _ _ _
   | exact impl_WornOn.mono _ _ _ _
   | exact laws_eqCheckS.mono _ _ _
   | exact laws_eqGearS.mono _ _ _
   | exact laws_eqStringS.mono _ _ _
   | exact laws_heldStringS.mono _ _ _
   | exact laws_markCheckS.mono _ _ _
   | exact laws_markGearS.mono _ _ _
   | exact laws_markStringS.mono _ _ _
   | exact laws_szCheckS.mono _ _ _
   | exact laws_szGearS.mono _ _ _
   | exact laws_toCheckS.mono _ _
   | exact laws_toGearS.mono _ _
   | exact spec_WornOn.mono _ _ _ _
   | exact LeO.none _
   | refine LeO.ite ?_ ?_
   | refine LeO.bind ?_ (fun _ => ?_)
  ·intro y0 y1 y2
   unfold laws_FnExactWornOn.j2
   repeat' first
   | (with_reducible exact ih0 _ _ _ _ _ _ _ _ _ _)
   | (with_reducible exact ih1 _ _ _ _ _ _ _)
   | (with_reducible exact ih2 _ _ _)
   | (with_reducible exact impl_WornOn.mono _ _ _ _)
   | (with_reducible exact laws_eqCheckS.mono _ _ _)
   | (with_reducible exact laws_eqGearS.mono _ _ _)
   | (with_reducible exact laws_eqStringS.mono _ _ _)
   | (with_reducible exact laws_heldStringS.mono _ _ _)
   | (with_reducible exact laws_markCheckS.mono _ _ _)
   | (with_reducible exact laws_markGearS.mono _ _ _)
   | (with_reducible exact laws_markStringS.mono _ _ _)
   | (with_reducible exact laws_szCheckS.mono _ _ _)
   | (with_reducible exact laws_szGearS.mono _ _ _)
   | (with_reducible exact laws_toCheckS.mono _ _)
   | (with_reducible exact laws_toGearS.mono _ _)
   | (with_reducible exact spec_WornOn.mono _ _ _ _)
   | (with_reducible exact LeO.refl _)
   | (with_reducible exact LeO.none _)
   | (with_reducible refine LeO.ite ?_ ?_)
   | (with_reducible refine LeO.bind ?_ (fun _ => ?_))
   | exact ih0 _ _ _ _ _ _ _ _ _ _
   | exact ih1 _ _ _ _ _ _ _
   | exact ih2 _ _ _
   | exact impl_WornOn.mono _ _ _ _
   | exact laws_eqCheckS.mono _ _ _
   | exact laws_eqGearS.mono _ _ _
   | exact laws_eqStringS.mono _ _ _
   | exact laws_heldStringS.mono _ _ _
   | exact laws_markCheckS.mono _ _ _
   | exact laws_markGearS.mono _ _ _
   | exact laws_markStringS.mono _ _ _
   | exact laws_szCheckS.mono _ _ _
   | exact laws_szGearS.mono _ _ _
   | exact laws_toCheckS.mono _ _
   | exact laws_toGearS.mono _ _
   | exact spec_WornOn.mono _ _ _ _
   | exact LeO.none _
   | refine LeO.ite ?_ ?_
   | refine LeO.bind ?_ (fun _ => ?_)
theorem laws_FnExactWornOn.mono : ∀ a0 a1 a2 k, LeO (laws_FnExactWornOn.f k a0 a1 a2) (laws_FnExactWornOn.f (k + 1) a0 a1 a2) := by
 intro a0 a1 a2 k
 obtain ⟨ih0, ih1, ih2⟩ := laws_FnExactWornOn.mono_l k
 unfold laws_FnExactWornOn.f
 repeat' first
   | (with_reducible exact ih0 _ _ _ _ _ _ _ _ _ _)
   | (with_reducible exact ih1 _ _ _ _ _ _ _)
   | (with_reducible exact ih2 _ _ _)
   | (with_reducible exact impl_WornOn.mono _ _ _ _)
   | (with_reducible exact laws_eqCheckS.mono _ _ _)
   | (with_reducible exact laws_eqGearS.mono _ _ _)
   | (with_reducible exact laws_eqStringS.mono _ _ _)
   | (with_reducible exact laws_heldStringS.mono _ _ _)
   | (with_reducible exact laws_markCheckS.mono _ _ _)
   | (with_reducible exact laws_markGearS.mono _ _ _)
   | (with_reducible exact laws_markStringS.mono _ _ _)
   | (with_reducible exact laws_szCheckS.mono _ _ _)
   | (with_reducible exact laws_szGearS.mono _ _ _)
   | (with_reducible exact laws_toCheckS.mono _ _)
   | (with_reducible exact laws_toGearS.mono _ _)
   | (with_reducible exact spec_WornOn.mono _ _ _ _)
   | (with_reducible exact LeO.refl _)
   | (with_reducible exact LeO.none _)
   | (with_reducible refine LeO.ite ?_ ?_)
   | (with_reducible refine LeO.bind ?_ (fun _ => ?_))
   | exact ih0 _ _ _ _ _ _ _ _ _ _
   | exact ih1 _ _ _ _ _ _ _
   | exact ih2 _ _ _
   | exact impl_WornOn.mono _ _ _ _
   | exact laws_eqCheckS.mono _ _ _
   | exact laws_eqGearS.mono _ _ _
   | exact laws_eqStringS.mono _ _ _
   | exact laws_heldStringS.mono _ _ _
   | exact laws_markCheckS.mono _ _ _
   | exact laws_markGearS.mono _ _ _
   | exact laws_markStringS.mono _ _ _
   | exact laws_szCheckS.mono _ _ _
   | exact laws_szGearS.mono _ _ _
   | exact laws_toCheckS.mono _ _
   | exact laws_toGearS.mono _ _
   | exact spec_WornOn.mono _ _ _ _
   | exact LeO.none _
   | refine LeO.ite ?_ ?_
   | refine LeO.bind ?_ (fun _ => ?_)
set_option maxHeartbeats 8000000 in
set_option maxRecDepth 100000 in
theorem laws_FnExactWornOn.calls (k : Nat) (A0 : Option Addr) (c0 : Nat) (l0 : List (S72)) (A1 : Option Addr) (c1 : Nat) (l1 : List (S49)) (a2 : Int) (r : Bool) (w : World) (hr0 : Kd.C k72 w A0 l0.length l0) (hc0 : l0.length ≤ c0) (hr1 : Kd.C k49 w A1 l1.length l1) (hc1 : l1.length ≤ c1) (h : laws_FnExactWornOn.f k l0 l1 a2 = some r) :
  Calls Try.prog 14 #[.slice A0 l0.length c0, .slice A1 l1.length c1, .int .i64 a2] w fun e w' => e = .returned (.bool r) ∧ Below w.heap.size w w' := by
 have HR0 := Aside0.mk hr0
 have HC0 := Aside0.mk hc0
 clear hr0 hc0
 have HR1 := Aside0.mk hr1
 have HC1 := Aside0.mk hc1
 clear hr1 hc1
 have HB := Aside0.mk (Below.refl w.heap.size w)
 have H : ((laws_szGearS.f k l0 1048576).bind fun t911 => (if t911 < 0 then (some true) else ((laws_szCheckS.f k l1 t911).bind fun t912 => (if t912 < 0 then (some true) else ((laws_toGearS.f k l0).bind fun t913 => ((laws_toCheckS.f k l1).bind fun t916 => ((spec_WornOn.f k t913 t916 a2).bind fun bt919 => ((laws_toGearS.f k l0).bind fun t923 => ((laws_toCheckS.f k l1).bind fun t926 => ((impl_WornOn.f k t923 t926 a2).bind fun bt929 => ((laws_eqStringS.f k bt929.1 bt919.1).bind fun t933 => (if t933 = true then (laws_FnExactWornOn.j0 k l0 l1 a2 bt919.1 bt919.2 t923 t926 bt929.1 bt929.2 (bt929.2 != bt919.2)) else (laws_FnExactWornOn.j0 k l0 l1 a2 bt919.1 bt919.2 t923 t926 bt929.1 bt929.2 true))))))))))))) = some r := h
 clear h
 replace H := Option.bind_eq_some_iff.mp H
 obtain ⟨t911, A40, H⟩ := H
 replace H : (if t911 < 0 then (some true) else ((laws_szCheckS.f k l1 t911).bind fun t912 => (if t912 < 0 then (some true) else ((laws_toGearS.f k l0).bind fun t913 => ((laws_toCheckS.f k l1).bind fun t916 => ((spec_WornOn.f k t913 t916 a2).bind fun bt919 => ((laws_toGearS.f k l0).bind fun t923 => ((laws_toCheckS.f k l1).bind fun t926 => ((impl_WornOn.f k t923 t926 a2).bind fun bt929 => ((laws_eqStringS.f k bt929.1 bt919.1).bind fun t933 => (if t933 = true then (laws_FnExactWornOn.j0 k l0 l1 a2 bt919.1 bt919.2 t923 t926 bt929.1 bt929.2 (bt929.2 != bt919.2)) else (laws_FnExactWornOn.j0 k l0 l1 a2 bt919.1 bt919.2 t923 t926 bt929.1 bt929.2 true)))))))))))) = some r := H
 have A4 := Aside0.mk A40
 clear A40
 by_cases c5 : t911 < 0
 ·rw [if_pos c5] at H
  have c5b0 : decide (t911 < 0) = true := decide_eq_true c5
  clear c5
  obtain rfl := Option.some.inj H
  go_enter Try.func14, Try.ntmps14
  go_wp2_with (first | ((with_reducible refine gate_callee (f := 20) rfl ?_); refine goesL_ (some 21) rfl rfl Try.func20 (by kernel_rfl) rfl #[.slice A0 l0.length c0, .int .i64 1048576] rfl ln_ ?_; (with_reducible refine (laws_szGearS.calls k _ _ l0 1048576 t911 _ ?side1 ?side2 A4.out).mono ?_); (case side1 => exact kc_ HR0.out); (case side2 => exact HC0.out); rintro e w6 ⟨rfl, hb⟩; refine ⟨_, rfl, ?_⟩; have n0_ := Aside0.mk (below_step hb_ hb); clear HB; have HB := n0_; clear n0_; (try clear hb); (try clear hb2); (try clear hk); (try clear hi)))
  go_ret
  exact ⟨ew_, hb_⟩
 ·rw [if_neg c5] at H
  have c5b0 : decide (t911 < 0) = false := decide_eq_false c5
  clear c5
  replace H := Option.bind_eq_some_iff.mp H
  obtain ⟨t912, A70, H⟩ := H
  replace H : (if t912 < 0 then (some true) else ((laws_toGearS.f k l0).bind fun t913 => ((laws_toCheckS.f k l1).bind fun t916 => ((spec_WornOn.f k t913 t916 a2).bind fun bt919 => ((laws_toGearS.f k l0).bind fun t923 => ((laws_toCheckS.f k l1).bind fun t926 => ((impl_WornOn.f k t923 t926 a2).bind fun bt929 => ((laws_eqStringS.f k bt929.1 bt919.1).bind fun t933 => (if t933 = true then (laws_FnExactWornOn.j0 k l0 l1 a2 bt919.1 bt919.2 t923 t926 bt929.1 bt929.2 (bt929.2 != bt919.2)) else (laws_FnExactWornOn.j0 k l0 l1 a2 bt919.1 bt919.2 t923 t926 bt929.1 bt929.2 true)))))))))) = some r := H
  have A7 := Aside0.mk A70
  clear A70
  by_cases c8 : t912 < 0
  ·rw [if_pos c8] at H
   have c8b0 : decide (t912 < 0) = true := decide_eq_true c8
   clear c8
   obtain rfl := Option.some.inj H
   go_enter Try.func14, Try.ntmps14
   go_wp2_with (first | ((with_reducible refine gate_callee (f := 20) rfl ?_); refine goesL_ (some 21) rfl rfl Try.func20 (by kernel_rfl) rfl #[.slice A0 l0.length c0, .int .i64 1048576] rfl ln_ ?_; (with_reducible refine (laws_szGearS.calls k _ _ l0 1048576 t911 _ ?side1 ?side2 A4.out).mono ?_); (case side1 => exact kc_ HR0.out); (case side2 => exact HC0.out); rintro e w9 ⟨rfl, hb⟩; refine ⟨_, rfl, ?_⟩; have n0_ := Aside0.mk (below_step hb_ hb); clear HB; have HB := n0_; clear n0_; (try clear hb); (try clear hb2); (try clear hk); (try clear hi)) | ((with_reducible refine gate_callee (f := 15) rfl ?_); refine goesL_ (some 26) rfl rfl Try.func15 (by kernel_rfl) rfl #[.slice A1 l1.length c1, .int .i64 t911] rfl ln_ ?_; (with_reducible refine (laws_szCheckS.calls k _ _ l1 t911 t912 _ ?side1 ?side2 A7.out).mono ?_); (case side1 => exact kc_ (Kd.C_below HR1.out HB.out)); (case side2 => exact HC1.out); rintro e w10 ⟨rfl, hb⟩; refine ⟨_, rfl, ?_⟩; have n0_ := Aside0.mk (below_step hb_ hb); clear HB; have HB := n0_; clear n0_; (try clear hb); (try clear hb2); (try clear hk); (try clear hi)))
   go_ret
   exact ⟨ew_, hb_⟩
  ·rw [if_neg c8] at H
   have c8b0 : decide (t912 < 0) = false := decide_eq_false c8
   clear c8
   replace H := Option.bind_eq_some_iff.mp H
   obtain ⟨t913, A110, H⟩ := H
   replace H : ((laws_toCheckS.f k l1).bind fun t916 => ((spec_WornOn.f k t913 t916 a2).bind fun bt919 => ((laws_toGearS.f k l0).bind fun t923 => ((laws_toCheckS.f k l1).bind fun t926 => ((impl_WornOn.f k t923 t926 a2).bind fun bt929 => ((laws_eqStringS.f k bt929.1 bt919.1).bind fun t933 => (if t933 = true then (laws_FnExactWornOn.j0 k l0 l1 a2 bt919.1 bt919.2 t923 t926 bt929.1 bt929.2 (bt929.2 != bt919.2)) else (laws_FnExactWornOn.j0 k l0 l1 a2 bt919.1 bt919.2 t923 t926 bt929.1 bt929.2 true)))))))) = some r := H
   have A11 := Aside0.mk A110
   clear A110
   replace H := Option.bind_eq_some_iff.mp H
   obtain ⟨t916, A120, H⟩ := H
   replace H : ((spec_WornOn.f k t913 t916 a2).bind fun bt919 => ((laws_toGearS.f k l0).bind fun t923 => ((laws_toCheckS.f k l1).bind fun t926 => ((impl_WornOn.f k t923 t926 a2).bind fun bt929 => ((laws_eqStringS.f k bt929.1 bt919.1).bind fun t933 => (if t933 = true then (laws_FnExactWornOn.j0 k l0 l1 a2 bt919.1 bt919.2 t923 t926 bt929.1 bt929.2 (bt929.2 != bt919.2)) else (laws_FnExactWornOn.j0 k l0 l1 a2 bt919.1 bt919.2 t923 t926 bt929.1 bt929.2 true))))))) = some r := H
   have A12 := Aside0.mk A120
   clear A120
   replace H := Option.bind_eq_some_iff.mp H
   obtain ⟨⟨t919, t920⟩, A130, H⟩ := H
   replace H : ((laws_toGearS.f k l0).bind fun t923 => ((laws_toCheckS.f k l1).bind fun t926 => ((impl_WornOn.f k t923 t926 a2).bind fun bt929 => ((laws_eqStringS.f k bt929.1 t919).bind fun t933 => (if t933 = true then (laws_FnExactWornOn.j0 k l0 l1 a2 t919 t920 t923 t926 bt929.1 bt929.2 (bt929.2 != t920)) else (laws_FnExactWornOn.j0 k l0 l1 a2 t919 t920 t923 t926 bt929.1 bt929.2 true)))))) = some r := H
   have A13 := Aside0.mk A130
   clear A130
   replace H := Option.bind_eq_some_iff.mp H
   obtain ⟨t923, A140, H⟩ := H
   replace H : ((laws_toCheckS.f k l1).bind fun t926 => ((impl_WornOn.f k t923 t926 a2).bind fun bt929 => ((laws_eqStringS.f k bt929.1 t919).bind fun t933 => (if t933 = true then (laws_FnExactWornOn.j0 k l0 l1 a2 t919 t920 t923 t926 bt929.1 bt929.2 (bt929.2 != t920)) else (laws_FnExactWornOn.j0 k l0 l1 a2 t919 t920 t923 t926 bt929.1 bt929.2 true))))) = some r := H
   have A14 := Aside0.mk A140
   clear A140
   replace H := Option.bind_eq_some_iff.mp H
   obtain ⟨t926, A150, H⟩ := H
   replace H : ((impl_WornOn.f k t923 t926 a2).bind fun bt929 => ((laws_eqStringS.f k bt929.1 t919).bind fun t933 => (if t933 = true then (laws_FnExactWornOn.j0 k l0 l1 a2 t919 t920 t923 t926 bt929.1 bt929.2 (bt929.2 != t920)) else (laws_FnExactWornOn.j0 k l0 l1 a2 t919 t920 t923 t926 bt929.1 bt929.2 true)))) = some r := H
   have A15 := Aside0.mk A150
   clear A150
   replace H := Option.bind_eq_some_iff.mp H
   obtain ⟨⟨t929, t930⟩, A160, H⟩ := H
   replace H : ((laws_eqStringS.f k t929 t919).bind fun t933 => (if t933 = true then (laws_FnExactWornOn.j0 k l0 l1 a2 t919 t920 t923 t926 t929 t930 (t930 != t920)) else (laws_FnExactWornOn.j0 k l0 l1 a2 t919 t920 t923 t926 t929 t930 true))) = some r := H
   have A16 := Aside0.mk A160
   clear A160
   have HC17 := Aside0.mk H
   clear H
   go_enter Try.func14, Try.ntmps14
   go_upto_region 12 with (first | ((with_reducible refine gate_callee (f := 20) rfl ?_); refine goesL_ (some 21) rfl rfl Try.func20 (by kernel_rfl) rfl #[.slice A0 l0.length c0, .int .i64 1048576] rfl ln_ ?_; (with_reducible refine (laws_szGearS.calls k _ _ l0 1048576 t911 _ ?side1 ?side2 A4.out).mono ?_); (case side1 => exact kc_ HR0.out); (case side2 => exact HC0.out); rintro e w18 ⟨rfl, hb⟩; refine ⟨_, rfl, ?_⟩; have n0_ := Aside0.mk (below_step hb_ hb); clear HB; have HB := n0_; clear n0_; (try clear hb); (try clear hb2); (try clear hk); (try clear hi)) | ((with_reducible refine gate_callee (f := 15) rfl ?_); refine goesL_ (some 26) rfl rfl Try.func15 (by kernel_rfl) rfl #[.slice A1 l1.length c1, .int .i64 t911] rfl ln_ ?_; (with_reducible refine (laws_szCheckS.calls k _ _ l1 t911 t912 _ ?side1 ?side2 A7.out).mono ?_); (case side1 => exact kc_ (Kd.C_below HR1.out HB.out)); (case side2 => exact HC1.out); rintro e w19 ⟨rfl, hb⟩; refine ⟨_, rfl, ?_⟩; have n0_ := Aside0.mk (below_step hb_ hb); clear HB; have HB := n0_; clear n0_; (try clear hb); (try clear hb2); (try clear hk); (try clear hi)) | ((with_reducible refine gate_callee (f := 22) rfl ?_); refine goesL_ (some 31) rfl rfl Try.func22 (by kernel_rfl) rfl #[.slice A0 l0.length c0] rfl ln_ ?_; (with_reducible refine (laws_toGearS.calls k _ _ l0 t913 _ ?side1 ?side2 A11.out).mono ?_); (case side1 => exact kc_ (Kd.C_below HR0.out HB.out)); (case side2 => exact HC0.out); rintro e w20 ⟨v914, rfl, ho0, hb⟩; refine ⟨_, rfl, ?_⟩; have n0_ := Aside0.mk (Kd.R_lower ho0 (below_size hb_)); have n1_ := Aside0.mk (below_step hb_ hb); clear HB; have HO915 := n0_; have HB := n1_; clear n0_ n1_; (try clear hb); (try clear hb2); (try clear hk); (try clear hi); (try clear ho0)) | ((with_reducible refine gate_callee (f := 17) rfl ?_); refine goesL_ (some 33) rfl rfl Try.func17 (by kernel_rfl) rfl #[.slice A1 l1.length c1] rfl ln_ ?_; (with_reducible refine (laws_toCheckS.calls k _ _ l1 t916 _ ?side1 ?side2 A12.out).mono ?_); (case side1 => exact kc_ (Kd.C_below HR1.out HB.out)); (case side2 => exact HC1.out); rintro e w21 ⟨v917, rfl, ho0, hb⟩; refine ⟨_, rfl, ?_⟩; have n0_ := Aside0.mk (Kd.R_below (kr_ HO915) hb); have n1_ := Aside0.mk (Kd.R_lower ho0 (below_size hb_)); have n2_ := Aside0.mk (below_step hb_ hb); clear HO915; clear HB; have HO915 := n0_; have HO918 := n1_; have HB := n2_; clear n0_ n1_ n2_; (try clear hb); (try clear hb2); (try clear hk); (try clear hi); (try clear ho0); obtain ⟨Ao22, co22, eo22⟩ := Kd.R_slice HO915.out; subst eo22; obtain ⟨Ao23, co23, eo23⟩ := Kd.R_slice HO918.out; subst eo23) | ((with_reducible refine gate_callee (f := 53) rfl ?_); refine goesL_ (some 35) rfl rfl Try.func53 (by kernel_rfl) rfl #[.slice Ao22 t913.length co22, .slice Ao23 t916.length co23, .int .i64 a2] rfl ln_ ?_; (with_reducible refine (spec_WornOn.calls k _ _ t913 _ _ t916 a2 t919 t920 _ ?side1 ?side2 ?side3 ?side4 A13.out).mono ?_); (case side1 => repeat (first | exact (Kd.R_reads' HO915.out).2.2 | (with_reducible refine Kd.C_alloc ?_ _) | (with_reducible refine Kd.C_drewN ?_ _) | (with_reducible refine Kd.C_drew ?_))); (case side2 => exact (Kd.R_reads' HO915.out).2.1); (case side3 => repeat (first | exact (Kd.R_reads' HO918.out).2.2 | (with_reducible refine Kd.C_alloc ?_ _) | (with_reducible refine Kd.C_drewN ?_ _) | (with_reducible refine Kd.C_drew ?_))); (case side4 => exact (Kd.R_reads' HO918.out).2.1); rintro e w24 ⟨v921, rfl, ho0, hb⟩; refine ⟨_, rfl, ?_⟩; have n0_ := Aside0.mk (Kd.R_below (kr_ HO915) hb); have n1_ := Aside0.mk (Kd.R_below (kr_ HO918) hb); have n2_ := Aside0.mk (Kd.R_lower ho0 (below_size hb_)); have n3_ := Aside0.mk (below_step hb_ hb); clear HO915; clear HO918; clear HB; have HO915 := n0_; have HO918 := n1_; have HO922 := n2_; have HB := n3_; clear n0_ n1_ n2_ n3_; (try clear hb); (try clear hb2); (try clear hk); (try clear hi); (try clear ho0)) | ((with_reducible refine gate_callee (f := 22) rfl ?_); refine goesL_ (some 39) rfl rfl Try.func22 (by kernel_rfl) rfl #[.slice A0 l0.length c0] rfl ln_ ?_; (with_reducible refine (laws_toGearS.calls k _ _ l0 t923 _ ?side1 ?side2 A14.out).mono ?_); (case side1 => exact kc_ (Kd.C_below HR0.out HB.out)); (case side2 => exact HC0.out); rintro e w25 ⟨v924, rfl, ho0, hb⟩; refine ⟨_, rfl, ?_⟩; have n0_ := Aside0.mk (Kd.R_elder' (kr_ HO915) (Kd.R_base ho0) hb); have n1_ := Aside0.mk (Kd.R_below (kr_ HO918) hb); have n2_ := Aside0.mk (Kd.R_below (kr_ HO922) hb); have n3_ := Aside0.mk (Kd.R_lower (Kd.R_new' ho0 (Kd.R_lt (kr_ HO915))) (below_size hb_)); have n4_ := Aside0.mk (below_step hb_ hb); clear HO915; clear HO918; clear HO922; clear HB; have HO915 := n0_; have HO918 := n1_; have HO922 := n2_; have HO925 := n3_; have HB := n4_; clear n0_ n1_ n2_ n3_ n4_; (try clear hb); (try clear hb2); (try clear hk); (try clear hi); (try clear ho0)) | ((with_reducible refine gate_callee (f := 17) rfl ?_); refine goesL_ (some 41) rfl rfl Try.func17 (by kernel_rfl) rfl #[.slice A1 l1.length c1] rfl ln_ ?_; (with_reducible refine (laws_toCheckS.calls k _ _ l1 t926 _ ?side1 ?side2 A15.out).mono ?_); (case side1 => exact kc_ (Kd.C_below HR1.out HB.out)); (case side2 => exact HC1.out); rintro e w26 ⟨v927, rfl, ho0, hb⟩; refine ⟨_, rfl, ?_⟩; have n0_ := Aside0.mk (Kd.R_below (kr_ HO915) hb); have n1_ := Aside0.mk (Kd.R_elder' (kr_ HO918) (Kd.R_base ho0) hb); have n2_ := Aside0.mk (Kd.R_below (kr_ HO922) hb); have n3_ := Aside0.mk (Kd.R_below (kr_ HO925) hb); have n4_ := Aside0.mk (Kd.R_lower (Kd.R_new' ho0 (Kd.R_lt (kr_ HO918))) (below_size hb_)); have n5_ := Aside0.mk (below_step hb_ hb); clear HO915; clear HO918; clear HO922; clear HO925; clear HB; have HO915 := n0_; have HO918 := n1_; have HO922 := n2_; have HO925 := n3_; have HO928 := n4_; have HB := n5_; clear n0_ n1_ n2_ n3_ n4_ n5_; (try clear hb); (try clear hb2); (try clear hk); (try clear hi); (try clear ho0); obtain ⟨Ao27, co27, eo27⟩ := Kd.R_slice HO925.out; subst eo27; obtain ⟨Ao28, co28, eo28⟩ := Kd.R_slice HO928.out; subst eo28) | ((with_reducible refine gate_callee (f := 54) rfl ?_); refine goesL_ (some 46) rfl rfl Try.func54 (by kernel_rfl) rfl #[.slice Ao27 t923.length co27, .slice Ao28 t926.length co28, .int .i64 a2] rfl ln_ ?_; (with_reducible refine (impl_WornOn.calls k _ _ t923 _ _ t926 a2 t929 t930 _ ?side1 ?side2 ?side3 ?side4 A16.out).mono ?_); (case side1 => repeat (first | exact (Kd.R_reads' HO925.out).2.2 | (with_reducible refine Kd.C_alloc ?_ _) | (with_reducible refine Kd.C_drewN ?_ _) | (with_reducible refine Kd.C_drew ?_))); (case side2 => exact (Kd.R_reads' HO925.out).2.1); (case side3 => repeat (first | exact (Kd.R_reads' HO928.out).2.2 | (with_reducible refine Kd.C_alloc ?_ _) | (with_reducible refine Kd.C_drewN ?_ _) | (with_reducible refine Kd.C_drew ?_))); (case side4 => exact (Kd.R_reads' HO928.out).2.1); rintro e w29 ⟨v931, rfl, ho0, hb⟩; refine ⟨_, rfl, ?_⟩; have n0_ := Aside0.mk (Kd.R_below (kr_ HO915) hb); have n1_ := Aside0.mk (Kd.R_below (kr_ HO918) hb); have n2_ := Aside0.mk (Kd.R_elder' (kr_ HO922) (Kd.R_base ho0) hb); have n3_ := Aside0.mk (Kd.R_below (kr_ HO925) hb); have n4_ := Aside0.mk (Kd.R_below (kr_ HO928) hb); have n5_ := Aside0.mk (Kd.R_lower (Kd.R_new' ho0 (Kd.R_lt (kr_ HO922))) (below_size hb_)); have n6_ := Aside0.mk (below_step hb_ hb); clear HO915; clear HO918; clear HO922; clear HO925; clear HO928; clear HB; have HO915 := n0_; have HO918 := n1_; have HO922 := n2_; have HO925 := n3_; have HO928 := n4_; have HO932 := n5_; have HB := n6_; clear n0_ n1_ n2_ n3_ n4_ n5_ n6_; (try clear hb); (try clear hb2); (try clear hk); (try clear hi); (try clear ho0)))
   (try simp only [Act.put, List.setIfInBounds_toArray, List.set_cons_zero, List.set_cons_succ])
   go_cut [57] (fun v57 wc => ∃ (kq : Nat) (x57_16 : Bool), v57 = .bool x57_16 ∧ Aside0 (laws_FnExactWornOn.j0 kq l0 l1 a2 t919 t920 t923 t926 t929 t930 x57_16 = some r) ∧ Aside0 (kq ≤ k) ∧ Aside0 (Kd.R Kd.string 9 wc w.heap.size (fun k_ => some k_ ≠ (v931 : Value).ownBlock) v921 t919) ∧ Aside0 (Kd.R k73 73 wc w.heap.size (fun _ => True) (.slice Ao27 t923.length co27) t923) ∧ Aside0 (Kd.R k53 53 wc w.heap.size (fun _ => True) (.slice Ao28 t926.length co28) t926) ∧ Aside0 (Kd.R Kd.string 9 wc w.heap.size (fun k_ => some k_ ≠ (v921 : Value).ownBlock) v931 t929) ∧ Aside0 (Below w.heap.size w wc))
   case first =>
    have H := HC17.out
    clear HC17
    replace H := Option.bind_eq_some_iff.mp H
    obtain ⟨t933, A300, H⟩ := H
    replace H : (if t933 = true then (laws_FnExactWornOn.j0 k l0 l1 a2 t919 t920 t923 t926 t929 t930 (t930 != t920)) else (laws_FnExactWornOn.j0 k l0 l1 a2 t919 t920 t923 t926 t929 t930 true)) = some r := H
    have A30 := Aside0.mk A300
    clear A300
    by_cases c31 : t933 = true
    ·subst c31
     have H1 : (laws_FnExactWornOn.j0 k l0 l1 a2 t919 t920 t923 t926 t929 t930 (t930 != t920)) = some r := by rw [if_pos rfl] at H; exact H
     clear H
     have H := H1
     clear H1
     have H' := Aside0.mk H
     clear H
     obtain ⟨Ao32, co32, eo32⟩ := Kd.R_slice HO932.out
     subst eo32
     obtain ⟨Ao33, co33, eo33⟩ := Kd.R_slice HO922.out
     subst eo33
     go_wp2_with (first | ((with_reducible refine gate_callee (f := 45) rfl ?_); refine goesL_ (some 51) rfl rfl Try.func45 (by kernel_rfl) rfl #[.slice Ao32 t929.length co32, .slice Ao33 t919.length co33] rfl ln_ ?_; (with_reducible refine (laws_eqStringS.calls k _ _ t929 _ _ t919 true _ ?side1 ?side2 ?side3 ?side4 A30.out).mono ?_); (case side1 => repeat (first | exact (Kd.R_reads' HO932.out).2.2 | (with_reducible refine Kd.C_alloc ?_ _) | (with_reducible refine Kd.C_drewN ?_ _) | (with_reducible refine Kd.C_drew ?_))); (case side2 => exact (Kd.R_reads' HO932.out).2.1); (case side3 => repeat (first | exact (Kd.R_reads' HO922.out).2.2 | (with_reducible refine Kd.C_alloc ?_ _) | (with_reducible refine Kd.C_drewN ?_ _) | (with_reducible refine Kd.C_drew ?_))); (case side4 => exact (Kd.R_reads' HO922.out).2.1); rintro e w' ⟨rfl, ⟨nd, rfl⟩⟩; refine ⟨_, rfl, ?_⟩))
     go_meet
     case rel => exact ⟨_, ((t930 != t920)), (by first | rfl | (simp; done) | (simp [*]; done)), H', ⟨by first | omega | exact Nat.le_refl _⟩, ⟨by (with_reducible repeat (first | apply Kd.R_alloc | apply Kd.R_drewN | apply Kd.R_drew)); exact Kd.R_mono HO922.out (fun _ hk => hk.2)⟩, ⟨by (with_reducible repeat (first | apply Kd.R_alloc | apply Kd.R_drewN | apply Kd.R_drew)); exact Kd.R_mono HO925.out (fun _ hk => trivial)⟩, ⟨by (with_reducible repeat (first | apply Kd.R_alloc | apply Kd.R_drewN | apply Kd.R_drew)); exact Kd.R_mono HO928.out (fun _ hk => trivial)⟩, ⟨by (with_reducible repeat (first | apply Kd.R_alloc | apply Kd.R_drewN | apply Kd.R_drew)); exact Kd.R_mono HO932.out (fun _ hk => hk.2)⟩, ⟨hb_⟩⟩
    ·replace c31 := Bool.eq_false_iff.mpr c31
     subst c31
     have H1 : (laws_FnExactWornOn.j0 k l0 l1 a2 t919 t920 t923 t926 t929 t930 true) = some r := by rw [if_neg (show ¬ (false = true) by decide)] at H; exact H
     clear H
     have H := H1
     clear H1
     have H' := Aside0.mk H
     clear H
     obtain ⟨Ao34, co34, eo34⟩ := Kd.R_slice HO932.out
     subst eo34
     obtain ⟨Ao35, co35, eo35⟩ := Kd.R_slice HO922.out
     subst eo35
     go_wp2_with (first | ((with_reducible refine gate_callee (f := 45) rfl ?_); refine goesL_ (some 51) rfl rfl Try.func45 (by kernel_rfl) rfl #[.slice Ao34 t929.length co34, .slice Ao35 t919.length co35] rfl ln_ ?_; (with_reducible refine (laws_eqStringS.calls k _ _ t929 _ _ t919 false _ ?side1 ?side2 ?side3 ?side4 A30.out).mono ?_); (case side1 => repeat (first | exact (Kd.R_reads' HO932.out).2.2 | (with_reducible refine Kd.C_alloc ?_ _) | (with_reducible refine Kd.C_drewN ?_ _) | (with_reducible refine Kd.C_drew ?_))); (case side2 => exact (Kd.R_reads' HO932.out).2.1); (case side3 => repeat (first | exact (Kd.R_reads' HO922.out).2.2 | (with_reducible refine Kd.C_alloc ?_ _) | (with_reducible refine Kd.C_drewN ?_ _) | (with_reducible refine Kd.C_drew ?_))); (case side4 => exact (Kd.R_reads' HO922.out).2.1); rintro e w' ⟨rfl, ⟨nd, rfl⟩⟩; refine ⟨_, rfl, ?_⟩))
     go_meet
     case rel => exact ⟨_, (true), (by first | rfl | (simp; done) | (simp [*]; done)), H', ⟨by first | omega | exact Nat.le_refl _⟩, ⟨by (with_reducible repeat (first | apply Kd.R_alloc | apply Kd.R_drewN | apply Kd.R_drew)); exact Kd.R_mono HO922.out (fun _ hk => hk.2)⟩, ⟨by (with_reducible repeat (first | apply Kd.R_alloc | apply Kd.R_drewN | apply Kd.R_drew)); exact Kd.R_mono HO925.out (fun _ hk => trivial)⟩, ⟨by (with_reducible repeat (first | apply Kd.R_alloc | apply Kd.R_drewN | apply Kd.R_drew)); exact Kd.R_mono HO928.out (fun _ hk => trivial)⟩, ⟨by (with_reducible repeat (first | apply Kd.R_alloc | apply Kd.R_drewN | apply Kd.R_drew)); exact Kd.R_mono HO932.out (fun _ hk => hk.2)⟩, ⟨hb_⟩⟩
   case rest =>
    clear HC17
    try clear c1
    try clear c2
    try clear p2
    try clear c3
    try clear c4
    try clear c5
    try clear c5b0
    try clear c8
    try clear c8b0
    try clear c14
    try clear c15
    try clear c17
    try clear c20
    try clear c22
    try clear c31
    obtain ⟨kq, x57_16, rfl, HA, HJ16, HO_8, HO_10, HO_11, HO_12, HB⟩ := hcut
    cases kq with
    | zero => exact absurd HA.out (by simp [laws_FnExactWornOn.j0])
    | succ kj16 =>
     have H := HA.out
     clear HA
     simp only [laws_FnExactWornOn.j0] at H
     by_cases c36 : x57_16 = true
     ·subst c36
      have H1 : (some false) = some r := by rw [if_pos rfl] at H; exact H
      clear H
      have H := H1
      clear H1
      obtain rfl := Option.some.inj H
      go_wp2
      go_ret
      exact ⟨ew_, hb_⟩
     ·replace c36 := Bool.eq_false_iff.mpr c36
      subst c36
      have H1 : ((laws_toGearS.f kj16 l0).bind fun t934 => ((laws_eqGearS.f kj16 t923 t934).bind fun t937 => (if t937 = true then ((laws_toCheckS.f kj16 l1).bind fun t938 => ((laws_eqCheckS.f kj16 t926 t938).bind fun t941 => (if t941 = true then ((laws_markGearS.f kj16 t923 1).bind fun bt942 => ((laws_markCheckS.f kj16 t926 bt942.1).bind fun bt944 => (if bt944.1 < 0 then (laws_FnExactWornOn.j1 kj16 l0 l1 a2 t919 t920 t929 true) else ((laws_eqStringS.f kj16 t929 t919).bind fun t946 => (if t946 = true then (laws_FnExactWornOn.j1 kj16 l0 l1 a2 t919 t920 t929 (t930 != t920)) else (laws_FnExactWornOn.j1 kj16 l0 l1 a2 t919 t920 t929 true)))))) else (some false)))) else (some false)))) = some r := by rw [if_neg (show ¬ (false = true) by decide)] at H; exact H
      clear H
      have H := H1
      clear H1
      replace H := Option.bind_eq_some_iff.mp H
      obtain ⟨t934, A370, H⟩ := H
      replace H : ((laws_eqGearS.f kj16 t923 t934).bind fun t937 => (if t937 = true then ((laws_toCheckS.f kj16 l1).bind fun t938 => ((laws_eqCheckS.f kj16 t926 t938).bind fun t941 => (if t941 = true then ((laws_markGearS.f kj16 t923 1).bind fun bt942 => ((laws_markCheckS.f kj16 t926 bt942.1).bind fun bt944 => (if bt944.1 < 0 then (laws_FnExactWornOn.j1 kj16 l0 l1 a2 t919 t920 t929 true) else ((laws_eqStringS.f kj16 t929 t919).bind fun t946 => (if t946 = true then (laws_FnExactWornOn.j1 kj16 l0 l1 a2 t919 t920 t929 (t930 != t920)) else (laws_FnExactWornOn.j1 kj16 l0 l1 a2 t919 t920 t929 true)))))) else (some false)))) else (some false))) = some r := H
      have A37 := Aside0.mk A370
      clear A370
      replace H := Option.bind_eq_some_iff.mp H
      obtain ⟨t937, A380, H⟩ := H
      replace H : (if t937 = true then ((laws_toCheckS.f kj16 l1).bind fun t938 => ((laws_eqCheckS.f kj16 t926 t938).bind fun t941 => (if t941 = true then ((laws_markGearS.f kj16 t923 1).bind fun bt942 => ((laws_markCheckS.f kj16 t926 bt942.1).bind fun bt944 => (if bt944.1 < 0 then (laws_FnExactWornOn.j1 kj16 l0 l1 a2 t919 t920 t929 true) else ((laws_eqStringS.f kj16 t929 t919).bind fun t946 => (if t946 = true then (laws_FnExactWornOn.j1 kj16 l0 l1 a2 t919 t920 t929 (t930 != t920)) else (laws_FnExactWornOn.j1 kj16 l0 l1 a2 t919 t920 t929 true)))))) else (some false)))) else (some false)) = some r := H
      have A38 := Aside0.mk A380
      clear A380
      by_cases c39 : t937 = true
      ·subst c39
       have H1 : ((laws_toCheckS.f kj16 l1).bind fun t938 => ((laws_eqCheckS.f kj16 t926 t938).bind fun t941 => (if t941 = true then ((laws_markGearS.f kj16 t923 1).bind fun bt942 => ((laws_markCheckS.f kj16 t926 bt942.1).bind fun bt944 => (if bt944.1 < 0 then (laws_FnExactWornOn.j1 kj16 l0 l1 a2 t919 t920 t929 true) else ((laws_eqStringS.f kj16 t929 t919).bind fun t946 => (if t946 = true then (laws_FnExactWornOn.j1 kj16 l0 l1 a2 t919 t920 t929 (t930 != t920)) else (laws_FnExactWornOn.j1 kj16 l0 l1 a2 t919 t920 t929 true)))))) else (some false)))) = some r := by rw [if_pos rfl] at H; exact H
       clear H
       have H := H1
       clear H1
       replace H := Option.bind_eq_some_iff.mp H
       obtain ⟨t938, A400, H⟩ := H
       replace H : ((laws_eqCheckS.f kj16 t926 t938).bind fun t941 => (if t941 = true then ((laws_markGearS.f kj16 t923 1).bind fun bt942 => ((laws_markCheckS.f kj16 t926 bt942.1).bind fun bt944 => (if bt944.1 < 0 then (laws_FnExactWornOn.j1 kj16 l0 l1 a2 t919 t920 t929 true) else ((laws_eqStringS.f kj16 t929 t919).bind fun t946 => (if t946 = true then (laws_FnExactWornOn.j1 kj16 l0 l1 a2 t919 t920 t929 (t930 != t920)) else (laws_FnExactWornOn.j1 kj16 l0 l1 a2 t919 t920 t929 true)))))) else (some false))) = some r := H
       have A40 := Aside0.mk A400
       clear A400
       replace H := Option.bind_eq_some_iff.mp H
       obtain ⟨t941, A410, H⟩ := H
       replace H : (if t941 = true then ((laws_markGearS.f kj16 t923 1).bind fun bt942 => ((laws_markCheckS.f kj16 t926 bt942.1).bind fun bt944 => (if bt944.1 < 0 then (laws_FnExactWornOn.j1 kj16 l0 l1 a2 t919 t920 t929 true) else ((laws_eqStringS.f kj16 t929 t919).bind fun t946 => (if t946 = true then (laws_FnExactWornOn.j1 kj16 l0 l1 a2 t919 t920 t929 (t930 != t920)) else (laws_FnExactWornOn.j1 kj16 l0 l1 a2 t919 t920 t929 true)))))) else (some false)) = some r := H
       have A41 := Aside0.mk A410
       clear A410
       by_cases c42 : t941 = true
       ·subst c42
        have H1 : ((laws_markGearS.f kj16 t923 1).bind fun bt942 => ((laws_markCheckS.f kj16 t926 bt942.1).bind fun bt944 => (if bt944.1 < 0 then (laws_FnExactWornOn.j1 kj16 l0 l1 a2 t919 t920 t929 true) else ((laws_eqStringS.f kj16 t929 t919).bind fun t946 => (if t946 = true then (laws_FnExactWornOn.j1 kj16 l0 l1 a2 t919 t920 t929 (t930 != t920)) else (laws_FnExactWornOn.j1 kj16 l0 l1 a2 t919 t920 t929 true)))))) = some r := by rw [if_pos rfl] at H; exact H
        clear H
        have H := H1
        clear H1
        replace H := Option.bind_eq_some_iff.mp H
        obtain ⟨⟨t942, t943⟩, A430, H⟩ := H
        replace H : ((laws_markCheckS.f kj16 t926 t942).bind fun bt944 => (if bt944.1 < 0 then (laws_FnExactWornOn.j1 kj16 l0 l1 a2 t919 t920 t929 true) else ((laws_eqStringS.f kj16 t929 t919).bind fun t946 => (if t946 = true then (laws_FnExactWornOn.j1 kj16 l0 l1 a2 t919 t920 t929 (t930 != t920)) else (laws_FnExactWornOn.j1 kj16 l0 l1 a2 t919 t920 t929 true))))) = some r := H
        have A43 := Aside0.mk A430
        clear A430
        replace H := Option.bind_eq_some_iff.mp H
        obtain ⟨⟨t944, t945⟩, A440, H⟩ := H
        replace H : (if t944 < 0 then (laws_FnExactWornOn.j1 kj16 l0 l1 a2 t919 t920 t929 true) else ((laws_eqStringS.f kj16 t929 t919).bind fun t946 => (if t946 = true then (laws_FnExactWornOn.j1 kj16 l0 l1 a2 t919 t920 t929 (t930 != t920)) else (laws_FnExactWornOn.j1 kj16 l0 l1 a2 t919 t920 t929 true)))) = some r := H
        have A44 := Aside0.mk A440
        clear A440
        have HC45 := Aside0.mk H
        clear H
        go_upto_region 21 with (first | ((with_reducible refine gate_callee (f := 22) rfl ?_); refine goesL_ (some 60) rfl rfl Try.func22 (by kernel_rfl) rfl #[.slice A0 l0.length c0] rfl ln_ ?_; (with_reducible refine (laws_toGearS.calls kj16 _ _ l0 t934 _ ?side1 ?side2 A37.out).mono ?_); (case side1 => exact kc_ (Kd.C_below HR0.out HB.out)); (case side2 => exact HC0.out); rintro e w46 ⟨v935, rfl, ho0, hb⟩; refine ⟨_, rfl, ?_⟩; have n0_ := Aside0.mk (Kd.R_below (kr_ HO_8) hb); have n1_ := Aside0.mk (Kd.R_elder' (kr_ HO_10) (Kd.R_base ho0) hb); have n2_ := Aside0.mk (Kd.R_below (kr_ HO_11) hb); have n3_ := Aside0.mk (Kd.R_below (kr_ HO_12) hb); have n4_ := Aside0.mk (Kd.R_lower (Kd.R_new' ho0 (Kd.R_lt (kr_ HO_10))) (below_size hb_)); have n5_ := Aside0.mk (below_step hb_ hb); clear HO_8; clear HO_10; clear HO_11; clear HO_12; clear HB; have HO_8 := n0_; have HO_10 := n1_; have HO_11 := n2_; have HO_12 := n3_; have HO936 := n4_; have HB := n5_; clear n0_ n1_ n2_ n3_ n4_ n5_; (try clear hb); (try clear hb2); (try clear hk); (try clear hi); (try clear ho0); obtain ⟨Ao47, co47, eo47⟩ := Kd.R_slice HO936.out; subst eo47) | ((with_reducible refine gate_callee (f := 24) rfl ?_); refine goesL_ (some 61) rfl rfl Try.func24 (by kernel_rfl) rfl #[.slice Ao27 t923.length co27, .slice Ao47 t934.length co47] rfl ln_ ?_; (with_reducible refine (laws_eqGearS.calls kj16 _ _ t923 _ _ t934 true _ ?side1 ?side2 ?side3 ?side4 A38.out).mono ?_); (case side1 => repeat (first | exact (Kd.R_reads' HO_10.out).2.2 | (with_reducible refine Kd.C_alloc ?_ _) | (with_reducible refine Kd.C_drewN ?_ _) | (with_reducible refine Kd.C_drew ?_))); (case side2 => exact (Kd.R_reads' HO_10.out).2.1); (case side3 => repeat (first | exact (Kd.R_reads' HO936.out).2.2 | (with_reducible refine Kd.C_alloc ?_ _) | (with_reducible refine Kd.C_drewN ?_ _) | (with_reducible refine Kd.C_drew ?_))); (case side4 => exact (Kd.R_reads' HO936.out).2.1); rintro e w48 ⟨rfl, hb⟩; refine ⟨_, rfl, ?_⟩; have n0_ := Aside0.mk (Kd.R_below (kr_ HO_8) hb); have n1_ := Aside0.mk (Kd.R_below (kr_ HO_10) hb); have n2_ := Aside0.mk (Kd.R_below (kr_ HO_11) hb); have n3_ := Aside0.mk (Kd.R_below (kr_ HO_12) hb); have n4_ := Aside0.mk (Kd.R_below (kr_ HO936) hb); have n5_ := Aside0.mk (below_step hb_ hb); clear HO_8; clear HO_10; clear HO_11; clear HO_12; clear HO936; clear HB; have HO_8 := n0_; have HO_10 := n1_; have HO_11 := n2_; have HO_12 := n3_; have HO936 := n4_; have HB := n5_; clear n0_ n1_ n2_ n3_ n4_ n5_; (try clear hb); (try clear hb2); (try clear hk); (try clear hi)) | ((with_reducible refine gate_callee (f := 17) rfl ?_); refine goesL_ (some 65) rfl rfl Try.func17 (by kernel_rfl) rfl #[.slice A1 l1.length c1] rfl ln_ ?_; (with_reducible refine (laws_toCheckS.calls kj16 _ _ l1 t938 _ ?side1 ?side2 A40.out).mono ?_); (case side1 => exact kc_ (Kd.C_below HR1.out HB.out)); (case side2 => exact HC1.out); rintro e w49 ⟨v939, rfl, ho0, hb⟩; refine ⟨_, rfl, ?_⟩; have n0_ := Aside0.mk (Kd.R_below (kr_ HO_8) hb); have n1_ := Aside0.mk (Kd.R_below (kr_ HO_10) hb); have n2_ := Aside0.mk (Kd.R_elder' (kr_ HO_11) (Kd.R_base ho0) hb); have n3_ := Aside0.mk (Kd.R_below (kr_ HO_12) hb); have n4_ := Aside0.mk (Kd.R_below (kr_ HO936) hb); have n5_ := Aside0.mk (Kd.R_lower (Kd.R_new' ho0 (Kd.R_lt (kr_ HO_11))) (below_size hb_)); have n6_ := Aside0.mk (below_step hb_ hb); clear HO_8; clear HO_10; clear HO_11; clear HO_12; clear HO936; clear HB; have HO_8 := n0_; have HO_10 := n1_; have HO_11 := n2_; have HO_12 := n3_; have HO936 := n4_; have HO940 := n5_; have HB := n6_; clear n0_ n1_ n2_ n3_ n4_ n5_ n6_; (try clear hb); (try clear hb2); (try clear hk); (try clear hi); (try clear ho0); obtain ⟨Ao50, co50, eo50⟩ := Kd.R_slice HO940.out; subst eo50) | ((with_reducible refine gate_callee (f := 19) rfl ?_); refine goesL_ (some 66) rfl rfl Try.func19 (by kernel_rfl) rfl #[.slice Ao28 t926.length co28, .slice Ao50 t938.length co50] rfl ln_ ?_; (with_reducible refine (laws_eqCheckS.calls kj16 _ _ t926 _ _ t938 true _ ?side1 ?side2 ?side3 ?side4 A41.out).mono ?_); (case side1 => repeat (first | exact (Kd.R_reads' HO_11.out).2.2 | (with_reducible refine Kd.C_alloc ?_ _) | (with_reducible refine Kd.C_drewN ?_ _) | (with_reducible refine Kd.C_drew ?_))); (case side2 => exact (Kd.R_reads' HO_11.out).2.1); (case side3 => repeat (first | exact (Kd.R_reads' HO940.out).2.2 | (with_reducible refine Kd.C_alloc ?_ _) | (with_reducible refine Kd.C_drewN ?_ _) | (with_reducible refine Kd.C_drew ?_))); (case side4 => exact (Kd.R_reads' HO940.out).2.1); rintro e w51 ⟨rfl, hb⟩; refine ⟨_, rfl, ?_⟩; have n0_ := Aside0.mk (Kd.R_below (kr_ HO_8) hb); have n1_ := Aside0.mk (Kd.R_below (kr_ HO_10) hb); have n2_ := Aside0.mk (Kd.R_below (kr_ HO_11) hb); have n3_ := Aside0.mk (Kd.R_below (kr_ HO_12) hb); have n4_ := Aside0.mk (Kd.R_below (kr_ HO936) hb); have n5_ := Aside0.mk (Kd.R_below (kr_ HO940) hb); have n6_ := Aside0.mk (below_step hb_ hb); clear HO_8; clear HO_10; clear HO_11; clear HO_12; clear HO936; clear HO940; clear HB; have HO_8 := n0_; have HO_10 := n1_; have HO_11 := n2_; have HO_12 := n3_; have HO936 := n4_; have HO940 := n5_; have HB := n6_; clear n0_ n1_ n2_ n3_ n4_ n5_ n6_; (try clear hb); (try clear hb2); (try clear hk); (try clear hi)) | ((with_reducible refine gate_callee (f := 29) rfl ?_); refine goesL_ (some 70) rfl rfl Try.func29 (by kernel_rfl) rfl #[.slice Ao27 t923.length co27, .int .i64 1] rfl ln_ ?_; (with_reducible refine (laws_markGearS.calls kj16 (fun k_ => some k_ = (.slice Ao27 t923.length co27 : Value).ownBlock) (.slice Ao27 t923.length co27) t923 1 t942 t943 w _ ?side1 ?side2 A43.out).mono ?_); (case side1 => repeat (first | (with_reducible first | exact HB.out | apply below_alloc | apply pw_below_drewN | apply below_drew1) | exact HB.out)); (case side2 => exact Kd.R_tight rfl HO_10.out); rintro e w52 ⟨rfl, hy0, hb, hkp⟩; refine ⟨_, rfl, ?_⟩; have n0_ := Aside0.mk (Kd.R_mono (ok' := fun k_ => some k_ ≠ (v931 : Value).ownBlock) (Kd.R_keptB ((Kd.R_apart' HO_8.out (Kd.R_typed HO_10.out) (by decide))) hkp (fun k_ hk_ hs_ => (hk_.2) hs_)) (fun k_ hk_ => hk_.1.1)); have n1_ := Aside0.mk (Kd.R_reok rfl hy0 (fun k_ e_ => HO_10.out.1 k_ e_)); have n2_ := Aside0.mk (Kd.R_mono (ok' := fun k_ => some k_ ≠ (.slice Ao50 t938.length co50 : Value).ownBlock) (Kd.R_keptB ((Kd.R_apart' HO_11.out (Kd.R_typed HO_10.out) (by decide))) hkp (fun k_ hk_ hs_ => (hk_.2) hs_)) (fun k_ hk_ => hk_.1.1.2)); have n3_ := Aside0.mk (Kd.R_mono (ok' := fun k_ => some k_ ≠ (v921 : Value).ownBlock) (Kd.R_keptB ((Kd.R_apart' HO_12.out (Kd.R_typed HO_10.out) (by decide))) hkp (fun k_ hk_ hs_ => (hk_.2) hs_)) (fun k_ hk_ => hk_.1.1)); have n4_ := Aside0.mk (Kd.R_mono (ok' := fun k_ => some k_ ≠ (.slice Ao27 t923.length co27 : Value).ownBlock) (Kd.R_keptB (HO936.out) hkp (fun k_ hk_ hs_ => (hk_.2) hs_)) (fun k_ hk_ => hk_.1.2)); have n5_ := Aside0.mk (Kd.R_mono (ok' := fun k_ => some k_ ≠ (.slice Ao28 t926.length co28 : Value).ownBlock) (Kd.R_keptB ((Kd.R_apart' HO940.out (Kd.R_typed HO_10.out) (by decide))) hkp (fun k_ hk_ hs_ => (hk_.2) hs_)) (fun k_ hk_ => hk_.1.1.2)); have n6_ := Aside0.mk (hb); clear HO_8; clear HO_10; clear HO_11; clear HO_12; clear HO936; clear HO940; clear HB; have HO_8 := n0_; have HO_10 := n1_; have HO_11 := n2_; have HO_12 := n3_; have HO936 := n4_; have HO940 := n5_; have HB := n6_; clear n0_ n1_ n2_ n3_ n4_ n5_ n6_; (try clear hb); (try clear hkp); (try clear hy0)) | ((with_reducible refine gate_callee (f := 41) rfl ?_); refine goesL_ (some 73) rfl rfl Try.func41 (by kernel_rfl) rfl #[.slice Ao28 t926.length co28, .int .i64 t942] rfl ln_ ?_; (with_reducible refine (laws_markCheckS.calls kj16 (fun k_ => some k_ = (.slice Ao28 t926.length co28 : Value).ownBlock) (.slice Ao28 t926.length co28) t926 t942 t944 t945 w _ ?side1 ?side2 A44.out).mono ?_); (case side1 => repeat (first | (with_reducible first | exact HB.out | apply below_alloc | apply pw_below_drewN | apply below_drew1) | exact HB.out)); (case side2 => exact Kd.R_tight rfl HO_11.out); rintro e w53 ⟨rfl, hy0, hb, hkp⟩; refine ⟨_, rfl, ?_⟩; have n0_ := Aside0.mk (Kd.R_mono (ok' := fun k_ => some k_ ≠ (v931 : Value).ownBlock) (Kd.R_keptB ((Kd.R_apart' HO_8.out (Kd.R_typed HO_11.out) (by decide))) hkp (fun k_ hk_ hs_ => (hk_.2) hs_)) (fun k_ hk_ => hk_.1.1)); have n1_ := Aside0.mk (Kd.R_mono (ok' := fun k_ => some k_ ≠ (.slice Ao47 t934.length co47 : Value).ownBlock) (Kd.R_keptB ((Kd.R_apart' HO_10.out (Kd.R_typed HO_11.out) (by decide))) hkp (fun k_ hk_ hs_ => (hk_.2) hs_)) (fun k_ hk_ => hk_.1.1.2)); have n2_ := Aside0.mk (Kd.R_reok rfl hy0 (fun k_ e_ => HO_11.out.1 k_ e_)); have n3_ := Aside0.mk (Kd.R_mono (ok' := fun k_ => some k_ ≠ (v921 : Value).ownBlock) (Kd.R_keptB ((Kd.R_apart' HO_12.out (Kd.R_typed HO_11.out) (by decide))) hkp (fun k_ hk_ hs_ => (hk_.2) hs_)) (fun k_ hk_ => hk_.1.1)); have n4_ := Aside0.mk (Kd.R_mono (ok' := fun k_ => some k_ ≠ (.slice Ao27 t923.length co27 : Value).ownBlock) (Kd.R_keptB ((Kd.R_apart' HO936.out (Kd.R_typed HO_11.out) (by decide))) hkp (fun k_ hk_ hs_ => (hk_.2) hs_)) (fun k_ hk_ => hk_.1.1)); have n5_ := Aside0.mk (Kd.R_mono (ok' := fun k_ => some k_ ≠ (.slice Ao28 t926.length co28 : Value).ownBlock) (Kd.R_keptB (HO940.out) hkp (fun k_ hk_ hs_ => (hk_) hs_)) (fun k_ hk_ => hk_.1)); have n6_ := Aside0.mk (hb); clear HO_8; clear HO_10; clear HO_11; clear HO_12; clear HO936; clear HO940; clear HB; have HO_8 := n0_; have HO_10 := n1_; have HO_11 := n2_; have HO_12 := n3_; have HO936 := n4_; have HO940 := n5_; have HB := n6_; clear n0_ n1_ n2_ n3_ n4_ n5_ n6_; (try clear hb); (try clear hkp); (try clear hy0)))
        (try simp only [Act.put, List.setIfInBounds_toArray, List.set_cons_zero, List.set_cons_succ])
        go_cut [86] (fun v86 wc => ∃ (kq : Nat) (x86_44 : Bool), v86 = .bool x86_44 ∧ Aside0 (laws_FnExactWornOn.j1 kq l0 l1 a2 t919 t920 t929 x86_44 = some r) ∧ Aside0 (kq ≤ kj16) ∧ Aside0 (Kd.R Kd.string 9 wc w.heap.size (fun k_ => some k_ ≠ (v931 : Value).ownBlock) v921 t919) ∧ Aside0 (Kd.R Kd.string 9 wc w.heap.size (fun k_ => some k_ ≠ (v921 : Value).ownBlock) v931 t929) ∧ Aside0 (Below w.heap.size w wc))
        case first =>
         have H := HC45.out
         clear HC45
         by_cases c54 : t944 < 0
         ·rw [if_pos c54] at H
          have c54b0 : decide (t944 < 0) = true := decide_eq_true c54
          clear c54
          (first | rw [c54b0] | (simp only [i64_w, i32_w]; rw [c54b0]) | skip)
          have H' := Aside0.mk H
          clear H
          go_wp2
          go_meet
          case rel => exact ⟨_, (true), (by first | rfl | (simp; done) | (simp [*]; done)), H', ⟨by have := HJ16.out; first | omega | exact Nat.le_refl _⟩, ⟨by (with_reducible repeat (first | apply Kd.R_alloc | apply Kd.R_drewN | apply Kd.R_drew)); exact HO_8.out⟩, ⟨by (with_reducible repeat (first | apply Kd.R_alloc | apply Kd.R_drewN | apply Kd.R_drew)); exact HO_12.out⟩, ⟨hb_⟩⟩
         ·rw [if_neg c54] at H
          have c54b0 : decide (t944 < 0) = false := decide_eq_false c54
          clear c54
          (first | rw [c54b0] | (simp only [i64_w, i32_w]; rw [c54b0]) | skip)
          replace H := Option.bind_eq_some_iff.mp H
          obtain ⟨t946, A550, H⟩ := H
          replace H : (if t946 = true then (laws_FnExactWornOn.j1 kj16 l0 l1 a2 t919 t920 t929 (t930 != t920)) else (laws_FnExactWornOn.j1 kj16 l0 l1 a2 t919 t920 t929 true)) = some r := H
          have A55 := Aside0.mk A550
          clear A550
          by_cases c56 : t946 = true
          ·subst c56
           have H1 : (laws_FnExactWornOn.j1 kj16 l0 l1 a2 t919 t920 t929 (t930 != t920)) = some r := by rw [if_pos rfl] at H; exact H
           clear H
           have H := H1
           clear H1
           have H' := Aside0.mk H
           clear H
           obtain ⟨Ao57, co57, eo57⟩ := Kd.R_slice HO_12.out
           subst eo57
           obtain ⟨Ao58, co58, eo58⟩ := Kd.R_slice HO_8.out
           subst eo58
           go_wp2_with (first | (go_at_call 45; (with_reducible refine (laws_eqStringS.calls kj16 _ _ t929 _ _ t919 true _ ?side1 ?side2 ?side3 ?side4 A55.out).mono ?_); (case side1 => repeat (first | exact (Kd.R_reads' HO_12.out).2.2 | (with_reducible refine Kd.C_alloc ?_ _) | (with_reducible refine Kd.C_drewN ?_ _) | (with_reducible refine Kd.C_drew ?_))); (case side2 => exact (Kd.R_reads' HO_12.out).2.1); (case side3 => repeat (first | exact (Kd.R_reads' HO_8.out).2.2 | (with_reducible refine Kd.C_alloc ?_ _) | (with_reducible refine Kd.C_drewN ?_ _) | (with_reducible refine Kd.C_drew ?_))); (case side4 => exact (Kd.R_reads' HO_8.out).2.1); rintro e w' ⟨rfl, ⟨nd, rfl⟩⟩))
           go_meet
           case rel => exact ⟨_, ((t930 != t920)), (by first | rfl | (simp; done) | (simp [*]; done)), H', ⟨by have := HJ16.out; first | omega | exact Nat.le_refl _⟩, ⟨by (with_reducible repeat (first | apply Kd.R_alloc | apply Kd.R_drewN | apply Kd.R_drew)); exact HO_8.out⟩, ⟨by (with_reducible repeat (first | apply Kd.R_alloc | apply Kd.R_drewN | apply Kd.R_drew)); exact HO_12.out⟩, ⟨hb_⟩⟩
          ·replace c56 := Bool.eq_false_iff.mpr c56
           subst c56
           have H1 : (laws_FnExactWornOn.j1 kj16 l0 l1 a2 t919 t920 t929 true) = some r := by rw [if_neg (show ¬ (false = true) by decide)] at H; exact H
           clear H
           have H := H1
           clear H1
           have H' := Aside0.mk H
           clear H
           obtain ⟨Ao59, co59, eo59⟩ := Kd.R_slice HO_12.out
           subst eo59
           obtain ⟨Ao60, co60, eo60⟩ := Kd.R_slice HO_8.out
           subst eo60
           go_wp2_with (first | (go_at_call 45; (with_reducible refine (laws_eqStringS.calls kj16 _ _ t929 _ _ t919 false _ ?side1 ?side2 ?side3 ?side4 A55.out).mono ?_); (case side1 => repeat (first | exact (Kd.R_reads' HO_12.out).2.2 | (with_reducible refine Kd.C_alloc ?_ _) | (with_reducible refine Kd.C_drewN ?_ _) | (with_reducible refine Kd.C_drew ?_))); (case side2 => exact (Kd.R_reads' HO_12.out).2.1); (case side3 => repeat (first | exact (Kd.R_reads' HO_8.out).2.2 | (with_reducible refine Kd.C_alloc ?_ _) | (with_reducible refine Kd.C_drewN ?_ _) | (with_reducible refine Kd.C_drew ?_))); (case side4 => exact (Kd.R_reads' HO_8.out).2.1); rintro e w' ⟨rfl, ⟨nd, rfl⟩⟩))
           go_meet
           case rel => exact ⟨_, (true), (by first | rfl | (simp; done) | (simp [*]; done)), H', ⟨by have := HJ16.out; first | omega | exact Nat.le_refl _⟩, ⟨by (with_reducible repeat (first | apply Kd.R_alloc | apply Kd.R_drewN | apply Kd.R_drew)); exact HO_8.out⟩, ⟨by (with_reducible repeat (first | apply Kd.R_alloc | apply Kd.R_drewN | apply Kd.R_drew)); exact HO_12.out⟩, ⟨hb_⟩⟩
        case rest =>
         clear HC45
         try clear c1
         try clear c2
         try clear p2
         try clear c3
         try clear c4
         try clear c5
         try clear c5b0
         try clear c8
         try clear c8b0
         try clear c14
         try clear c15
         try clear c17
         try clear c19
         try clear c20
         try clear c22
         try clear c24
         try clear c29
         try clear c31
         try clear c36
         try clear c39
         try clear c41
         try clear c42
         try clear c45
         try clear c53
         try clear c54
         try clear c54b0
         try clear c56
         try clear p2
         obtain ⟨kq, x86_44, rfl, HA, HJ44, HO_8, HO_12, HB⟩ := hcut
         cases kq with
         | zero => exact absurd HA.out (by simp [laws_FnExactWornOn.j1])
         | succ kj44 =>
          have H := HA.out
          clear HA
          simp only [laws_FnExactWornOn.j1] at H
          by_cases c61 : x86_44 = true
          ·subst c61
           have H1 : (some false) = some r := by rw [if_pos rfl] at H; exact H
           clear H
           have H := H1
           clear H1
           obtain rfl := Option.some.inj H
           go_wp2
           go_ret
           exact ⟨ew_, hb_⟩
          ·replace c61 := Bool.eq_false_iff.mpr c61
           subst c61
           have H1 : ((laws_markStringS.f kj44 t929 1).bind fun bt947 => ((laws_heldStringS.f kj44 bt947.2 1).bind fun t949 => (if t949 < 0 then (some false) else (if t949 = bt947.1 then ((laws_toGearS.f kj44 l0).bind fun t950 => ((laws_toCheckS.f kj44 l1).bind fun t953 => ((impl_WornOn.f kj44 t950 t953 a2).bind fun bt956 => ((laws_eqStringS.f kj44 bt956.1 t919).bind fun t960 => (if t960 = true then (laws_FnExactWornOn.j2 kj44 bt947.2 bt947.1 (bt956.2 != t920)) else (laws_FnExactWornOn.j2 kj44 bt947.2 bt947.1 true)))))) else (some false))))) = some r := by rw [if_neg (show ¬ (false = true) by decide)] at H; exact H
           clear H
           have H := H1
           clear H1
           replace H := Option.bind_eq_some_iff.mp H
           obtain ⟨⟨t947, t948⟩, A620, H⟩ := H
           replace H : ((laws_heldStringS.f kj44 t948 1).bind fun t949 => (if t949 < 0 then (some false) else (if t949 = t947 then ((laws_toGearS.f kj44 l0).bind fun t950 => ((laws_toCheckS.f kj44 l1).bind fun t953 => ((impl_WornOn.f kj44 t950 t953 a2).bind fun bt956 => ((laws_eqStringS.f kj44 bt956.1 t919).bind fun t960 => (if t960 = true then (laws_FnExactWornOn.j2 kj44 t948 t947 (bt956.2 != t920)) else (laws_FnExactWornOn.j2 kj44 t948 t947 true)))))) else (some false)))) = some r := H
           have A62 := Aside0.mk A620
           clear A620
           replace H := Option.bind_eq_some_iff.mp H
           obtain ⟨t949, A630, H⟩ := H
           replace H : (if t949 < 0 then (some false) else (if t949 = t947 then ((laws_toGearS.f kj44 l0).bind fun t950 => ((laws_toCheckS.f kj44 l1).bind fun t953 => ((impl_WornOn.f kj44 t950 t953 a2).bind fun bt956 => ((laws_eqStringS.f kj44 bt956.1 t919).bind fun t960 => (if t960 = true then (laws_FnExactWornOn.j2 kj44 t948 t947 (bt956.2 != t920)) else (laws_FnExactWornOn.j2 kj44 t948 t947 true)))))) else (some false))) = some r := H
           have A63 := Aside0.mk A630
           clear A630
           by_cases c64 : t949 < 0
           ·rw [if_pos c64] at H
            have c64b0 : decide (t949 < 0) = true := decide_eq_true c64
            clear c64
            obtain rfl := Option.some.inj H
            obtain ⟨Ao65, co65, eo65⟩ := Kd.R_slice HO_12.out
            subst eo65
            go_wp2_with (first | ((with_reducible refine gate_callee (f := 46) rfl ?_); refine goesL_ (some 89) rfl rfl Try.func46 (by kernel_rfl) rfl #[.slice Ao65 t929.length co65, .int .i64 1] rfl ln_ ?_; (with_reducible refine (laws_markStringS.calls kj44 (fun k_ => some k_ = (.slice Ao65 t929.length co65 : Value).ownBlock) (.slice Ao65 t929.length co65) t929 1 t947 t948 w _ ?side1 ?side2 A62.out).mono ?_); (case side1 => repeat (first | (with_reducible first | exact HB.out | apply below_alloc | apply pw_below_drewN | apply below_drew1) | exact HB.out)); (case side2 => exact Kd.R_tight rfl HO_12.out); rintro e w66 ⟨rfl, hy0, hb, hkp⟩; refine ⟨_, rfl, ?_⟩; have n0_ := Aside0.mk (Kd.R_mono (ok' := fun k_ => some k_ ≠ (.slice Ao65 t929.length co65 : Value).ownBlock) (Kd.R_keptB (HO_8.out) hkp (fun k_ hk_ hs_ => (hk_) hs_)) (fun k_ hk_ => hk_.1)); have n1_ := Aside0.mk (Kd.R_reok rfl hy0 (fun k_ e_ => HO_12.out.1 k_ e_)); have n2_ := Aside0.mk (hb); clear HO_8; clear HO_12; clear HB; have HO_8 := n0_; have HO_12 := n1_; have HB := n2_; clear n0_ n1_ n2_; (try clear hb); (try clear hkp); (try clear hy0)) | ((with_reducible refine gate_callee (f := 47) rfl ?_); refine goesL_ (some 92) rfl rfl Try.func47 (by kernel_rfl) rfl #[.slice Ao65 t948.length co65, .int .i64 1] rfl (by (try simp only [List.map_toArray, List.map_cons, List.map_nil]); first | done | (rw [show t948.length = t929.length from (Kd.R_reads' HO_12.out).1.symm] <;> rfl) | rfl | (simp only [List.length_drop, List.length_take]; rfl)) ?_; (with_reducible refine (laws_heldStringS.calls kj44 _ _ t948 1 t949 _ ?side1 ?side2 A63.out).mono ?_); (case side1 => repeat (first | exact (Kd.R_reads' HO_12.out).2.2 | (with_reducible refine Kd.C_alloc ?_ _) | (with_reducible refine Kd.C_drewN ?_ _) | (with_reducible refine Kd.C_drew ?_))); (case side2 => rw [show t948.length = t929.length from (Kd.R_reads' HO_12.out).1.symm]; exact (Kd.R_reads' HO_12.out).2.1); rintro e w67 ⟨rfl, hb⟩; refine ⟨_, rfl, ?_⟩; have n0_ := Aside0.mk (Kd.R_below (kr_ HO_8) hb); have n1_ := Aside0.mk (Kd.R_below (kr_ HO_12) hb); have n2_ := Aside0.mk (below_step hb_ hb); clear HO_8; clear HO_12; clear HB; have HO_8 := n0_; have HO_12 := n1_; have HB := n2_; clear n0_ n1_ n2_; (try clear hb); (try clear hb2); (try clear hk); (try clear hi)))
            go_ret
            exact ⟨ew_, hb_⟩
           ·rw [if_neg c64] at H
            have c64b0 : decide (t949 < 0) = false := decide_eq_false c64
            clear c64
            by_cases c68 : t949 = t947
            ·rw [if_pos c68] at H
             have c68b0 : (t949 == t947) = true := beq_iff_eq.mpr c68
             have c68b1 : (t949 != t947) = false := bne_eq_false_iff_eq.mpr c68
             clear c68
             replace H := Option.bind_eq_some_iff.mp H
             obtain ⟨t950, A690, H⟩ := H
             replace H : ((laws_toCheckS.f kj44 l1).bind fun t953 => ((impl_WornOn.f kj44 t950 t953 a2).bind fun bt956 => ((laws_eqStringS.f kj44 bt956.1 t919).bind fun t960 => (if t960 = true then (laws_FnExactWornOn.j2 kj44 t948 t947 (bt956.2 != t920)) else (laws_FnExactWornOn.j2 kj44 t948 t947 true))))) = some r := H
             have A69 := Aside0.mk A690
             clear A690
             replace H := Option.bind_eq_some_iff.mp H
             obtain ⟨t953, A700, H⟩ := H
             replace H : ((impl_WornOn.f kj44 t950 t953 a2).bind fun bt956 => ((laws_eqStringS.f kj44 bt956.1 t919).bind fun t960 => (if t960 = true then (laws_FnExactWornOn.j2 kj44 t948 t947 (bt956.2 != t920)) else (laws_FnExactWornOn.j2 kj44 t948 t947 true)))) = some r := H
             have A70 := Aside0.mk A700
             clear A700
             replace H := Option.bind_eq_some_iff.mp H
             obtain ⟨⟨t956, t957⟩, A710, H⟩ := H
             replace H : ((laws_eqStringS.f kj44 t956 t919).bind fun t960 => (if t960 = true then (laws_FnExactWornOn.j2 kj44 t948 t947 (t957 != t920)) else (laws_FnExactWornOn.j2 kj44 t948 t947 true))) = some r := H
             have A71 := Aside0.mk A710
             clear A710
             have HC72 := Aside0.mk H
             clear H
             obtain ⟨Ao73, co73, eo73⟩ := Kd.R_slice HO_12.out
             subst eo73
             go_upto_region 32 with (first | ((with_reducible refine gate_callee (f := 46) rfl ?_); refine goesL_ (some 89) rfl rfl Try.func46 (by kernel_rfl) rfl #[.slice Ao73 t929.length co73, .int .i64 1] rfl ln_ ?_; (with_reducible refine (laws_markStringS.calls kj44 (fun k_ => some k_ = (.slice Ao73 t929.length co73 : Value).ownBlock) (.slice Ao73 t929.length co73) t929 1 t947 t948 w _ ?side1 ?side2 A62.out).mono ?_); (case side1 => repeat (first | (with_reducible first | exact HB.out | apply below_alloc | apply pw_below_drewN | apply below_drew1) | exact HB.out)); (case side2 => exact Kd.R_tight rfl HO_12.out); rintro e w74 ⟨rfl, hy0, hb, hkp⟩; refine ⟨_, rfl, ?_⟩; have n0_ := Aside0.mk (Kd.R_mono (ok' := fun k_ => some k_ ≠ (.slice Ao73 t929.length co73 : Value).ownBlock) (Kd.R_keptB (HO_8.out) hkp (fun k_ hk_ hs_ => (hk_) hs_)) (fun k_ hk_ => hk_.1)); have n1_ := Aside0.mk (Kd.R_reok rfl hy0 (fun k_ e_ => HO_12.out.1 k_ e_)); have n2_ := Aside0.mk (hb); clear HO_8; clear HO_12; clear HB; have HO_8 := n0_; have HO_12 := n1_; have HB := n2_; clear n0_ n1_ n2_; (try clear hb); (try clear hkp); (try clear hy0)) | ((with_reducible refine gate_callee (f := 47) rfl ?_); refine goesL_ (some 92) rfl rfl Try.func47 (by kernel_rfl) rfl #[.slice Ao73 t948.length co73, .int .i64 1] rfl (by (try simp only [List.map_toArray, List.map_cons, List.map_nil]); first | done | (rw [show t948.length = t929.length from (Kd.R_reads' HO_12.out).1.symm] <;> rfl) | rfl | (simp only [List.length_drop, List.length_take]; rfl)) ?_; (with_reducible refine (laws_heldStringS.calls kj44 _ _ t948 1 t949 _ ?side1 ?side2 A63.out).mono ?_); (case side1 => repeat (first | exact (Kd.R_reads' HO_12.out).2.2 | (with_reducible refine Kd.C_alloc ?_ _) | (with_reducible refine Kd.C_drewN ?_ _) | (with_reducible refine Kd.C_drew ?_))); (case side2 => rw [show t948.length = t929.length from (Kd.R_reads' HO_12.out).1.symm]; exact (Kd.R_reads' HO_12.out).2.1); rintro e w75 ⟨rfl, hb⟩; refine ⟨_, rfl, ?_⟩; have n0_ := Aside0.mk (Kd.R_below (kr_ HO_8) hb); have n1_ := Aside0.mk (Kd.R_below (kr_ HO_12) hb); have n2_ := Aside0.mk (below_step hb_ hb); clear HO_8; clear HO_12; clear HB; have HO_8 := n0_; have HO_12 := n1_; have HB := n2_; clear n0_ n1_ n2_; (try clear hb); (try clear hb2); (try clear hk); (try clear hi)) | ((with_reducible refine gate_callee (f := 22) rfl ?_); refine goesL_ (some 100) rfl rfl Try.func22 (by kernel_rfl) rfl #[.slice A0 l0.length c0] rfl ln_ ?_; (with_reducible refine (laws_toGearS.calls kj44 _ _ l0 t950 _ ?side1 ?side2 A69.out).mono ?_); (case side1 => exact kc_ (Kd.C_below HR0.out HB.out)); (case side2 => exact HC0.out); rintro e w76 ⟨v951, rfl, ho0, hb⟩; refine ⟨_, rfl, ?_⟩; have n0_ := Aside0.mk (Kd.R_below (kr_ HO_8) hb); have n1_ := Aside0.mk (Kd.R_below (kr_ HO_12) hb); have n2_ := Aside0.mk (Kd.R_lower ho0 (below_size hb_)); have n3_ := Aside0.mk (below_step hb_ hb); clear HO_8; clear HO_12; clear HB; have HO_8 := n0_; have HO_12 := n1_; have HO952 := n2_; have HB := n3_; clear n0_ n1_ n2_ n3_; (try clear hb); (try clear hb2); (try clear hk); (try clear hi); (try clear ho0)) | ((with_reducible refine gate_callee (f := 17) rfl ?_); refine goesL_ (some 102) rfl rfl Try.func17 (by kernel_rfl) rfl #[.slice A1 l1.length c1] rfl ln_ ?_; (with_reducible refine (laws_toCheckS.calls kj44 _ _ l1 t953 _ ?side1 ?side2 A70.out).mono ?_); (case side1 => exact kc_ (Kd.C_below HR1.out HB.out)); (case side2 => exact HC1.out); rintro e w77 ⟨v954, rfl, ho0, hb⟩; refine ⟨_, rfl, ?_⟩; have n0_ := Aside0.mk (Kd.R_below (kr_ HO_8) hb); have n1_ := Aside0.mk (Kd.R_below (kr_ HO_12) hb); have n2_ := Aside0.mk (Kd.R_below (kr_ HO952) hb); have n3_ := Aside0.mk (Kd.R_lower ho0 (below_size hb_)); have n4_ := Aside0.mk (below_step hb_ hb); clear HO_8; clear HO_12; clear HO952; clear HB; have HO_8 := n0_; have HO_12 := n1_; have HO952 := n2_; have HO955 := n3_; have HB := n4_; clear n0_ n1_ n2_ n3_ n4_; (try clear hb); (try clear hb2); (try clear hk); (try clear hi); (try clear ho0); obtain ⟨Ao78, co78, eo78⟩ := Kd.R_slice HO952.out; subst eo78; obtain ⟨Ao79, co79, eo79⟩ := Kd.R_slice HO955.out; subst eo79) | ((with_reducible refine gate_callee (f := 54) rfl ?_); refine goesL_ (some 104) rfl rfl Try.func54 (by kernel_rfl) rfl #[.slice Ao78 t950.length co78, .slice Ao79 t953.length co79, .int .i64 a2] rfl ln_ ?_; (with_reducible refine (impl_WornOn.calls kj44 _ _ t950 _ _ t953 a2 t956 t957 _ ?side1 ?side2 ?side3 ?side4 A71.out).mono ?_); (case side1 => repeat (first | exact (Kd.R_reads' HO952.out).2.2 | (with_reducible refine Kd.C_alloc ?_ _) | (with_reducible refine Kd.C_drewN ?_ _) | (with_reducible refine Kd.C_drew ?_))); (case side2 => exact (Kd.R_reads' HO952.out).2.1); (case side3 => repeat (first | exact (Kd.R_reads' HO955.out).2.2 | (with_reducible refine Kd.C_alloc ?_ _) | (with_reducible refine Kd.C_drewN ?_ _) | (with_reducible refine Kd.C_drew ?_))); (case side4 => exact (Kd.R_reads' HO955.out).2.1); rintro e w80 ⟨v958, rfl, ho0, hb⟩; refine ⟨_, rfl, ?_⟩; have n0_ := Aside0.mk (Kd.R_elder' (kr_ HO_8) (Kd.R_base ho0) hb); have n1_ := Aside0.mk (Kd.R_elder' (kr_ HO_12) (Kd.R_base ho0) hb); have n2_ := Aside0.mk (Kd.R_below (kr_ HO952) hb); have n3_ := Aside0.mk (Kd.R_below (kr_ HO955) hb); have n4_ := Aside0.mk (Kd.R_lower (Kd.R_new' (Kd.R_new' ho0 (Kd.R_lt (kr_ HO_8))) (Kd.R_lt (kr_ HO_12))) (below_size hb_)); have n5_ := Aside0.mk (below_step hb_ hb); clear HO_8; clear HO_12; clear HO952; clear HO955; clear HB; have HO_8 := n0_; have HO_12 := n1_; have HO952 := n2_; have HO955 := n3_; have HO959 := n4_; have HB := n5_; clear n0_ n1_ n2_ n3_ n4_ n5_; (try clear hb); (try clear hb2); (try clear hk); (try clear hi); (try clear ho0)))
             (try simp only [Act.put, List.setIfInBounds_toArray, List.set_cons_zero, List.set_cons_succ])
             go_cut [115] (fun v115 wc => ∃ (kq : Nat) (x115_71 : Bool), v115 = .bool x115_71 ∧ Aside0 (laws_FnExactWornOn.j2 kq t948 t947 x115_71 = some r) ∧ Aside0 (kq ≤ kj44) ∧ Aside0 (Kd.R Kd.string 9 wc w.heap.size (fun _ => True) (.slice Ao73 t929.length co73) t948) ∧ Aside0 (Below w.heap.size w wc))
             case first =>
              have H := HC72.out
              clear HC72
              replace H := Option.bind_eq_some_iff.mp H
              obtain ⟨t960, A810, H⟩ := H
              replace H : (if t960 = true then (laws_FnExactWornOn.j2 kj44 t948 t947 (t957 != t920)) else (laws_FnExactWornOn.j2 kj44 t948 t947 true)) = some r := H
              have A81 := Aside0.mk A810
              clear A810
              by_cases c82 : t960 = true
              ·subst c82
               have H1 : (laws_FnExactWornOn.j2 kj44 t948 t947 (t957 != t920)) = some r := by rw [if_pos rfl] at H; exact H
               clear H
               have H := H1
               clear H1
               have H' := Aside0.mk H
               clear H
               obtain ⟨Ao83, co83, eo83⟩ := Kd.R_slice HO959.out
               subst eo83
               obtain ⟨Ao84, co84, eo84⟩ := Kd.R_slice HO_8.out
               subst eo84
               go_wp2_with (first | ((with_reducible refine gate_callee (f := 45) rfl ?_); refine goesL_ (some 109) rfl rfl Try.func45 (by kernel_rfl) rfl #[.slice Ao83 t956.length co83, .slice Ao84 t919.length co84] rfl ln_ ?_; (with_reducible refine (laws_eqStringS.calls kj44 _ _ t956 _ _ t919 true _ ?side1 ?side2 ?side3 ?side4 A81.out).mono ?_); (case side1 => repeat (first | exact (Kd.R_reads' HO959.out).2.2 | (with_reducible refine Kd.C_alloc ?_ _) | (with_reducible refine Kd.C_drewN ?_ _) | (with_reducible refine Kd.C_drew ?_))); (case side2 => exact (Kd.R_reads' HO959.out).2.1); (case side3 => repeat (first | exact (Kd.R_reads' HO_8.out).2.2 | (with_reducible refine Kd.C_alloc ?_ _) | (with_reducible refine Kd.C_drewN ?_ _) | (with_reducible refine Kd.C_drew ?_))); (case side4 => exact (Kd.R_reads' HO_8.out).2.1); rintro e w' ⟨rfl, ⟨nd, rfl⟩⟩; refine ⟨_, rfl, ?_⟩))
               go_meet
               case rel => exact ⟨_, ((t957 != t920)), (by first | rfl | (simp; done) | (simp [*]; done)), H', ⟨by have := HJ16.out; have := HJ44.out; first | omega | exact Nat.le_refl _⟩, ⟨by (with_reducible repeat (first | apply Kd.R_alloc | apply Kd.R_drewN | apply Kd.R_drew)); exact Kd.R_mono HO_12.out (fun _ hk => trivial)⟩, ⟨hb_⟩⟩
              ·replace c82 := Bool.eq_false_iff.mpr c82
               subst c82
               have H1 : (laws_FnExactWornOn.j2 kj44 t948 t947 true) = some r := by rw [if_neg (show ¬ (false = true) by decide)] at H; exact H
               clear H
               have H := H1
               clear H1
               have H' := Aside0.mk H
               clear H
               obtain ⟨Ao85, co85, eo85⟩ := Kd.R_slice HO959.out
               subst eo85
               obtain ⟨Ao86, co86, eo86⟩ := Kd.R_slice HO_8.out
               subst eo86
               go_wp2_with (first | ((with_reducible refine gate_callee (f := 45) rfl ?_); refine goesL_ (some 109) rfl rfl Try.func45 (by kernel_rfl) rfl #[.slice Ao85 t956.length co85, .slice Ao86 t919.length co86] rfl ln_ ?_; (with_reducible refine (laws_eqStringS.calls kj44 _ _ t956 _ _ t919 false _ ?side1 ?side2 ?side3 ?side4 A81.out).mono ?_); (case side1 => repeat (first | exact (Kd.R_reads' HO959.out).2.2 | (with_reducible refine Kd.C_alloc ?_ _) | (with_reducible refine Kd.C_drewN ?_ _) | (with_reducible refine Kd.C_drew ?_))); (case side2 => exact (Kd.R_reads' HO959.out).2.1); (case side3 => repeat (first | exact (Kd.R_reads' HO_8.out).2.2 | (with_reducible refine Kd.C_alloc ?_ _) | (with_reducible refine Kd.C_drewN ?_ _) | (with_reducible refine Kd.C_drew ?_))); (case side4 => exact (Kd.R_reads' HO_8.out).2.1); rintro e w' ⟨rfl, ⟨nd, rfl⟩⟩; refine ⟨_, rfl, ?_⟩))
               go_meet
               case rel => exact ⟨_, (true), (by first | rfl | (simp; done) | (simp [*]; done)), H', ⟨by have := HJ16.out; have := HJ44.out; first | omega | exact Nat.le_refl _⟩, ⟨by (with_reducible repeat (first | apply Kd.R_alloc | apply Kd.R_drewN | apply Kd.R_drew)); exact Kd.R_mono HO_12.out (fun _ hk => trivial)⟩, ⟨hb_⟩⟩
             case rest =>
              clear HC72
              try clear c1
              try clear c2
              try clear p2
              try clear c3
              try clear c4
              try clear c5
              try clear c5b0
              try clear c6
              try clear c8
              try clear c8b0
              try clear c14
              try clear c15
              try clear c17
              try clear c19
              try clear c20
              try clear c22
              try clear c24
              try clear c29
              try clear c31
              try clear c36
              try clear c39
              try clear c41
              try clear c42
              try clear c45
              try clear c46
              try clear c47
              try clear c53
              try clear c54
              try clear c54b0
              try clear c56
              try clear c61
              try clear c64
              try clear c64b0
              try clear c68
              try clear c68b0
              try clear c68b1
              try clear c82
              try clear p2
              obtain ⟨kq, x115_71, rfl, HA, HJ71, HO_12, HB⟩ := hcut
              have hl12_71 := (Kd.R_reads' HO_12.out).1
              rw [hl12_71] at HO_12
              (try simp only [hl12_71])
              cases kq with
              | zero => exact absurd HA.out (by simp [laws_FnExactWornOn.j2])
              | succ kj71 =>
               have H := HA.out
               clear HA
               simp only [laws_FnExactWornOn.j2] at H
               by_cases c87 : x115_71 = true
               ·subst c87
                have H1 : (some false) = some r := by rw [if_pos rfl] at H; exact H
                clear H
                have H := H1
                clear H1
                obtain rfl := Option.some.inj H
                go_wp2
                go_ret
                exact ⟨ew_, hb_⟩
               ·replace c87 := Bool.eq_false_iff.mpr c87
                subst c87
                have H1 : ((laws_heldStringS.f kj71 t948 1).bind fun t961 => (if t961 < 0 then (some false) else (if t961 = t947 then (some true) else (some false)))) = some r := by rw [if_neg (show ¬ (false = true) by decide)] at H; exact H
                clear H
                have H := H1
                clear H1
                replace H := Option.bind_eq_some_iff.mp H
                obtain ⟨t961, A880, H⟩ := H
                replace H : (if t961 < 0 then (some false) else (if t961 = t947 then (some true) else (some false))) = some r := H
                have A88 := Aside0.mk A880
                clear A880
                by_cases c89 : t961 < 0
                ·rw [if_pos c89] at H
                 have c89b0 : decide (t961 < 0) = true := decide_eq_true c89
                 clear c89
                 obtain rfl := Option.some.inj H
                 go_wp2_with (first | ((with_reducible refine gate_callee (f := 47) rfl ?_); refine goesL_ (some 118) rfl rfl Try.func47 (by kernel_rfl) rfl #[.slice Ao73 t948.length co73, .int .i64 1] rfl ln_ ?_; (with_reducible refine (laws_heldStringS.calls kj71 _ _ t948 1 t961 _ ?side1 ?side2 A88.out).mono ?_); (case side1 => repeat (first | exact (Kd.R_reads' HO_12.out).2.2 | (with_reducible refine Kd.C_alloc ?_ _) | (with_reducible refine Kd.C_drewN ?_ _) | (with_reducible refine Kd.C_drew ?_))); (case side2 => exact (Kd.R_reads' HO_12.out).2.1); rintro e w90 ⟨rfl, hb⟩; refine ⟨_, rfl, ?_⟩; have n0_ := Aside0.mk (Kd.R_below (kr_ HO_12) hb); have n1_ := Aside0.mk (below_step hb_ hb); clear HO_12; clear HB; have HO_12 := n0_; have HB := n1_; clear n0_ n1_; (try clear hb); (try clear hb2); (try clear hk); (try clear hi)))
                 go_ret
                 exact ⟨ew_, hb_⟩
                ·rw [if_neg c89] at H
                 have c89b0 : decide (t961 < 0) = false := decide_eq_false c89
                 clear c89
                 by_cases c91 : t961 = t947
                 ·rw [if_pos c91] at H
                  have c91b0 : (t961 == t947) = true := beq_iff_eq.mpr c91
                  have c91b1 : (t961 != t947) = false := bne_eq_false_iff_eq.mpr c91
                  clear c91
                  obtain rfl := Option.some.inj H
                  go_wp2_with (first | ((with_reducible refine gate_callee (f := 47) rfl ?_); refine goesL_ (some 118) rfl rfl Try.func47 (by kernel_rfl) rfl #[.slice Ao73 t948.length co73, .int .i64 1] rfl ln_ ?_; (with_reducible refine (laws_heldStringS.calls kj71 _ _ t948 1 t961 _ ?side1 ?side2 A88.out).mono ?_); (case side1 => repeat (first | exact (Kd.R_reads' HO_12.out).2.2 | (with_reducible refine Kd.C_alloc ?_ _) | (with_reducible refine Kd.C_drewN ?_ _) | (with_reducible refine Kd.C_drew ?_))); (case side2 => exact (Kd.R_reads' HO_12.out).2.1); rintro e w92 ⟨rfl, hb⟩; refine ⟨_, rfl, ?_⟩; have n0_ := Aside0.mk (Kd.R_below (kr_ HO_12) hb); have n1_ := Aside0.mk (below_step hb_ hb); clear HO_12; clear HB; have HO_12 := n0_; have HB := n1_; clear n0_ n1_; (try clear hb); (try clear hb2); (try clear hk); (try clear hi)))
                  go_ret
                  exact ⟨ew_, hb_⟩
                 ·rw [if_neg c91] at H
                  have c91b0 : (t961 == t947) = false := beq_eq_false_iff_ne.mpr c91
                  have c91b1 : (t961 != t947) = true := bne_iff_ne.mpr c91
                  obtain rfl := Option.some.inj H
                  go_wp2_with (first | ((with_reducible refine gate_callee (f := 47) rfl ?_); refine goesL_ (some 118) rfl rfl Try.func47 (by kernel_rfl) rfl #[.slice Ao73 t948.length co73, .int .i64 1] rfl ln_ ?_; (with_reducible refine (laws_heldStringS.calls kj71 _ _ t948 1 t961 _ ?side1 ?side2 A88.out).mono ?_); (case side1 => repeat (first | exact (Kd.R_reads' HO_12.out).2.2 | (with_reducible refine Kd.C_alloc ?_ _) | (with_reducible refine Kd.C_drewN ?_ _) | (with_reducible refine Kd.C_drew ?_))); (case side2 => exact (Kd.R_reads' HO_12.out).2.1); rintro e w93 ⟨rfl, hb⟩; refine ⟨_, rfl, ?_⟩; have n0_ := Aside0.mk (Kd.R_below (kr_ HO_12) hb); have n1_ := Aside0.mk (below_step hb_ hb); clear HO_12; clear HB; have HO_12 := n0_; have HB := n1_; clear n0_ n1_; (try clear hb); (try clear hb2); (try clear hk); (try clear hi)))
                  go_ret
                  exact ⟨ew_, hb_⟩
            ·rw [if_neg c68] at H
             have c68b0 : (t949 == t947) = false := beq_eq_false_iff_ne.mpr c68
             have c68b1 : (t949 != t947) = true := bne_iff_ne.mpr c68
             obtain rfl := Option.some.inj H
             obtain ⟨Ao94, co94, eo94⟩ := Kd.R_slice HO_12.out
             subst eo94
             go_wp2_with (first | ((with_reducible refine gate_callee (f := 46) rfl ?_); refine goesL_ (some 89) rfl rfl Try.func46 (by kernel_rfl) rfl #[.slice Ao94 t929.length co94, .int .i64 1] rfl ln_ ?_; (with_reducible refine (laws_markStringS.calls kj44 (fun k_ => some k_ = (.slice Ao94 t929.length co94 : Value).ownBlock) (.slice Ao94 t929.length co94) t929 1 t947 t948 w _ ?side1 ?side2 A62.out).mono ?_); (case side1 => repeat (first | (with_reducible first | exact HB.out | apply below_alloc | apply pw_below_drewN | apply below_drew1) | exact HB.out)); (case side2 => exact Kd.R_tight rfl HO_12.out); rintro e w95 ⟨rfl, hy0, hb, hkp⟩; refine ⟨_, rfl, ?_⟩; have n0_ := Aside0.mk (Kd.R_mono (ok' := fun k_ => some k_ ≠ (.slice Ao94 t929.length co94 : Value).ownBlock) (Kd.R_keptB (HO_8.out) hkp (fun k_ hk_ hs_ => (hk_) hs_)) (fun k_ hk_ => hk_.1)); have n1_ := Aside0.mk (Kd.R_reok rfl hy0 (fun k_ e_ => HO_12.out.1 k_ e_)); have n2_ := Aside0.mk (hb); clear HO_8; clear HO_12; clear HB; have HO_8 := n0_; have HO_12 := n1_; have HB := n2_; clear n0_ n1_ n2_; (try clear hb); (try clear hkp); (try clear hy0)) | ((with_reducible refine gate_callee (f := 47) rfl ?_); refine goesL_ (some 92) rfl rfl Try.func47 (by kernel_rfl) rfl #[.slice Ao94 t948.length co94, .int .i64 1] rfl (by (try simp only [List.map_toArray, List.map_cons, List.map_nil]); first | done | (rw [show t948.length = t929.length from (Kd.R_reads' HO_12.out).1.symm] <;> rfl) | rfl | (simp only [List.length_drop, List.length_take]; rfl)) ?_; (with_reducible refine (laws_heldStringS.calls kj44 _ _ t948 1 t949 _ ?side1 ?side2 A63.out).mono ?_); (case side1 => repeat (first | exact (Kd.R_reads' HO_12.out).2.2 | (with_reducible refine Kd.C_alloc ?_ _) | (with_reducible refine Kd.C_drewN ?_ _) | (with_reducible refine Kd.C_drew ?_))); (case side2 => rw [show t948.length = t929.length from (Kd.R_reads' HO_12.out).1.symm]; exact (Kd.R_reads' HO_12.out).2.1); rintro e w96 ⟨rfl, hb⟩; refine ⟨_, rfl, ?_⟩; have n0_ := Aside0.mk (Kd.R_below (kr_ HO_8) hb); have n1_ := Aside0.mk (Kd.R_below (kr_ HO_12) hb); have n2_ := Aside0.mk (below_step hb_ hb); clear HO_8; clear HO_12; clear HB; have HO_8 := n0_; have HO_12 := n1_; have HB := n2_; clear n0_ n1_ n2_; (try clear hb); (try clear hb2); (try clear hk); (try clear hi)))
             go_ret
             exact ⟨ew_, hb_⟩
       ·replace c42 := Bool.eq_false_iff.mpr c42
        subst c42
        have H1 : (some false) = some r := by rw [if_neg (show ¬ (false = true) by decide)] at H; exact H
        clear H
        have H := H1
        clear H1
        obtain rfl := Option.some.inj H
        go_wp2_with (first | ((with_reducible refine gate_callee (f := 22) rfl ?_); refine goesL_ (some 60) rfl rfl Try.func22 (by kernel_rfl) rfl #[.slice A0 l0.length c0] rfl ln_ ?_; (with_reducible refine (laws_toGearS.calls kj16 _ _ l0 t934 _ ?side1 ?side2 A37.out).mono ?_); (case side1 => exact kc_ (Kd.C_below HR0.out HB.out)); (case side2 => exact HC0.out); rintro e w97 ⟨v935, rfl, ho0, hb⟩; refine ⟨_, rfl, ?_⟩; have n0_ := Aside0.mk (Kd.R_below (kr_ HO_8) hb); have n1_ := Aside0.mk (Kd.R_elder' (kr_ HO_10) (Kd.R_base ho0) hb); have n2_ := Aside0.mk (Kd.R_below (kr_ HO_11) hb); have n3_ := Aside0.mk (Kd.R_below (kr_ HO_12) hb); have n4_ := Aside0.mk (Kd.R_lower (Kd.R_new' ho0 (Kd.R_lt (kr_ HO_10))) (below_size hb_)); have n5_ := Aside0.mk (below_step hb_ hb); clear HO_8; clear HO_10; clear HO_11; clear HO_12; clear HB; have HO_8 := n0_; have HO_10 := n1_; have HO_11 := n2_; have HO_12 := n3_; have HO936 := n4_; have HB := n5_; clear n0_ n1_ n2_ n3_ n4_ n5_; (try clear hb); (try clear hb2); (try clear hk); (try clear hi); (try clear ho0); obtain ⟨Ao98, co98, eo98⟩ := Kd.R_slice HO936.out; subst eo98) | ((with_reducible refine gate_callee (f := 24) rfl ?_); refine goesL_ (some 61) rfl rfl Try.func24 (by kernel_rfl) rfl #[.slice Ao27 t923.length co27, .slice Ao98 t934.length co98] rfl ln_ ?_; (with_reducible refine (laws_eqGearS.calls kj16 _ _ t923 _ _ t934 true _ ?side1 ?side2 ?side3 ?side4 A38.out).mono ?_); (case side1 => repeat (first | exact (Kd.R_reads' HO_10.out).2.2 | (with_reducible refine Kd.C_alloc ?_ _) | (with_reducible refine Kd.C_drewN ?_ _) | (with_reducible refine Kd.C_drew ?_))); (case side2 => exact (Kd.R_reads' HO_10.out).2.1); (case side3 => repeat (first | exact (Kd.R_reads' HO936.out).2.2 | (with_reducible refine Kd.C_alloc ?_ _) | (with_reducible refine Kd.C_drewN ?_ _) | (with_reducible refine Kd.C_drew ?_))); (case side4 => exact (Kd.R_reads' HO936.out).2.1); rintro e w99 ⟨rfl, hb⟩; refine ⟨_, rfl, ?_⟩; have n0_ := Aside0.mk (Kd.R_below (kr_ HO_8) hb); have n1_ := Aside0.mk (Kd.R_below (kr_ HO_10) hb); have n2_ := Aside0.mk (Kd.R_below (kr_ HO_11) hb); have n3_ := Aside0.mk (Kd.R_below (kr_ HO_12) hb); have n4_ := Aside0.mk (Kd.R_below (kr_ HO936) hb); have n5_ := Aside0.mk (below_step hb_ hb); clear HO_8; clear HO_10; clear HO_11; clear HO_12; clear HO936; clear HB; have HO_8 := n0_; have HO_10 := n1_; have HO_11 := n2_; have HO_12 := n3_; have HO936 := n4_; have HB := n5_; clear n0_ n1_ n2_ n3_ n4_ n5_; (try clear hb); (try clear hb2); (try clear hk); (try clear hi)) | ((with_reducible refine gate_callee (f := 17) rfl ?_); refine goesL_ (some 65) rfl rfl Try.func17 (by kernel_rfl) rfl #[.slice A1 l1.length c1] rfl ln_ ?_; (with_reducible refine (laws_toCheckS.calls kj16 _ _ l1 t938 _ ?side1 ?side2 A40.out).mono ?_); (case side1 => exact kc_ (Kd.C_below HR1.out HB.out)); (case side2 => exact HC1.out); rintro e w100 ⟨v939, rfl, ho0, hb⟩; refine ⟨_, rfl, ?_⟩; have n0_ := Aside0.mk (Kd.R_below (kr_ HO_8) hb); have n1_ := Aside0.mk (Kd.R_below (kr_ HO_10) hb); have n2_ := Aside0.mk (Kd.R_elder' (kr_ HO_11) (Kd.R_base ho0) hb); have n3_ := Aside0.mk (Kd.R_below (kr_ HO_12) hb); have n4_ := Aside0.mk (Kd.R_below (kr_ HO936) hb); have n5_ := Aside0.mk (Kd.R_lower (Kd.R_new' ho0 (Kd.R_lt (kr_ HO_11))) (below_size hb_)); have n6_ := Aside0.mk (below_step hb_ hb); clear HO_8; clear HO_10; clear HO_11; clear HO_12; clear HO936; clear HB; have HO_8 := n0_; have HO_10 := n1_; have HO_11 := n2_; have HO_12 := n3_; have HO936 := n4_; have HO940 := n5_; have HB := n6_; clear n0_ n1_ n2_ n3_ n4_ n5_ n6_; (try clear hb); (try clear hb2); (try clear hk); (try clear hi); (try clear ho0); obtain ⟨Ao101, co101, eo101⟩ := Kd.R_slice HO940.out; subst eo101) | ((with_reducible refine gate_callee (f := 19) rfl ?_); refine goesL_ (some 66) rfl rfl Try.func19 (by kernel_rfl) rfl #[.slice Ao28 t926.length co28, .slice Ao101 t938.length co101] rfl ln_ ?_; (with_reducible refine (laws_eqCheckS.calls kj16 _ _ t926 _ _ t938 false _ ?side1 ?side2 ?side3 ?side4 A41.out).mono ?_); (case side1 => repeat (first | exact (Kd.R_reads' HO_11.out).2.2 | (with_reducible refine Kd.C_alloc ?_ _) | (with_reducible refine Kd.C_drewN ?_ _) | (with_reducible refine Kd.C_drew ?_))); (case side2 => exact (Kd.R_reads' HO_11.out).2.1); (case side3 => repeat (first | exact (Kd.R_reads' HO940.out).2.2 | (with_reducible refine Kd.C_alloc ?_ _) | (with_reducible refine Kd.C_drewN ?_ _) | (with_reducible refine Kd.C_drew ?_))); (case side4 => exact (Kd.R_reads' HO940.out).2.1); rintro e w102 ⟨rfl, hb⟩; refine ⟨_, rfl, ?_⟩; have n0_ := Aside0.mk (Kd.R_below (kr_ HO_8) hb); have n1_ := Aside0.mk (Kd.R_below (kr_ HO_10) hb); have n2_ := Aside0.mk (Kd.R_below (kr_ HO_11) hb); have n3_ := Aside0.mk (Kd.R_below (kr_ HO_12) hb); have n4_ := Aside0.mk (Kd.R_below (kr_ HO936) hb); have n5_ := Aside0.mk (Kd.R_below (kr_ HO940) hb); have n6_ := Aside0.mk (below_step hb_ hb); clear HO_8; clear HO_10; clear HO_11; clear HO_12; clear HO936; clear HO940; clear HB; have HO_8 := n0_; have HO_10 := n1_; have HO_11 := n2_; have HO_12 := n3_; have HO936 := n4_; have HO940 := n5_; have HB := n6_; clear n0_ n1_ n2_ n3_ n4_ n5_ n6_; (try clear hb); (try clear hb2); (try clear hk); (try clear hi)))
        go_ret
        exact ⟨ew_, hb_⟩
      ·replace c39 := Bool.eq_false_iff.mpr c39
       subst c39
       have H1 : (some false) = some r := by rw [if_neg (show ¬ (false = true) by decide)] at H; exact H
       clear H
       have H := H1
       clear H1
       obtain rfl := Option.some.inj H
       go_wp2_with (first | ((with_reducible refine gate_callee (f := 22) rfl ?_); refine goesL_ (some 60) rfl rfl Try.func22 (by kernel_rfl) rfl #[.slice A0 l0.length c0] rfl ln_ ?_; (with_reducible refine (laws_toGearS.calls kj16 _ _ l0 t934 _ ?side1 ?side2 A37.out).mono ?_); (case side1 => exact kc_ (Kd.C_below HR0.out HB.out)); (case side2 => exact HC0.out); rintro e w103 ⟨v935, rfl, ho0, hb⟩; refine ⟨_, rfl, ?_⟩; have n0_ := Aside0.mk (Kd.R_below (kr_ HO_8) hb); have n1_ := Aside0.mk (Kd.R_elder' (kr_ HO_10) (Kd.R_base ho0) hb); have n2_ := Aside0.mk (Kd.R_below (kr_ HO_11) hb); have n3_ := Aside0.mk (Kd.R_below (kr_ HO_12) hb); have n4_ := Aside0.mk (Kd.R_lower (Kd.R_new' ho0 (Kd.R_lt (kr_ HO_10))) (below_size hb_)); have n5_ := Aside0.mk (below_step hb_ hb); clear HO_8; clear HO_10; clear HO_11; clear HO_12; clear HB; have HO_8 := n0_; have HO_10 := n1_; have HO_11 := n2_; have HO_12 := n3_; have HO936 := n4_; have HB := n5_; clear n0_ n1_ n2_ n3_ n4_ n5_; (try clear hb); (try clear hb2); (try clear hk); (try clear hi); (try clear ho0); obtain ⟨Ao104, co104, eo104⟩ := Kd.R_slice HO936.out; subst eo104) | ((with_reducible refine gate_callee (f := 24) rfl ?_); refine goesL_ (some 61) rfl rfl Try.func24 (by kernel_rfl) rfl #[.slice Ao27 t923.length co27, .slice Ao104 t934.length co104] rfl ln_ ?_; (with_reducible refine (laws_eqGearS.calls kj16 _ _ t923 _ _ t934 false _ ?side1 ?side2 ?side3 ?side4 A38.out).mono ?_); (case side1 => repeat (first | exact (Kd.R_reads' HO_10.out).2.2 | (with_reducible refine Kd.C_alloc ?_ _) | (with_reducible refine Kd.C_drewN ?_ _) | (with_reducible refine Kd.C_drew ?_))); (case side2 => exact (Kd.R_reads' HO_10.out).2.1); (case side3 => repeat (first | exact (Kd.R_reads' HO936.out).2.2 | (with_reducible refine Kd.C_alloc ?_ _) | (with_reducible refine Kd.C_drewN ?_ _) | (with_reducible refine Kd.C_drew ?_))); (case side4 => exact (Kd.R_reads' HO936.out).2.1); rintro e w105 ⟨rfl, hb⟩; refine ⟨_, rfl, ?_⟩; have n0_ := Aside0.mk (Kd.R_below (kr_ HO_8) hb); have n1_ := Aside0.mk (Kd.R_below (kr_ HO_10) hb); have n2_ := Aside0.mk (Kd.R_below (kr_ HO_11) hb); have n3_ := Aside0.mk (Kd.R_below (kr_ HO_12) hb); have n4_ := Aside0.mk (Kd.R_below (kr_ HO936) hb); have n5_ := Aside0.mk (below_step hb_ hb); clear HO_8; clear HO_10; clear HO_11; clear HO_12; clear HO936; clear HB; have HO_8 := n0_; have HO_10 := n1_; have HO_11 := n2_; have HO_12 := n3_; have HO936 := n4_; have HB := n5_; clear n0_ n1_ n2_ n3_ n4_ n5_; (try clear hb); (try clear hb2); (try clear hk); (try clear hi)))
       go_ret
       exact ⟨ew_, hb_⟩

end Go.Proofs.Ytdbigcfpinpnpaa.P
