-- Written by gprint.py (own program, over the printer of the kit) out of the translation. Lean checks it.
import Derived.Test.YtdbigcfpinpnpaaPx0
import Derived.Test.YtdbigcfpinpnpaaPx2
import Derived.Test.YtdbigcfpinpnpaaPx4
import Derived.Test.YtdbigcfpinpnpaaPx9
import Derived.Test.YtdbigcfpinpnpaaPx18
import Derived.Test.YtdbigcfpinpnpaaPx20
import Derived.Test.YtdbigcfpinpnpaaWPk
namespace Go.Proofs.Ytdbigcfpinpnpaa.P
open Go.RowKit Go.Proofs.YtdbigcfpinpnpaaW.PrintWords Go.Proofs.YtdbigcfpinpnpaaW.PrintLast Go.Proofs.YtdbigcfpinpnpaaW.PrintMore Go.Proofs.YtdbigcfpinpnpaaW.Pk
open Bool renaming true → T_, false → F_
open List renaming setIfInBounds_toArray → sT_, set_cons_zero → s0_, set_cons_succ → sS_
attribute [local go_sem] max2_int min2_int max_two min_two max_three min_three max_four min_four   -- for this text's walks alone
set_option linter.unusedVariables false
set_option linter.unusedSimpArgs false

/-! ### laws_heldCheckS: function 42 -/
def laws_heldCheckS.l0 : Nat → List (S53) → Int → Int → Option (Int)
 | 0, _, _, _ => none
 | k + 1, x0, x1, x5 => if x5 < (x0.length : Int) then (if 0 ≤ x5 then ((laws_markText.f k x1).bind fun t587 => (if ((rd_T53 x0 x5).f0).toList = t587.toList then (if ((rd_T53 x0 x5).f1) = (wrap64 (x1 + 1)) then (if ((rd_T53 x0 x5).f2) = (wrap64 ((wrap64 (x1 + 1)) + 1)) then (laws_heldCheckS.l0 k x0 (wrap64 ((wrap64 ((wrap64 (x1 + 1)) + 1)) + 1)) (wrap64 (x5 + 1))) else (some (-1))) else (some (-1))) else (some (-1)))) else (none)) else (some x1)
def laws_heldCheckS.f (k : Nat) (l0 : List (S53)) (a1 : Int) : Option (Int) := laws_heldCheckS.l0 k l0 a1 0
theorem laws_heldCheckS.mono_l : ∀ k, (∀ y0 y1 y2, LeO (laws_heldCheckS.l0 k y0 y1 y2) (laws_heldCheckS.l0 (k + 1) y0 y1 y2))
 | 0 => fun _ _ _ r h => by simp [laws_heldCheckS.l0] at h
 | k + 1 => by
  have ih0 := laws_heldCheckS.mono_l k
  ·intro y0 y1 y2
   unfold laws_heldCheckS.l0
   repeat' first
   | (with_reducible exact ih0 _ _ _)
   | (with_reducible exact laws_markText.mono _ _)
   | (with_reducible exact LeO.refl _)
   | (with_reducible exact LeO.none _)
   | (with_reducible refine LeO.ite ?_ ?_)
   | (with_reducible refine LeO.bind ?_ (fun _ => ?_))
   | exact ih0 _ _ _
   | exact laws_markText.mono _ _
   | exact LeO.none _
   | refine LeO.ite ?_ ?_
   | refine LeO.bind ?_ (fun _ => ?_)
theorem laws_heldCheckS.mono : ∀ a0 a1 k, LeO (laws_heldCheckS.f k a0 a1) (laws_heldCheckS.f (k + 1) a0 a1) := by
 intro a0 a1 k
 have ih0 := laws_heldCheckS.mono_l k
 unfold laws_heldCheckS.f
 repeat' first
   | (with_reducible exact ih0 _ _ _)
   | (with_reducible exact laws_markText.mono _ _)
   | (with_reducible exact LeO.refl _)
   | (with_reducible exact LeO.none _)
   | (with_reducible refine LeO.ite ?_ ?_)
   | (with_reducible refine LeO.bind ?_ (fun _ => ?_))
   | exact ih0 _ _ _
   | exact laws_markText.mono _ _
   | exact LeO.none _
   | refine LeO.ite ?_ ?_
   | refine LeO.bind ?_ (fun _ => ?_)
def laws_heldCheckS.T4 : Bool × List (List Nat × List Nat) := (true, [([], []), ([], []), ([0, 1], [0, 1]), ([2], [2]), ([3], [3]), ([], []), ([5], [5]), ([4, 6], [4, 6])])
def laws_heldCheckS.B4 : List Nat := [0, 0, 3, 7, 15, 0, 32, 127]
theorem laws_heldCheckS.tab4 : rtab .any (opsOf Try.f42 4) = laws_heldCheckS.T4 := by kernel_rfl
theorem laws_heldCheckS.bits4 : waitsOk laws_heldCheckS.T4.2 laws_heldCheckS.B4 = true := by kernel_rfl
set_option maxHeartbeats 8000000 in
set_option maxRecDepth 100000 in
theorem laws_heldCheckS.calls (k : Nat) (A0 : Option Addr) (c0 : Nat) (l0 : List (S53)) (a1 : Int) (r : Int) (w : World) (hr0 : Kd.C k53 w A0 l0.length l0) (hc0 : l0.length ≤ c0) (h : laws_heldCheckS.f k l0 a1 = some r) :
  Calls Try.prog 42 #[.slice A0 l0.length c0, .int .i64 a1] w fun e w' => e = .returned (.int .i64 r) ∧ Below w.heap.size w w' := by
 have HR0 := Aside0.mk hr0
 have HC0 := Aside0.mk hc0
 clear hr0 hc0
 have HB := Aside0.mk (Below.refl w.heap.size w)
 have H : (laws_heldCheckS.l0 k l0 a1 0) = some r := h
 clear h
 have H' := Aside0.mk H
 clear H
 go_enter Try.func42, Try.ntmps42
 go_wp2
 go_loopg [1, 5] k (fun kq v1 v5 w' => ∃ (x1_1 : Int) (x5_1 : Int), v1 = .int .i64 x1_1 ∧ v5 = .int .i64 x5_1 ∧ Aside0 (laws_heldCheckS.l0 kq l0 x1_1 x5_1 = some r) ∧ Aside0 (kq ≤ k) ∧ Aside0 (Below w.heap.size w w'))
 case atStart => exact ⟨(a1), (0), (by first | rfl | (simp; done) | (simp [*]; done)), (by first | rfl | (simp; done) | (simp [*]; done)), H', ⟨Nat.le_refl _⟩, ⟨hb_⟩⟩
 case round =>
  clear H'
  try clear p2
  obtain ⟨x1_1, x5_1, rfl, rfl, HA, HK1, HB⟩ := hrel
  cases gk with
  | zero => exact absurd HA.out (by simp [laws_heldCheckS.l0])
  | succ k1 =>
   have H := HA.out
   clear HA
   simp only [laws_heldCheckS.l0] at H
   by_cases c3 : x5_1 < (l0.length : Int)
   ·rw [if_pos c3] at H
    have c3b0 : decide (x5_1 < (l0.length : Int)) = true := decide_eq_true c3
    clear c3
    by_cases c4 : 0 ≤ x5_1
    ·rw [if_pos c4] at H
     have c4b0 : decide (0 ≤ x5_1) = true := decide_eq_true c4
     clear c4
     replace H := Option.bind_eq_some_iff.mp H
     obtain ⟨t587, A50, H⟩ := H
     replace H : (if ((rd_T53 l0 x5_1).f0).toList = t587.toList then (if ((rd_T53 l0 x5_1).f1) = (wrap64 (x1_1 + 1)) then (if ((rd_T53 l0 x5_1).f2) = (wrap64 ((wrap64 (x1_1 + 1)) + 1)) then (laws_heldCheckS.l0 k1 l0 (wrap64 ((wrap64 ((wrap64 (x1_1 + 1)) + 1)) + 1)) (wrap64 (x5_1 + 1))) else (some (-1))) else (some (-1))) else (some (-1))) = some r := H
     have A5 := Aside0.mk A50
     clear A50
     by_cases c6 : ((rd_T53 l0 x5_1).f0).toList = t587.toList
     ·rw [if_pos c6] at H
      have c6b0 : (((rd_T53 l0 x5_1).f0).toList == t587.toList) = true := beq_iff_eq.mpr c6
      have c6b1 : (((rd_T53 l0 x5_1).f0).toList != t587.toList) = false := bne_eq_false_iff_eq.mpr c6
      clear c6
      by_cases c7 : ((rd_T53 l0 x5_1).f1) = (wrap64 (x1_1 + 1))
      ·rw [if_pos c7] at H
       have c7b0 : (((rd_T53 l0 x5_1).f1) == (wrap64 (x1_1 + 1))) = true := beq_iff_eq.mpr c7
       have c7b1 : (((rd_T53 l0 x5_1).f1) != (wrap64 (x1_1 + 1))) = false := bne_eq_false_iff_eq.mpr c7
       clear c7
       by_cases c8 : ((rd_T53 l0 x5_1).f2) = (wrap64 ((wrap64 (x1_1 + 1)) + 1))
       ·rw [if_pos c8] at H
        have c8b0 : (((rd_T53 l0 x5_1).f2) == (wrap64 ((wrap64 (x1_1 + 1)) + 1))) = true := beq_iff_eq.mpr c8
        have c8b1 : (((rd_T53 l0 x5_1).f2) != (wrap64 ((wrap64 (x1_1 + 1)) + 1))) = false := bne_eq_false_iff_eq.mpr c8
        clear c8
        have H' := Aside0.mk H
        clear H
        try go_wp2
        have n0_ := Aside0.mk (below_drew1 HB.out)
        clear HB
        have HB := n0_
        clear n0_
        have p586 : 0 ≤ (x5_1 : Int) := od_
        have q586 : x5_1 < (l0.length : Int) := od_
        obtain ⟨ad586, e586, hx586_0, hx586_1, hx586_2⟩ := at_T53 HR0.out x5_1 p586 q586
        have hw586_2 := hx586_2
        have hw586_1 := hx586_1
        have hw586_0 := hx586_0
        cases e586
        replace hx586_0 := cq_ HB hx586_0
        replace hx586_1 := cq_ HB hx586_1
        replace hx586_2 := cq_ HB hx586_2
        replace p586 := eq_true p586
        replace q586 := eq_true q586
        refine start_ (n := 8) (S := fun w' => w'.cell? (ad586.add ((x5_1).toNat * 3)) = some (.string ((rd_T53 l0 x5_1).f0)) ∧ w'.cell? ⟨(ad586.add ((x5_1).toNat * 3)).block, (ad586.add ((x5_1).toNat * 3)).off + 1, none⟩ = some (.int .i64 ((rd_T53 l0 x5_1).f1)) ∧ w'.cell? ⟨(ad586.add ((x5_1).toNat * 3)).block, (ad586.add ((x5_1).toNat * 3)).off + 2, none⟩ = some (.int .i64 ((rd_T53 l0 x5_1).f2))) (ds := []) #[F_,F_,F_,F_,F_,F_,F_,F_] (by kernel_rfl) rfl rfl ⟨((HB.out.cell (World.block_lt_of_cell? w _ hw586_0)).trans hw586_0), ((HB.out.cell (World.block_lt_of_cell? w _ hw586_1)).trans hw586_1), ((HB.out.cell (World.block_lt_of_cell? w _ hw586_2)).trans hw586_2)⟩ (fun hHeld => ?_); refine with_tabW laws_heldCheckS.tab4 laws_heldCheckS.bits4 (fun HT_ HW_ => ?_)
        generalize wr.drew = w9 at HB hx586_0 hx586_1 hx586_2 hHeld ⊢
        refine pu (i := 0) (N := some 12) #[T_,F_,F_,F_,F_,F_,F_,F_] HT_ ?_
        refine pu (i := 1) (N := some 13) #[T_,T_,F_,F_,F_,F_,F_,F_] HT_ ?_
        refine pu (i := 2) (N := some 14) #[T_,T_,T_,F_,F_,F_,F_,F_] HT_ ?_
        refine pu (i := 3) (N := some 15) #[T_,T_,T_,T_,F_,F_,F_,F_] HT_ ?_
        refine pu (i := 5) (N := some 17) #[T_,T_,T_,T_,F_,T_,F_,F_] HT_ ?_
        refine take_ (i := 4) (N := some 16) (v := ?_) (a' := ?_) #[T_,T_,T_,T_,T_,T_,F_,F_] rfl rfl (take_ofW HT_.out HW_.out (by kernel_rfl)) (fun _ _ _ h => h) (Or.inl ⟨by rfl, ?_⟩) hHeld ?_ ?_
        rotate_left
        ·rintro w' ⟨s0, s1, s2⟩
         go_simp
         with_reducible rfl
        rotate_left
        ·simp only [Act.put, sT_, s0_, sS_, i64_w, i32_w]
         rfl
        refine one_ (i := 6) (N := some 18) #[T_,T_,T_,T_,T_,T_,T_,F_] rfl rfl (one_of HT_.out (by kernel_rfl)) (by decide) (fun K hK => ?_)
        refine goes_ Try.func68 (by kernel_rfl) rfl #[.int .i64 x1_1] (by rfl) rfl rfl ln_ ?_
        with_reducible refine (laws_markText.calls k1 x1_1 t587 _ A5.out).mono ?_
        rintro e w10 ⟨rfl, hb⟩
        refine ⟨_, rfl, ?_⟩
        have n0_ := Aside0.mk (below_step hb_ hb)
        clear HB
        have HB := n0_
        clear n0_
        (try clear hb)
        (try clear hb2)
        (try clear hk)
        (try clear hi)
        refine hK.out _ _ ⟨((HB.out.cell (World.block_lt_of_cell? w _ hw586_0)).trans hw586_0), ((HB.out.cell (World.block_lt_of_cell? w _ hw586_1)).trans hw586_1), ((HB.out.cell (World.block_lt_of_cell? w _ hw586_2)).trans hw586_2)⟩ (fun hHeld => ?_)
        clear hK K
        refine norm_ (a' := ?_) ?_ ?_
        rotate_left
        ·show Act.put _ (some 18) _ = _
         simp only [Act.put, sT_, s0_, sS_, i64_w, i32_w]
         rfl
        refine pu (i := 7) (N := some 19) #[T_,T_,T_,T_,T_,T_,T_,T_] HT_ ?_
        refine done_ (done_of HT_.out (by kernel_rfl)) ?_
        have p588 : 0 ≤ (x5_1 : Int) := od_
        have q588 : x5_1 < (l0.length : Int) := od_
        obtain ⟨ad588, e588, hx588_0, hx588_1, hx588_2⟩ := at_T53 HR0.out x5_1 p588 q588
        obtain rfl : ad586 = ad588 := (by injection e588)
        replace hx588_0 := cq_ HB hx588_0
        replace hx588_1 := cq_ HB hx588_1
        replace hx588_2 := cq_ HB hx588_2
        replace p588 := eq_true p588
        replace q588 := eq_true q588
        have p589 : 0 ≤ (x5_1 : Int) := od_
        have q589 : x5_1 < (l0.length : Int) := od_
        obtain ⟨ad589, e589, hx589_0, hx589_1, hx589_2⟩ := at_T53 HR0.out x5_1 p589 q589
        obtain rfl : ad586 = ad589 := (by injection e589)
        replace hx589_0 := cq_ HB hx589_0
        replace hx589_1 := cq_ HB hx589_1
        replace hx589_2 := cq_ HB hx589_2
        replace p589 := eq_true p589
        replace q589 := eq_true q589
        try go_wp2
        go_roundg k1
        case measure => have := HK1.out; omega
        case rel => exact ⟨(wrap64 ((wrap64 ((wrap64 (x1_1 + 1)) + 1)) + 1)), (wrap64 (x5_1 + 1)), (by first | rfl | (simp; done) | (simp [*]; done)), (by first | rfl | (simp; done) | (simp [*]; done)), H', ⟨by have := HK1.out; omega⟩, ⟨hb_⟩⟩
       ·rw [if_neg c8] at H
        have c8b0 : (((rd_T53 l0 x5_1).f2) == (wrap64 ((wrap64 (x1_1 + 1)) + 1))) = false := beq_eq_false_iff_ne.mpr c8
        have c8b1 : (((rd_T53 l0 x5_1).f2) != (wrap64 ((wrap64 (x1_1 + 1)) + 1))) = true := bne_iff_ne.mpr c8
        obtain rfl := Option.some.inj H
        try go_wp2
        have n0_ := Aside0.mk (below_drew1 HB.out)
        clear HB
        have HB := n0_
        clear n0_
        have p586 : 0 ≤ (x5_1 : Int) := od_
        have q586 : x5_1 < (l0.length : Int) := od_
        obtain ⟨ad586, e586, hx586_0, hx586_1, hx586_2⟩ := at_T53 HR0.out x5_1 p586 q586
        have hw586_2 := hx586_2
        have hw586_1 := hx586_1
        have hw586_0 := hx586_0
        cases e586
        replace hx586_0 := cq_ HB hx586_0
        replace hx586_1 := cq_ HB hx586_1
        replace hx586_2 := cq_ HB hx586_2
        replace p586 := eq_true p586
        replace q586 := eq_true q586
        refine start_ (n := 8) (S := fun w' => w'.cell? (ad586.add ((x5_1).toNat * 3)) = some (.string ((rd_T53 l0 x5_1).f0)) ∧ w'.cell? ⟨(ad586.add ((x5_1).toNat * 3)).block, (ad586.add ((x5_1).toNat * 3)).off + 1, none⟩ = some (.int .i64 ((rd_T53 l0 x5_1).f1)) ∧ w'.cell? ⟨(ad586.add ((x5_1).toNat * 3)).block, (ad586.add ((x5_1).toNat * 3)).off + 2, none⟩ = some (.int .i64 ((rd_T53 l0 x5_1).f2))) (ds := []) #[F_,F_,F_,F_,F_,F_,F_,F_] (by kernel_rfl) rfl rfl ⟨((HB.out.cell (World.block_lt_of_cell? w _ hw586_0)).trans hw586_0), ((HB.out.cell (World.block_lt_of_cell? w _ hw586_1)).trans hw586_1), ((HB.out.cell (World.block_lt_of_cell? w _ hw586_2)).trans hw586_2)⟩ (fun hHeld => ?_); refine with_tabW laws_heldCheckS.tab4 laws_heldCheckS.bits4 (fun HT_ HW_ => ?_)
        generalize wr.drew = w11 at HB hx586_0 hx586_1 hx586_2 hHeld ⊢
        refine pu (i := 0) (N := some 12) #[T_,F_,F_,F_,F_,F_,F_,F_] HT_ ?_
        refine pu (i := 1) (N := some 13) #[T_,T_,F_,F_,F_,F_,F_,F_] HT_ ?_
        refine pu (i := 2) (N := some 14) #[T_,T_,T_,F_,F_,F_,F_,F_] HT_ ?_
        refine pu (i := 3) (N := some 15) #[T_,T_,T_,T_,F_,F_,F_,F_] HT_ ?_
        refine pu (i := 5) (N := some 17) #[T_,T_,T_,T_,F_,T_,F_,F_] HT_ ?_
        refine take_ (i := 4) (N := some 16) (v := ?_) (a' := ?_) #[T_,T_,T_,T_,T_,T_,F_,F_] rfl rfl (take_ofW HT_.out HW_.out (by kernel_rfl)) (fun _ _ _ h => h) (Or.inl ⟨by rfl, ?_⟩) hHeld ?_ ?_
        rotate_left
        ·rintro w' ⟨s0, s1, s2⟩
         go_simp
         with_reducible rfl
        rotate_left
        ·simp only [Act.put, sT_, s0_, sS_, i64_w, i32_w]
         rfl
        refine one_ (i := 6) (N := some 18) #[T_,T_,T_,T_,T_,T_,T_,F_] rfl rfl (one_of HT_.out (by kernel_rfl)) (by decide) (fun K hK => ?_)
        refine goes_ Try.func68 (by kernel_rfl) rfl #[.int .i64 x1_1] (by rfl) rfl rfl ln_ ?_
        with_reducible refine (laws_markText.calls k1 x1_1 t587 _ A5.out).mono ?_
        rintro e w12 ⟨rfl, hb⟩
        refine ⟨_, rfl, ?_⟩
        have n0_ := Aside0.mk (below_step hb_ hb)
        clear HB
        have HB := n0_
        clear n0_
        (try clear hb)
        (try clear hb2)
        (try clear hk)
        (try clear hi)
        refine hK.out _ _ ⟨((HB.out.cell (World.block_lt_of_cell? w _ hw586_0)).trans hw586_0), ((HB.out.cell (World.block_lt_of_cell? w _ hw586_1)).trans hw586_1), ((HB.out.cell (World.block_lt_of_cell? w _ hw586_2)).trans hw586_2)⟩ (fun hHeld => ?_)
        clear hK K
        refine norm_ (a' := ?_) ?_ ?_
        rotate_left
        ·show Act.put _ (some 18) _ = _
         simp only [Act.put, sT_, s0_, sS_, i64_w, i32_w]
         rfl
        refine pu (i := 7) (N := some 19) #[T_,T_,T_,T_,T_,T_,T_,T_] HT_ ?_
        refine done_ (done_of HT_.out (by kernel_rfl)) ?_
        have p588 : 0 ≤ (x5_1 : Int) := od_
        have q588 : x5_1 < (l0.length : Int) := od_
        obtain ⟨ad588, e588, hx588_0, hx588_1, hx588_2⟩ := at_T53 HR0.out x5_1 p588 q588
        obtain rfl : ad586 = ad588 := (by injection e588)
        replace hx588_0 := cq_ HB hx588_0
        replace hx588_1 := cq_ HB hx588_1
        replace hx588_2 := cq_ HB hx588_2
        replace p588 := eq_true p588
        replace q588 := eq_true q588
        have p589 : 0 ≤ (x5_1 : Int) := od_
        have q589 : x5_1 < (l0.length : Int) := od_
        obtain ⟨ad589, e589, hx589_0, hx589_1, hx589_2⟩ := at_T53 HR0.out x5_1 p589 q589
        obtain rfl : ad586 = ad589 := (by injection e589)
        replace hx589_0 := cq_ HB hx589_0
        replace hx589_1 := cq_ HB hx589_1
        replace hx589_2 := cq_ HB hx589_2
        replace p589 := eq_true p589
        replace q589 := eq_true q589
        try go_wp2
        go_ret
        exact ⟨ew_, hb_⟩
      ·rw [if_neg c7] at H
       have c7b0 : (((rd_T53 l0 x5_1).f1) == (wrap64 (x1_1 + 1))) = false := beq_eq_false_iff_ne.mpr c7
       have c7b1 : (((rd_T53 l0 x5_1).f1) != (wrap64 (x1_1 + 1))) = true := bne_iff_ne.mpr c7
       obtain rfl := Option.some.inj H
       try go_wp2
       have n0_ := Aside0.mk (below_drew1 HB.out)
       clear HB
       have HB := n0_
       clear n0_
       have p586 : 0 ≤ (x5_1 : Int) := od_
       have q586 : x5_1 < (l0.length : Int) := od_
       obtain ⟨ad586, e586, hx586_0, hx586_1, hx586_2⟩ := at_T53 HR0.out x5_1 p586 q586
       have hw586_2 := hx586_2
       have hw586_1 := hx586_1
       have hw586_0 := hx586_0
       cases e586
       replace hx586_0 := cq_ HB hx586_0
       replace hx586_1 := cq_ HB hx586_1
       replace hx586_2 := cq_ HB hx586_2
       replace p586 := eq_true p586
       replace q586 := eq_true q586
       refine start_ (n := 8) (S := fun w' => w'.cell? (ad586.add ((x5_1).toNat * 3)) = some (.string ((rd_T53 l0 x5_1).f0)) ∧ w'.cell? ⟨(ad586.add ((x5_1).toNat * 3)).block, (ad586.add ((x5_1).toNat * 3)).off + 1, none⟩ = some (.int .i64 ((rd_T53 l0 x5_1).f1)) ∧ w'.cell? ⟨(ad586.add ((x5_1).toNat * 3)).block, (ad586.add ((x5_1).toNat * 3)).off + 2, none⟩ = some (.int .i64 ((rd_T53 l0 x5_1).f2))) (ds := []) #[F_,F_,F_,F_,F_,F_,F_,F_] (by kernel_rfl) rfl rfl ⟨((HB.out.cell (World.block_lt_of_cell? w _ hw586_0)).trans hw586_0), ((HB.out.cell (World.block_lt_of_cell? w _ hw586_1)).trans hw586_1), ((HB.out.cell (World.block_lt_of_cell? w _ hw586_2)).trans hw586_2)⟩ (fun hHeld => ?_); refine with_tabW laws_heldCheckS.tab4 laws_heldCheckS.bits4 (fun HT_ HW_ => ?_)
       generalize wr.drew = w13 at HB hx586_0 hx586_1 hx586_2 hHeld ⊢
       refine pu (i := 0) (N := some 12) #[T_,F_,F_,F_,F_,F_,F_,F_] HT_ ?_
       refine pu (i := 1) (N := some 13) #[T_,T_,F_,F_,F_,F_,F_,F_] HT_ ?_
       refine pu (i := 2) (N := some 14) #[T_,T_,T_,F_,F_,F_,F_,F_] HT_ ?_
       refine pu (i := 3) (N := some 15) #[T_,T_,T_,T_,F_,F_,F_,F_] HT_ ?_
       refine pu (i := 5) (N := some 17) #[T_,T_,T_,T_,F_,T_,F_,F_] HT_ ?_
       refine take_ (i := 4) (N := some 16) (v := ?_) (a' := ?_) #[T_,T_,T_,T_,T_,T_,F_,F_] rfl rfl (take_ofW HT_.out HW_.out (by kernel_rfl)) (fun _ _ _ h => h) (Or.inl ⟨by rfl, ?_⟩) hHeld ?_ ?_
       rotate_left
       ·rintro w' ⟨s0, s1, s2⟩
        go_simp
        with_reducible rfl
       rotate_left
       ·simp only [Act.put, sT_, s0_, sS_, i64_w, i32_w]
        rfl
       refine one_ (i := 6) (N := some 18) #[T_,T_,T_,T_,T_,T_,T_,F_] rfl rfl (one_of HT_.out (by kernel_rfl)) (by decide) (fun K hK => ?_)
       refine goes_ Try.func68 (by kernel_rfl) rfl #[.int .i64 x1_1] (by rfl) rfl rfl ln_ ?_
       with_reducible refine (laws_markText.calls k1 x1_1 t587 _ A5.out).mono ?_
       rintro e w14 ⟨rfl, hb⟩
       refine ⟨_, rfl, ?_⟩
       have n0_ := Aside0.mk (below_step hb_ hb)
       clear HB
       have HB := n0_
       clear n0_
       (try clear hb)
       (try clear hb2)
       (try clear hk)
       (try clear hi)
       refine hK.out _ _ ⟨((HB.out.cell (World.block_lt_of_cell? w _ hw586_0)).trans hw586_0), ((HB.out.cell (World.block_lt_of_cell? w _ hw586_1)).trans hw586_1), ((HB.out.cell (World.block_lt_of_cell? w _ hw586_2)).trans hw586_2)⟩ (fun hHeld => ?_)
       clear hK K
       refine norm_ (a' := ?_) ?_ ?_
       rotate_left
       ·show Act.put _ (some 18) _ = _
        simp only [Act.put, sT_, s0_, sS_, i64_w, i32_w]
        rfl
       refine pu (i := 7) (N := some 19) #[T_,T_,T_,T_,T_,T_,T_,T_] HT_ ?_
       refine done_ (done_of HT_.out (by kernel_rfl)) ?_
       have p588 : 0 ≤ (x5_1 : Int) := od_
       have q588 : x5_1 < (l0.length : Int) := od_
       obtain ⟨ad588, e588, hx588_0, hx588_1, hx588_2⟩ := at_T53 HR0.out x5_1 p588 q588
       obtain rfl : ad586 = ad588 := (by injection e588)
       replace hx588_0 := cq_ HB hx588_0
       replace hx588_1 := cq_ HB hx588_1
       replace hx588_2 := cq_ HB hx588_2
       replace p588 := eq_true p588
       replace q588 := eq_true q588
       try go_wp2
       go_ret
       exact ⟨ew_, hb_⟩
     ·rw [if_neg c6] at H
      have c6b0 : (((rd_T53 l0 x5_1).f0).toList == t587.toList) = false := beq_eq_false_iff_ne.mpr c6
      have c6b1 : (((rd_T53 l0 x5_1).f0).toList != t587.toList) = true := bne_iff_ne.mpr c6
      obtain rfl := Option.some.inj H
      try go_wp2
      have n0_ := Aside0.mk (below_drew1 HB.out)
      clear HB
      have HB := n0_
      clear n0_
      have p586 : 0 ≤ (x5_1 : Int) := od_
      have q586 : x5_1 < (l0.length : Int) := od_
      obtain ⟨ad586, e586, hx586_0, hx586_1, hx586_2⟩ := at_T53 HR0.out x5_1 p586 q586
      have hw586_2 := hx586_2
      have hw586_1 := hx586_1
      have hw586_0 := hx586_0
      cases e586
      replace hx586_0 := cq_ HB hx586_0
      replace hx586_1 := cq_ HB hx586_1
      replace hx586_2 := cq_ HB hx586_2
      replace p586 := eq_true p586
      replace q586 := eq_true q586
      refine start_ (n := 8) (S := fun w' => w'.cell? (ad586.add ((x5_1).toNat * 3)) = some (.string ((rd_T53 l0 x5_1).f0)) ∧ w'.cell? ⟨(ad586.add ((x5_1).toNat * 3)).block, (ad586.add ((x5_1).toNat * 3)).off + 1, none⟩ = some (.int .i64 ((rd_T53 l0 x5_1).f1)) ∧ w'.cell? ⟨(ad586.add ((x5_1).toNat * 3)).block, (ad586.add ((x5_1).toNat * 3)).off + 2, none⟩ = some (.int .i64 ((rd_T53 l0 x5_1).f2))) (ds := []) #[F_,F_,F_,F_,F_,F_,F_,F_] (by kernel_rfl) rfl rfl ⟨((HB.out.cell (World.block_lt_of_cell? w _ hw586_0)).trans hw586_0), ((HB.out.cell (World.block_lt_of_cell? w _ hw586_1)).trans hw586_1), ((HB.out.cell (World.block_lt_of_cell? w _ hw586_2)).trans hw586_2)⟩ (fun hHeld => ?_); refine with_tabW laws_heldCheckS.tab4 laws_heldCheckS.bits4 (fun HT_ HW_ => ?_)
      generalize wr.drew = w15 at HB hx586_0 hx586_1 hx586_2 hHeld ⊢
      refine pu (i := 0) (N := some 12) #[T_,F_,F_,F_,F_,F_,F_,F_] HT_ ?_
      refine pu (i := 1) (N := some 13) #[T_,T_,F_,F_,F_,F_,F_,F_] HT_ ?_
      refine pu (i := 2) (N := some 14) #[T_,T_,T_,F_,F_,F_,F_,F_] HT_ ?_
      refine pu (i := 3) (N := some 15) #[T_,T_,T_,T_,F_,F_,F_,F_] HT_ ?_
      refine pu (i := 5) (N := some 17) #[T_,T_,T_,T_,F_,T_,F_,F_] HT_ ?_
      refine take_ (i := 4) (N := some 16) (v := ?_) (a' := ?_) #[T_,T_,T_,T_,T_,T_,F_,F_] rfl rfl (take_ofW HT_.out HW_.out (by kernel_rfl)) (fun _ _ _ h => h) (Or.inl ⟨by rfl, ?_⟩) hHeld ?_ ?_
      rotate_left
      ·rintro w' ⟨s0, s1, s2⟩
       go_simp
       with_reducible rfl
      rotate_left
      ·simp only [Act.put, sT_, s0_, sS_, i64_w, i32_w]
       rfl
      refine one_ (i := 6) (N := some 18) #[T_,T_,T_,T_,T_,T_,T_,F_] rfl rfl (one_of HT_.out (by kernel_rfl)) (by decide) (fun K hK => ?_)
      refine goes_ Try.func68 (by kernel_rfl) rfl #[.int .i64 x1_1] (by rfl) rfl rfl ln_ ?_
      with_reducible refine (laws_markText.calls k1 x1_1 t587 _ A5.out).mono ?_
      rintro e w16 ⟨rfl, hb⟩
      refine ⟨_, rfl, ?_⟩
      have n0_ := Aside0.mk (below_step hb_ hb)
      clear HB
      have HB := n0_
      clear n0_
      (try clear hb)
      (try clear hb2)
      (try clear hk)
      (try clear hi)
      refine hK.out _ _ ⟨((HB.out.cell (World.block_lt_of_cell? w _ hw586_0)).trans hw586_0), ((HB.out.cell (World.block_lt_of_cell? w _ hw586_1)).trans hw586_1), ((HB.out.cell (World.block_lt_of_cell? w _ hw586_2)).trans hw586_2)⟩ (fun hHeld => ?_)
      clear hK K
      refine norm_ (a' := ?_) ?_ ?_
      rotate_left
      ·show Act.put _ (some 18) _ = _
       simp only [Act.put, sT_, s0_, sS_, i64_w, i32_w]
       rfl
      refine pu (i := 7) (N := some 19) #[T_,T_,T_,T_,T_,T_,T_,T_] HT_ ?_
      refine done_ (done_of HT_.out (by kernel_rfl)) ?_
      try go_wp2
      go_ret
      exact ⟨ew_, hb_⟩
    ·rw [if_neg c4] at H
     exact absurd H (by simp)
   ·rw [if_neg c3] at H
    have c3b0 : decide (x5_1 < (l0.length : Int)) = false := decide_eq_false c3
    clear c3
    obtain rfl := Option.some.inj H
    go_wp2
    go_ret
    exact ⟨ew_, hb_⟩

/-! ### laws_FnExactAddCheck: function 10 -/
mutual
def laws_FnExactAddCheck.j0 : Nat → List (S72) → List (S49) → List (S53) → Int → List (S73) → List (S53) → List (S53) → Int → Bool → ByteArray → Int → Int → Option (Bool)
 | 0, _, _, _, _, _, _, _, _, _, _, _, _ => none
 | k + 1, x0, x1, x8, x9, x10, x11, x12, x13, x64, x591000, x591001, x591002 => if x64 = true then (some false) else ((laws_toGearS.f k x0).bind fun t621 => ((laws_eqGearS.f k x10 t621).bind fun t624 => (if t624 = true then ((laws_toCheckS.f k x1).bind fun t625 => ((laws_eqCheckS.f k x11 t625).bind fun t628 => (if t628 = true then ((laws_markGearS.f k x10 1).bind fun bt629 => ((laws_markCheckS.f k x11 bt629.1).bind fun bt631 => (if bt631.1 < 0 then (laws_FnExactAddCheck.j1 k x0 x1 x8 x9 x12 true x591000 x591001 x591002) else ((laws_eqCheckS.f k x12 x8).bind fun t633 => (if t633 = true then (laws_FnExactAddCheck.j1 k x0 x1 x8 x9 x12 (x13 != x9) x591000 x591001 x591002) else (laws_FnExactAddCheck.j1 k x0 x1 x8 x9 x12 true x591000 x591001 x591002)))))) else (some false)))) else (some false))))
def laws_FnExactAddCheck.j1 : Nat → List (S72) → List (S49) → List (S53) → Int → List (S53) → Bool → ByteArray → Int → Int → Option (Bool)
 | 0, _, _, _, _, _, _, _, _, _ => none
 | k + 1, x0, x1, x8, x9, x12, x93, x591000, x591001, x591002 => if x93 = true then (some false) else ((laws_markCheckS.f k x12 1).bind fun bt634 => ((laws_heldCheckS.f k bt634.2 1).bind fun t636 => (if t636 < 0 then (some false) else (if t636 = bt634.1 then ((laws_toGearS.f k x0).bind fun t637 => ((laws_toCheckS.f k x1).bind fun t640 => ((laws_toCheck.f x591000 x591001 x591002).bind fun bt643 => ((impl_AddCheck.f k t637 t640 bt643.1 bt643.2.1 bt643.2.2).bind fun bt646 => ((laws_eqCheckS.f k bt646.1 x8).bind fun t650 => (if t650 = true then (laws_FnExactAddCheck.j2 k bt634.2 bt634.1 (bt646.2 != x9)) else (laws_FnExactAddCheck.j2 k bt634.2 bt634.1 true))))))) else (some false)))))
def laws_FnExactAddCheck.j2 : Nat → List (S53) → Int → Bool → Option (Bool)
 | 0, _, _, _ => none
 | k + 1, x12, x15, x123 => if x123 = true then (some false) else ((laws_heldCheckS.f k x12 1).bind fun t651 => (if t651 < 0 then (some false) else (if t651 = x15 then (some true) else (some false))))
end
def laws_FnExactAddCheck.f (k : Nat) (l0 : List (S72)) (l1 : List (S49)) (a2_0 : ByteArray) (a2_1 : Int) (a2_2 : Int) : Option (Bool) := (laws_szGearS.f k l0 1048576).bind fun t591 => (if t591 < 0 then (some true) else ((laws_szCheckS.f k l1 t591).bind fun t592 => (if t592 < 0 then (some true) else ((laws_szCheck.f a2_0 a2_1 a2_2 t592).bind fun t593 => (if t593 < 0 then (some true) else ((laws_toGearS.f k l0).bind fun t594 => ((laws_toCheckS.f k l1).bind fun t597 => ((laws_toCheck.f a2_0 a2_1 a2_2).bind fun bt600 => ((spec_AddCheck.f k t594 t597 bt600.1 bt600.2.1 bt600.2.2).bind fun bt603 => ((laws_toGearS.f k l0).bind fun t607 => ((laws_toCheckS.f k l1).bind fun t610 => ((laws_toCheck.f a2_0 a2_1 a2_2).bind fun bt613 => ((impl_AddCheck.f k t607 t610 bt613.1 bt613.2.1 bt613.2.2).bind fun bt616 => ((laws_eqCheckS.f k bt616.1 bt603.1).bind fun t620 => (if t620 = true then (laws_FnExactAddCheck.j0 k l0 l1 bt603.1 bt603.2 t607 t610 bt616.1 bt616.2 (bt616.2 != bt603.2) a2_0 a2_1 a2_2) else (laws_FnExactAddCheck.j0 k l0 l1 bt603.1 bt603.2 t607 t610 bt616.1 bt616.2 true a2_0 a2_1 a2_2))))))))))))))))
theorem laws_FnExactAddCheck.mono_l : ∀ k, (∀ y0 y1 y2 y3 y4 y5 y6 y7 y8 y9 y10 y11, LeO (laws_FnExactAddCheck.j0 k y0 y1 y2 y3 y4 y5 y6 y7 y8 y9 y10 y11) (laws_FnExactAddCheck.j0 (k + 1) y0 y1 y2 y3 y4 y5 y6 y7 y8 y9 y10 y11)) ∧ (∀ y0 y1 y2 y3 y4 y5 y6 y7 y8, LeO (laws_FnExactAddCheck.j1 k y0 y1 y2 y3 y4 y5 y6 y7 y8) (laws_FnExactAddCheck.j1 (k + 1) y0 y1 y2 y3 y4 y5 y6 y7 y8)) ∧ (∀ y0 y1 y2, LeO (laws_FnExactAddCheck.j2 k y0 y1 y2) (laws_FnExactAddCheck.j2 (k + 1) y0 y1 y2))
 | 0 => ⟨fun _ _ _ _ _ _ _ _ _ _ _ _ r h => by simp [laws_FnExactAddCheck.j0] at h, fun _ _ _ _ _ _ _ _ _ r h => by simp [laws_FnExactAddCheck.j1] at h, fun _ _ _ r h => by simp [laws_FnExactAddCheck.j2] at h⟩
 | k + 1 => by
  obtain ⟨ih0, ih1, ih2⟩ := laws_FnExactAddCheck.mono_l k
  refine ⟨?_, ?_, ?_⟩
  ·intro y0 y1 y2 y3 y4 y5 y6 y7 y8 y9 y10 y11
   unfold laws_FnExactAddCheck.j0
   repeat' first
   | (with_reducible exact ih0 _ _ _ _ _ _ _ _ _ _ _ _)
   | (with_reducible exact ih1 _ _ _ _ _ _ _ _ _)
   | (with_reducible exact ih2 _ _ _)
   | (with_reducible exact impl_AddCheck.mono _ _ _ _ _ _)
   | (with_reducible exact laws_eqCheckS.mono _ _ _)
   | (with_reducible exact laws_eqGearS.mono _ _ _)
   | (with_reducible exact laws_heldCheckS.mono _ _ _)
   | (with_reducible exact laws_markCheckS.mono _ _ _)
   | (with_reducible exact laws_markGearS.mono _ _ _)
   | (with_reducible exact laws_szCheckS.mono _ _ _)
   | (with_reducible exact laws_szGearS.mono _ _ _)
   | (with_reducible exact laws_toCheckS.mono _ _)
   | (with_reducible exact laws_toGearS.mono _ _)
   | (with_reducible exact spec_AddCheck.mono _ _ _ _ _ _)
   | (with_reducible exact LeO.refl _)
   | (with_reducible exact LeO.none _)
   | (with_reducible refine LeO.ite ?_ ?_)
   | (with_reducible refine LeO.bind ?_ (fun _ => ?_))
   | exact ih0 _ _ _ _ _ _ _ _ _ _ _ _
   | exact ih1 _ _ _ _ _ _ _ _ _
   | exact ih2 _ _ _
   | exact impl_AddCheck.mono _ _ _ _ _ _
   | exact laws_eqCheckS.mono _ _ _
   | exact laws_eqGearS.mono _ _ _
   | exact laws_heldCheckS.mono _ _ _
   | exact laws_markCheckS.mono _ _ _
   | exact laws_markGearS.mono _ _ _
   | exact laws_szCheckS.mono _ _ _
   | exact laws_szGearS.mono _ _ _
   | exact laws_toCheckS.mono _ _
   | exact laws_toGearS.mono _ _
   | exact spec_AddCheck.mono _ _ _ _ _ _
   | exact LeO.none _
   | refine LeO.ite ?_ ?_
   | refine LeO.bind ?_ (fun _ => ?_)
  ·intro y0 y1 y2 y3 y4 y5 y6 y7 y8
   unfold laws_FnExactAddCheck.j1
   repeat' first
   | (with_reducible exact ih0 _ _ _ _ _ _ _ _ _ _ _ _)
   | (with_reducible exact ih1 _ _ _ _ _ _ _ _ _)
   | (with_reducible exact ih2 _ _ _)
   | (with_reducible exact impl_AddCheck.mono _ _ _ _ _ _)
   | (with_reducible exact laws_eqCheckS.mono _ _ _)
   | (with_reducible exact laws_eqGearS.mono _ _ _)
   | (with_reducible exact laws_heldCheckS.mono _ _ _)
   | (with_reducible exact laws_markCheckS.mono _ _ _)
   | (with_reducible exact laws_markGearS.mono _ _ _)
   | (with_reducible exact laws_szCheckS.mono _ _ _)
   | (with_reducible exact laws_szGearS.mono _ _ _)
   | (with_reducible exact laws_toCheckS.mono _ _)
   | (with_reducible exact laws_toGearS.mono _ _)
   | (with_reducible exact spec_AddCheck.mono _ _ _ _ _ _)
   | (with_reducible exact LeO.refl _)
   | (with_reducible exact LeO.none _)
   | (with_reducible refine LeO.ite ?_ ?_)
   | (with_reducible refine LeO.bind ?_ (fun _ => ?_))
   | exact ih0 _ _ _ _ _ _ _ _ _ _ _ _
   | exact ih1 _ _ _ _ _ _ _ _ _
   | exact ih2 _ _ _
   | exact impl_AddCheck.mono _ _ _ _ _ _
   | exact laws_eqCheckS.mono _ _ _
   | exact laws_eqGearS.mono _ _ _
   | exact laws_heldCheckS.mono _ _ _
   | exact laws_markCheckS.mono _ _ _
   | exact laws_markGearS.mono _ _ _
   | exact laws_szCheckS.mono _ _ _
   | exact laws_szGearS.mono _ _ _
   | exact laws_toCheckS.mono _ _
   | exact laws_toGearS.mono _ _
   | exact spec_AddCheck.mono _ _ _ _ _ _
   | exact LeO.none _
   | refine LeO.ite ?_ ?_
   | refine LeO.bind ?_ (fun _ => ?_)
  ·intro y0 y1 y2
   unfold laws_FnExactAddCheck.j2
   repeat' first
   | (with_reducible exact ih0 _ _ _ _ _ _ _ _ _ _ _ _)
   | (with_reducible exact ih1 _ _ _ _ _ _ _ _ _)
   | (with_reducible exact ih2 _ _ _)
   | (with_reducible exact impl_AddCheck.mono _ _ _ _ _ _)
   | (with_reducible exact laws_eqCheckS.mono _ _ _)
   | (with_reducible exact laws_eqGearS.mono _ _ _)
   | (with_reducible exact laws_heldCheckS.mono _ _ _)
   | (with_reducible exact laws_markCheckS.mono _ _ _)
   | (with_reducible exact laws_markGearS.mono _ _ _)
   | (with_reducible exact laws_szCheckS.mono _ _ _)
   | (with_reducible exact laws_szGearS.mono _ _ _)
   | (with_reducible exact laws_toCheckS.mono _ _)
   | (with_reducible exact laws_toGearS.mono _ _)
   | (with_reducible exact spec_AddCheck.mono _ _ _ _ _ _)
   | (with_reducible exact LeO.refl _)
   | (with_reducible exact LeO.none _)
   | (with_reducible refine LeO.ite ?_ ?_)
   | (with_reducible refine LeO.bind ?_ (fun _ => ?_))
   | exact ih0 _ _ _ _ _ _ _ _ _ _ _ _
   | exact ih1 _ _ _ _ _ _ _ _ _
   | exact ih2 _ _ _
   | exact impl_AddCheck.mono _ _ _ _ _ _
   | exact laws_eqCheckS.mono _ _ _
   | exact laws_eqGearS.mono _ _ _
   | exact laws_heldCheckS.mono _ _ _
   | exact laws_markCheckS.mono _ _ _
   | exact laws_markGearS.mono _ _ _
   | exact laws_szCheckS.mono _ _ _
   | exact laws_szGearS.mono _ _ _
   | exact laws_toCheckS.mono _ _
   | exact laws_toGearS.mono _ _
   | exact spec_AddCheck.mono _ _ _ _ _ _
   | exact LeO.none _
   | refine LeO.ite ?_ ?_
   | refine LeO.bind ?_ (fun _ => ?_)
theorem laws_FnExactAddCheck.mono : ∀ a0 a1 a2 a3 a4 k, LeO (laws_FnExactAddCheck.f k a0 a1 a2 a3 a4) (laws_FnExactAddCheck.f (k + 1) a0 a1 a2 a3 a4) := by
 intro a0 a1 a2 a3 a4 k
 obtain ⟨ih0, ih1, ih2⟩ := laws_FnExactAddCheck.mono_l k
 unfold laws_FnExactAddCheck.f
 repeat' first
   | (with_reducible exact ih0 _ _ _ _ _ _ _ _ _ _ _ _)
   | (with_reducible exact ih1 _ _ _ _ _ _ _ _ _)
   | (with_reducible exact ih2 _ _ _)
   | (with_reducible exact impl_AddCheck.mono _ _ _ _ _ _)
   | (with_reducible exact laws_eqCheckS.mono _ _ _)
   | (with_reducible exact laws_eqGearS.mono _ _ _)
   | (with_reducible exact laws_heldCheckS.mono _ _ _)
   | (with_reducible exact laws_markCheckS.mono _ _ _)
   | (with_reducible exact laws_markGearS.mono _ _ _)
   | (with_reducible exact laws_szCheckS.mono _ _ _)
   | (with_reducible exact laws_szGearS.mono _ _ _)
   | (with_reducible exact laws_toCheckS.mono _ _)
   | (with_reducible exact laws_toGearS.mono _ _)
   | (with_reducible exact spec_AddCheck.mono _ _ _ _ _ _)
   | (with_reducible exact LeO.refl _)
   | (with_reducible exact LeO.none _)
   | (with_reducible refine LeO.ite ?_ ?_)
   | (with_reducible refine LeO.bind ?_ (fun _ => ?_))
   | exact ih0 _ _ _ _ _ _ _ _ _ _ _ _
   | exact ih1 _ _ _ _ _ _ _ _ _
   | exact ih2 _ _ _
   | exact impl_AddCheck.mono _ _ _ _ _ _
   | exact laws_eqCheckS.mono _ _ _
   | exact laws_eqGearS.mono _ _ _
   | exact laws_heldCheckS.mono _ _ _
   | exact laws_markCheckS.mono _ _ _
   | exact laws_markGearS.mono _ _ _
   | exact laws_szCheckS.mono _ _ _
   | exact laws_szGearS.mono _ _ _
   | exact laws_toCheckS.mono _ _
   | exact laws_toGearS.mono _ _
   | exact spec_AddCheck.mono _ _ _ _ _ _
   | exact LeO.none _
   | refine LeO.ite ?_ ?_
   | refine LeO.bind ?_ (fun _ => ?_)
def laws_FnExactAddCheck.T11 : Bool × List (List Nat × List Nat) := (true, [([], []), ([0], [0]), ([], []), ([2, 1], [2]), ([], []), ([4, 3], [4]), ([1, 3, 5, 5], [1, 3, 5]), ([6], [6]), ([7], [7]), ([7], [7]), ([8, 6, 0, 1, 2, 3, 4, 5, 6, 7, 8], [8]), ([9, 10, 0, 1, 2, 3, 4, 5, 6, 7, 8, 9, 10], [9])])
def laws_FnExactAddCheck.B11 : List Nat := [0, 1, 0, 7, 0, 31, 63, 127, 255, 255, 511, 2047]
theorem laws_FnExactAddCheck.tab11 : rtab .any (opsOf Try.f10 11) = laws_FnExactAddCheck.T11 := by kernel_rfl
theorem laws_FnExactAddCheck.bits11 : waitsOk laws_FnExactAddCheck.T11.2 laws_FnExactAddCheck.B11 = true := by kernel_rfl
def laws_FnExactAddCheck.T34 : Bool × List (List Nat × List Nat) := (true, [([], []), ([0], [0]), ([], []), ([2, 1], [2]), ([], []), ([4, 3], [4]), ([1, 3, 5, 5], [1, 3, 5]), ([6], [6]), ([7], [7]), ([7], [7]), ([8, 6, 0, 1, 2, 3, 4, 5, 6, 7, 8], [8]), ([9, 10, 0, 1, 2, 3, 4, 5, 6, 7, 8, 9, 10], [9])])
def laws_FnExactAddCheck.B34 : List Nat := [0, 1, 0, 7, 0, 31, 63, 127, 255, 255, 511, 2047]
theorem laws_FnExactAddCheck.tab34 : rtab .any (opsOf Try.f10 34) = laws_FnExactAddCheck.T34 := by kernel_rfl
theorem laws_FnExactAddCheck.bits34 : waitsOk laws_FnExactAddCheck.T34.2 laws_FnExactAddCheck.B34 = true := by kernel_rfl
set_option maxHeartbeats 8000000 in
set_option maxRecDepth 100000 in
theorem laws_FnExactAddCheck.calls (k : Nat) (A0 : Option Addr) (c0 : Nat) (l0 : List (S72)) (A1 : Option Addr) (c1 : Nat) (l1 : List (S49)) (a2_0 : ByteArray) (a2_1 : Int) (a2_2 : Int) (r : Bool) (w : World) (hr0 : Kd.C k72 w A0 l0.length l0) (hc0 : l0.length ≤ c0) (hr1 : Kd.C k49 w A1 l1.length l1) (hc1 : l1.length ≤ c1) (h : laws_FnExactAddCheck.f k l0 l1 a2_0 a2_1 a2_2 = some r) :
  Calls Try.prog 10 #[.slice A0 l0.length c0, .slice A1 l1.length c1, .agg #[.string a2_0, .int .i64 a2_1, .int .i64 a2_2]] w fun e w' => e = .returned (.bool r) ∧ Below w.heap.size w w' := by
 have hu49 := Try.underlying49
 have HR0 := Aside0.mk hr0
 have HC0 := Aside0.mk hc0
 clear hr0 hc0
 have HR1 := Aside0.mk hr1
 have HC1 := Aside0.mk hc1
 clear hr1 hc1
 have HB := Aside0.mk (Below.refl w.heap.size w)
 have H : ((laws_szGearS.f k l0 1048576).bind fun t591 => (if t591 < 0 then (some true) else ((laws_szCheckS.f k l1 t591).bind fun t592 => (if t592 < 0 then (some true) else ((laws_szCheck.f a2_0 a2_1 a2_2 t592).bind fun t593 => (if t593 < 0 then (some true) else ((laws_toGearS.f k l0).bind fun t594 => ((laws_toCheckS.f k l1).bind fun t597 => ((laws_toCheck.f a2_0 a2_1 a2_2).bind fun bt600 => ((spec_AddCheck.f k t594 t597 bt600.1 bt600.2.1 bt600.2.2).bind fun bt603 => ((laws_toGearS.f k l0).bind fun t607 => ((laws_toCheckS.f k l1).bind fun t610 => ((laws_toCheck.f a2_0 a2_1 a2_2).bind fun bt613 => ((impl_AddCheck.f k t607 t610 bt613.1 bt613.2.1 bt613.2.2).bind fun bt616 => ((laws_eqCheckS.f k bt616.1 bt603.1).bind fun t620 => (if t620 = true then (laws_FnExactAddCheck.j0 k l0 l1 bt603.1 bt603.2 t607 t610 bt616.1 bt616.2 (bt616.2 != bt603.2) a2_0 a2_1 a2_2) else (laws_FnExactAddCheck.j0 k l0 l1 bt603.1 bt603.2 t607 t610 bt616.1 bt616.2 true a2_0 a2_1 a2_2))))))))))))))))) = some r := h
 clear h
 replace H := Option.bind_eq_some_iff.mp H
 obtain ⟨t591, A40, H⟩ := H
 replace H : (if t591 < 0 then (some true) else ((laws_szCheckS.f k l1 t591).bind fun t592 => (if t592 < 0 then (some true) else ((laws_szCheck.f a2_0 a2_1 a2_2 t592).bind fun t593 => (if t593 < 0 then (some true) else ((laws_toGearS.f k l0).bind fun t594 => ((laws_toCheckS.f k l1).bind fun t597 => ((laws_toCheck.f a2_0 a2_1 a2_2).bind fun bt600 => ((spec_AddCheck.f k t594 t597 bt600.1 bt600.2.1 bt600.2.2).bind fun bt603 => ((laws_toGearS.f k l0).bind fun t607 => ((laws_toCheckS.f k l1).bind fun t610 => ((laws_toCheck.f a2_0 a2_1 a2_2).bind fun bt613 => ((impl_AddCheck.f k t607 t610 bt613.1 bt613.2.1 bt613.2.2).bind fun bt616 => ((laws_eqCheckS.f k bt616.1 bt603.1).bind fun t620 => (if t620 = true then (laws_FnExactAddCheck.j0 k l0 l1 bt603.1 bt603.2 t607 t610 bt616.1 bt616.2 (bt616.2 != bt603.2) a2_0 a2_1 a2_2) else (laws_FnExactAddCheck.j0 k l0 l1 bt603.1 bt603.2 t607 t610 bt616.1 bt616.2 true a2_0 a2_1 a2_2)))))))))))))))) = some r := H
 have A4 := Aside0.mk A40
 clear A40
 by_cases c5 : t591 < 0
 ·rw [if_pos c5] at H
  have c5b0 : decide (t591 < 0) = true := decide_eq_true c5
  clear c5
  obtain rfl := Option.some.inj H
  go_enter Try.func10, Try.ntmps10
  go_wp2_with (first | ((with_reducible refine gate_dst (N := 5) rfl ?_); refine box_event ?hg (N := 5) ?hd (cs := #[.string a2_0, .int .i64 a2_1, .int .i64 a2_2]) (t := 49) ?hr ?_; (case hd => rfl); (case hg => rfl); (case hr => first | (go_simp; done) | (go_simp; rfl)); intro gb590 hg w6 hbox hb; have n0_ := Aside0.mk (below_step hb_ hb); have n1_ := Aside0.mk (hbox); have n2_ := Aside0.mk ((by rw [hg]; exact (below_size hb_) : w.heap.size ≤ gb590)); have n3_ := Aside0.mk ((by rw [hg]; exact (below_size hb_) : w.heap.size ≤ gb590)); clear HB; have HB := n0_; have BK590 := n1_; have GW590 := n2_; have GE590 := n3_; clear n0_ n1_ n2_ n3_; clear hb hbox hg) | ((with_reducible refine gate_callee (f := 20) rfl ?_); refine goesL_ (some 21) rfl rfl Try.func20 (by kernel_rfl) rfl #[.slice A0 l0.length c0, .int .i64 1048576] rfl ln_ ?_; (with_reducible refine (laws_szGearS.calls k _ _ l0 1048576 t591 _ ?side1 ?side2 A4.out).mono ?_); (case side1 => exact kc_ (Kd.C_below HR0.out HB.out)); (case side2 => exact HC0.out); rintro e w7 ⟨rfl, hb⟩; refine ⟨_, rfl, ?_⟩; have n0_ := Aside0.mk (blk_below (g := gb590) (o := .cells #[.string a2_0, .int .i64 a2_1, .int .i64 a2_2] 49 (0, 0)) (bk_ BK590) hb); have n1_ := Aside0.mk (below_step (hg_ GE590) hb); clear BK590; clear HB; have BK590 := n0_; have HB := n1_; clear n0_ n1_; (try clear hb); (try clear hb2); (try clear hk); (try clear hi)))
  go_ret
  exact ⟨ew_, (hg_ GE590)⟩
 ·rw [if_neg c5] at H
  have c5b0 : decide (t591 < 0) = false := decide_eq_false c5
  clear c5
  replace H := Option.bind_eq_some_iff.mp H
  obtain ⟨t592, A80, H⟩ := H
  replace H : (if t592 < 0 then (some true) else ((laws_szCheck.f a2_0 a2_1 a2_2 t592).bind fun t593 => (if t593 < 0 then (some true) else ((laws_toGearS.f k l0).bind fun t594 => ((laws_toCheckS.f k l1).bind fun t597 => ((laws_toCheck.f a2_0 a2_1 a2_2).bind fun bt600 => ((spec_AddCheck.f k t594 t597 bt600.1 bt600.2.1 bt600.2.2).bind fun bt603 => ((laws_toGearS.f k l0).bind fun t607 => ((laws_toCheckS.f k l1).bind fun t610 => ((laws_toCheck.f a2_0 a2_1 a2_2).bind fun bt613 => ((impl_AddCheck.f k t607 t610 bt613.1 bt613.2.1 bt613.2.2).bind fun bt616 => ((laws_eqCheckS.f k bt616.1 bt603.1).bind fun t620 => (if t620 = true then (laws_FnExactAddCheck.j0 k l0 l1 bt603.1 bt603.2 t607 t610 bt616.1 bt616.2 (bt616.2 != bt603.2) a2_0 a2_1 a2_2) else (laws_FnExactAddCheck.j0 k l0 l1 bt603.1 bt603.2 t607 t610 bt616.1 bt616.2 true a2_0 a2_1 a2_2)))))))))))))) = some r := H
  have A8 := Aside0.mk A80
  clear A80
  by_cases c9 : t592 < 0
  ·rw [if_pos c9] at H
   have c9b0 : decide (t592 < 0) = true := decide_eq_true c9
   clear c9
   obtain rfl := Option.some.inj H
   go_enter Try.func10, Try.ntmps10
   go_wp2_with (first | ((with_reducible refine gate_dst (N := 5) rfl ?_); refine box_event ?hg (N := 5) ?hd (cs := #[.string a2_0, .int .i64 a2_1, .int .i64 a2_2]) (t := 49) ?hr ?_; (case hd => rfl); (case hg => rfl); (case hr => first | (go_simp; done) | (go_simp; rfl)); intro gb590 hg w10 hbox hb; have n0_ := Aside0.mk (below_step hb_ hb); have n1_ := Aside0.mk (hbox); have n2_ := Aside0.mk ((by rw [hg]; exact (below_size hb_) : w.heap.size ≤ gb590)); have n3_ := Aside0.mk ((by rw [hg]; exact (below_size hb_) : w.heap.size ≤ gb590)); clear HB; have HB := n0_; have BK590 := n1_; have GW590 := n2_; have GE590 := n3_; clear n0_ n1_ n2_ n3_; clear hb hbox hg) | ((with_reducible refine gate_callee (f := 20) rfl ?_); refine goesL_ (some 21) rfl rfl Try.func20 (by kernel_rfl) rfl #[.slice A0 l0.length c0, .int .i64 1048576] rfl ln_ ?_; (with_reducible refine (laws_szGearS.calls k _ _ l0 1048576 t591 _ ?side1 ?side2 A4.out).mono ?_); (case side1 => exact kc_ (Kd.C_below HR0.out HB.out)); (case side2 => exact HC0.out); rintro e w11 ⟨rfl, hb⟩; refine ⟨_, rfl, ?_⟩; have n0_ := Aside0.mk (blk_below (g := gb590) (o := .cells #[.string a2_0, .int .i64 a2_1, .int .i64 a2_2] 49 (0, 0)) (bk_ BK590) hb); have n1_ := Aside0.mk (below_step (hg_ GE590) hb); clear BK590; clear HB; have BK590 := n0_; have HB := n1_; clear n0_ n1_; (try clear hb); (try clear hb2); (try clear hk); (try clear hi)) | ((with_reducible refine gate_callee (f := 15) rfl ?_); refine goesL_ (some 26) rfl rfl Try.func15 (by kernel_rfl) rfl #[.slice A1 l1.length c1, .int .i64 t591] rfl ln_ ?_; (with_reducible refine (laws_szCheckS.calls k _ _ l1 t591 t592 _ ?side1 ?side2 A8.out).mono ?_); (case side1 => exact kc_ (Kd.C_below HR1.out HB.out)); (case side2 => exact HC1.out); rintro e w12 ⟨rfl, hb⟩; refine ⟨_, rfl, ?_⟩; have n0_ := Aside0.mk (blk_below (g := gb590) (o := .cells #[.string a2_0, .int .i64 a2_1, .int .i64 a2_2] 49 (0, 0)) (bk_ BK590) hb); have n1_ := Aside0.mk (below_step (hg_ GE590) hb); clear BK590; clear HB; have BK590 := n0_; have HB := n1_; clear n0_ n1_; (try clear hb); (try clear hb2); (try clear hk); (try clear hi)))
   go_ret
   exact ⟨ew_, (hg_ GE590)⟩
  ·rw [if_neg c9] at H
   have c9b0 : decide (t592 < 0) = false := decide_eq_false c9
   clear c9
   replace H := Option.bind_eq_some_iff.mp H
   obtain ⟨t593, A130, H⟩ := H
   replace H : (if t593 < 0 then (some true) else ((laws_toGearS.f k l0).bind fun t594 => ((laws_toCheckS.f k l1).bind fun t597 => ((laws_toCheck.f a2_0 a2_1 a2_2).bind fun bt600 => ((spec_AddCheck.f k t594 t597 bt600.1 bt600.2.1 bt600.2.2).bind fun bt603 => ((laws_toGearS.f k l0).bind fun t607 => ((laws_toCheckS.f k l1).bind fun t610 => ((laws_toCheck.f a2_0 a2_1 a2_2).bind fun bt613 => ((impl_AddCheck.f k t607 t610 bt613.1 bt613.2.1 bt613.2.2).bind fun bt616 => ((laws_eqCheckS.f k bt616.1 bt603.1).bind fun t620 => (if t620 = true then (laws_FnExactAddCheck.j0 k l0 l1 bt603.1 bt603.2 t607 t610 bt616.1 bt616.2 (bt616.2 != bt603.2) a2_0 a2_1 a2_2) else (laws_FnExactAddCheck.j0 k l0 l1 bt603.1 bt603.2 t607 t610 bt616.1 bt616.2 true a2_0 a2_1 a2_2)))))))))))) = some r := H
   have A13 := Aside0.mk A130
   clear A130
   by_cases c14 : t593 < 0
   ·rw [if_pos c14] at H
    have c14b0 : decide (t593 < 0) = true := decide_eq_true c14
    clear c14
    obtain rfl := Option.some.inj H
    go_enter Try.func10, Try.ntmps10
    go_wp2_with (first | ((with_reducible refine gate_dst (N := 5) rfl ?_); refine box_event ?hg (N := 5) ?hd (cs := #[.string a2_0, .int .i64 a2_1, .int .i64 a2_2]) (t := 49) ?hr ?_; (case hd => rfl); (case hg => rfl); (case hr => first | (go_simp; done) | (go_simp; rfl)); intro gb590 hg w15 hbox hb; have n0_ := Aside0.mk (below_step hb_ hb); have n1_ := Aside0.mk (hbox); have n2_ := Aside0.mk ((by rw [hg]; exact (below_size hb_) : w.heap.size ≤ gb590)); have n3_ := Aside0.mk ((by rw [hg]; exact (below_size hb_) : w.heap.size ≤ gb590)); clear HB; have HB := n0_; have BK590 := n1_; have GW590 := n2_; have GE590 := n3_; clear n0_ n1_ n2_ n3_; clear hb hbox hg) | ((with_reducible refine gate_callee (f := 20) rfl ?_); refine goesL_ (some 21) rfl rfl Try.func20 (by kernel_rfl) rfl #[.slice A0 l0.length c0, .int .i64 1048576] rfl ln_ ?_; (with_reducible refine (laws_szGearS.calls k _ _ l0 1048576 t591 _ ?side1 ?side2 A4.out).mono ?_); (case side1 => exact kc_ (Kd.C_below HR0.out HB.out)); (case side2 => exact HC0.out); rintro e w16 ⟨rfl, hb⟩; refine ⟨_, rfl, ?_⟩; have n0_ := Aside0.mk (blk_below (g := gb590) (o := .cells #[.string a2_0, .int .i64 a2_1, .int .i64 a2_2] 49 (0, 0)) (bk_ BK590) hb); have n1_ := Aside0.mk (below_step (hg_ GE590) hb); clear BK590; clear HB; have BK590 := n0_; have HB := n1_; clear n0_ n1_; (try clear hb); (try clear hb2); (try clear hk); (try clear hi)) | ((with_reducible refine gate_callee (f := 15) rfl ?_); refine goesL_ (some 26) rfl rfl Try.func15 (by kernel_rfl) rfl #[.slice A1 l1.length c1, .int .i64 t591] rfl ln_ ?_; (with_reducible refine (laws_szCheckS.calls k _ _ l1 t591 t592 _ ?side1 ?side2 A8.out).mono ?_); (case side1 => exact kc_ (Kd.C_below HR1.out HB.out)); (case side2 => exact HC1.out); rintro e w17 ⟨rfl, hb⟩; refine ⟨_, rfl, ?_⟩; have n0_ := Aside0.mk (blk_below (g := gb590) (o := .cells #[.string a2_0, .int .i64 a2_1, .int .i64 a2_2] 49 (0, 0)) (bk_ BK590) hb); have n1_ := Aside0.mk (below_step (hg_ GE590) hb); clear BK590; clear HB; have BK590 := n0_; have HB := n1_; clear n0_ n1_; (try clear hb); (try clear hb2); (try clear hk); (try clear hi); have hcz18_0 : w17.cell? ⟨gb590, 0, none⟩ = some (.string a2_0) := (blk_cell BK590.out 0).trans rfl; have hcz18_1 : w17.cell? ⟨gb590, 1, none⟩ = some (.int .i64 a2_1) := (blk_cell BK590.out 1).trans rfl; have hcz18_2 : w17.cell? ⟨gb590, 2, none⟩ = some (.int .i64 a2_2) := (blk_cell BK590.out 2).trans rfl; have hfz18_0 := blk_frozen BK590.out 0; have hfz18_1 := blk_frozen BK590.out 1; have hfz18_2 := blk_frozen BK590.out 2) | ((with_reducible refine gate_callee (f := 37) rfl ?_); refine goesL_ (some 31) rfl rfl Try.func37 (by kernel_rfl) rfl #[.agg #[.string a2_0, .int .i64 a2_1, .int .i64 a2_2], .int .i64 t592] rfl ln_ ?_; (with_reducible refine (laws_szCheck.calls a2_0 a2_1 a2_2 t592 t593 _ A13.out).mono ?_); rintro e w19 ⟨rfl, hb⟩; refine ⟨_, rfl, ?_⟩; have n0_ := Aside0.mk (blk_below (g := gb590) (o := .cells #[.string a2_0, .int .i64 a2_1, .int .i64 a2_2] 49 (0, 0)) (bk_ BK590) hb); have n1_ := Aside0.mk (below_step (hg_ GE590) hb); clear BK590; clear HB; have BK590 := n0_; have HB := n1_; clear n0_ n1_; (try clear hb); (try clear hb2); (try clear hk); (try clear hi)))
    go_ret
    exact ⟨ew_, (hg_ GE590)⟩
   ·rw [if_neg c14] at H
    have c14b0 : decide (t593 < 0) = false := decide_eq_false c14
    clear c14
    replace H := Option.bind_eq_some_iff.mp H
    obtain ⟨t594, A200, H⟩ := H
    replace H : ((laws_toCheckS.f k l1).bind fun t597 => ((laws_toCheck.f a2_0 a2_1 a2_2).bind fun bt600 => ((spec_AddCheck.f k t594 t597 bt600.1 bt600.2.1 bt600.2.2).bind fun bt603 => ((laws_toGearS.f k l0).bind fun t607 => ((laws_toCheckS.f k l1).bind fun t610 => ((laws_toCheck.f a2_0 a2_1 a2_2).bind fun bt613 => ((impl_AddCheck.f k t607 t610 bt613.1 bt613.2.1 bt613.2.2).bind fun bt616 => ((laws_eqCheckS.f k bt616.1 bt603.1).bind fun t620 => (if t620 = true then (laws_FnExactAddCheck.j0 k l0 l1 bt603.1 bt603.2 t607 t610 bt616.1 bt616.2 (bt616.2 != bt603.2) a2_0 a2_1 a2_2) else (laws_FnExactAddCheck.j0 k l0 l1 bt603.1 bt603.2 t607 t610 bt616.1 bt616.2 true a2_0 a2_1 a2_2)))))))))) = some r := H
    have A20 := Aside0.mk A200
    clear A200
    replace H := Option.bind_eq_some_iff.mp H
    obtain ⟨t597, A210, H⟩ := H
    replace H : ((laws_toCheck.f a2_0 a2_1 a2_2).bind fun bt600 => ((spec_AddCheck.f k t594 t597 bt600.1 bt600.2.1 bt600.2.2).bind fun bt603 => ((laws_toGearS.f k l0).bind fun t607 => ((laws_toCheckS.f k l1).bind fun t610 => ((laws_toCheck.f a2_0 a2_1 a2_2).bind fun bt613 => ((impl_AddCheck.f k t607 t610 bt613.1 bt613.2.1 bt613.2.2).bind fun bt616 => ((laws_eqCheckS.f k bt616.1 bt603.1).bind fun t620 => (if t620 = true then (laws_FnExactAddCheck.j0 k l0 l1 bt603.1 bt603.2 t607 t610 bt616.1 bt616.2 (bt616.2 != bt603.2) a2_0 a2_1 a2_2) else (laws_FnExactAddCheck.j0 k l0 l1 bt603.1 bt603.2 t607 t610 bt616.1 bt616.2 true a2_0 a2_1 a2_2))))))))) = some r := H
    have A21 := Aside0.mk A210
    clear A210
    replace H := Option.bind_eq_some_iff.mp H
    obtain ⟨⟨t600, t601, t602⟩, A220, H⟩ := H
    replace H : ((spec_AddCheck.f k t594 t597 t600 t601 t602).bind fun bt603 => ((laws_toGearS.f k l0).bind fun t607 => ((laws_toCheckS.f k l1).bind fun t610 => ((laws_toCheck.f a2_0 a2_1 a2_2).bind fun bt613 => ((impl_AddCheck.f k t607 t610 bt613.1 bt613.2.1 bt613.2.2).bind fun bt616 => ((laws_eqCheckS.f k bt616.1 bt603.1).bind fun t620 => (if t620 = true then (laws_FnExactAddCheck.j0 k l0 l1 bt603.1 bt603.2 t607 t610 bt616.1 bt616.2 (bt616.2 != bt603.2) a2_0 a2_1 a2_2) else (laws_FnExactAddCheck.j0 k l0 l1 bt603.1 bt603.2 t607 t610 bt616.1 bt616.2 true a2_0 a2_1 a2_2)))))))) = some r := H
    have A22 := Aside0.mk A220
    clear A220
    replace H := Option.bind_eq_some_iff.mp H
    obtain ⟨⟨t603, t606⟩, A230, H⟩ := H
    replace H : ((laws_toGearS.f k l0).bind fun t607 => ((laws_toCheckS.f k l1).bind fun t610 => ((laws_toCheck.f a2_0 a2_1 a2_2).bind fun bt613 => ((impl_AddCheck.f k t607 t610 bt613.1 bt613.2.1 bt613.2.2).bind fun bt616 => ((laws_eqCheckS.f k bt616.1 t603).bind fun t620 => (if t620 = true then (laws_FnExactAddCheck.j0 k l0 l1 t603 t606 t607 t610 bt616.1 bt616.2 (bt616.2 != t606) a2_0 a2_1 a2_2) else (laws_FnExactAddCheck.j0 k l0 l1 t603 t606 t607 t610 bt616.1 bt616.2 true a2_0 a2_1 a2_2))))))) = some r := H
    have A23 := Aside0.mk A230
    clear A230
    replace H := Option.bind_eq_some_iff.mp H
    obtain ⟨t607, A240, H⟩ := H
    replace H : ((laws_toCheckS.f k l1).bind fun t610 => ((laws_toCheck.f a2_0 a2_1 a2_2).bind fun bt613 => ((impl_AddCheck.f k t607 t610 bt613.1 bt613.2.1 bt613.2.2).bind fun bt616 => ((laws_eqCheckS.f k bt616.1 t603).bind fun t620 => (if t620 = true then (laws_FnExactAddCheck.j0 k l0 l1 t603 t606 t607 t610 bt616.1 bt616.2 (bt616.2 != t606) a2_0 a2_1 a2_2) else (laws_FnExactAddCheck.j0 k l0 l1 t603 t606 t607 t610 bt616.1 bt616.2 true a2_0 a2_1 a2_2)))))) = some r := H
    have A24 := Aside0.mk A240
    clear A240
    replace H := Option.bind_eq_some_iff.mp H
    obtain ⟨t610, A250, H⟩ := H
    replace H : ((laws_toCheck.f a2_0 a2_1 a2_2).bind fun bt613 => ((impl_AddCheck.f k t607 t610 bt613.1 bt613.2.1 bt613.2.2).bind fun bt616 => ((laws_eqCheckS.f k bt616.1 t603).bind fun t620 => (if t620 = true then (laws_FnExactAddCheck.j0 k l0 l1 t603 t606 t607 t610 bt616.1 bt616.2 (bt616.2 != t606) a2_0 a2_1 a2_2) else (laws_FnExactAddCheck.j0 k l0 l1 t603 t606 t607 t610 bt616.1 bt616.2 true a2_0 a2_1 a2_2))))) = some r := H
    have A25 := Aside0.mk A250
    clear A250
    replace H := Option.bind_eq_some_iff.mp H
    obtain ⟨⟨t613, t614, t615⟩, A260, H⟩ := H
    replace H : ((impl_AddCheck.f k t607 t610 t613 t614 t615).bind fun bt616 => ((laws_eqCheckS.f k bt616.1 t603).bind fun t620 => (if t620 = true then (laws_FnExactAddCheck.j0 k l0 l1 t603 t606 t607 t610 bt616.1 bt616.2 (bt616.2 != t606) a2_0 a2_1 a2_2) else (laws_FnExactAddCheck.j0 k l0 l1 t603 t606 t607 t610 bt616.1 bt616.2 true a2_0 a2_1 a2_2)))) = some r := H
    have A26 := Aside0.mk A260
    clear A260
    replace H := Option.bind_eq_some_iff.mp H
    obtain ⟨⟨t616, t619⟩, A270, H⟩ := H
    replace H : ((laws_eqCheckS.f k t616 t603).bind fun t620 => (if t620 = true then (laws_FnExactAddCheck.j0 k l0 l1 t603 t606 t607 t610 t616 t619 (t619 != t606) a2_0 a2_1 a2_2) else (laws_FnExactAddCheck.j0 k l0 l1 t603 t606 t607 t610 t616 t619 true a2_0 a2_1 a2_2))) = some r := H
    have A27 := Aside0.mk A270
    clear A270
    have HC28 := Aside0.mk H
    clear H
    go_enter Try.func10, Try.ntmps10
    try go_wp2_with (first | ((with_reducible refine gate_dst (N := 5) rfl ?_); refine box_event ?hg (N := 5) ?hd (cs := #[.string a2_0, .int .i64 a2_1, .int .i64 a2_2]) (t := 49) ?hr ?_; (case hd => rfl); (case hg => rfl); (case hr => first | (go_simp; done) | (go_simp; rfl)); intro gb590 hg w29 hbox hb; have n0_ := Aside0.mk (below_step hb_ hb); have n1_ := Aside0.mk (hbox); have n2_ := Aside0.mk ((by rw [hg]; exact (below_size hb_) : w.heap.size ≤ gb590)); have n3_ := Aside0.mk ((by rw [hg]; exact (below_size hb_) : w.heap.size ≤ gb590)); clear HB; have HB := n0_; have BK590 := n1_; have GW590 := n2_; have GE590 := n3_; clear n0_ n1_ n2_ n3_; clear hb hbox hg) | ((with_reducible refine gate_callee (f := 20) rfl ?_); refine goesL_ (some 21) rfl rfl Try.func20 (by kernel_rfl) rfl #[.slice A0 l0.length c0, .int .i64 1048576] rfl ln_ ?_; (with_reducible refine (laws_szGearS.calls k _ _ l0 1048576 t591 _ ?side1 ?side2 A4.out).mono ?_); (case side1 => exact kc_ (Kd.C_below HR0.out HB.out)); (case side2 => exact HC0.out); rintro e w30 ⟨rfl, hb⟩; refine ⟨_, rfl, ?_⟩; have n0_ := Aside0.mk (blk_below (g := gb590) (o := .cells #[.string a2_0, .int .i64 a2_1, .int .i64 a2_2] 49 (0, 0)) (bk_ BK590) hb); have n1_ := Aside0.mk (below_step (hg_ GE590) hb); clear BK590; clear HB; have BK590 := n0_; have HB := n1_; clear n0_ n1_; (try clear hb); (try clear hb2); (try clear hk); (try clear hi)) | ((with_reducible refine gate_callee (f := 15) rfl ?_); refine goesL_ (some 26) rfl rfl Try.func15 (by kernel_rfl) rfl #[.slice A1 l1.length c1, .int .i64 t591] rfl ln_ ?_; (with_reducible refine (laws_szCheckS.calls k _ _ l1 t591 t592 _ ?side1 ?side2 A8.out).mono ?_); (case side1 => exact kc_ (Kd.C_below HR1.out HB.out)); (case side2 => exact HC1.out); rintro e w31 ⟨rfl, hb⟩; refine ⟨_, rfl, ?_⟩; have n0_ := Aside0.mk (blk_below (g := gb590) (o := .cells #[.string a2_0, .int .i64 a2_1, .int .i64 a2_2] 49 (0, 0)) (bk_ BK590) hb); have n1_ := Aside0.mk (below_step (hg_ GE590) hb); clear BK590; clear HB; have BK590 := n0_; have HB := n1_; clear n0_ n1_; (try clear hb); (try clear hb2); (try clear hk); (try clear hi); have hcz32_0 : w31.cell? ⟨gb590, 0, none⟩ = some (.string a2_0) := (blk_cell BK590.out 0).trans rfl; have hcz32_1 : w31.cell? ⟨gb590, 1, none⟩ = some (.int .i64 a2_1) := (blk_cell BK590.out 1).trans rfl; have hcz32_2 : w31.cell? ⟨gb590, 2, none⟩ = some (.int .i64 a2_2) := (blk_cell BK590.out 2).trans rfl; have hfz32_0 := blk_frozen BK590.out 0; have hfz32_1 := blk_frozen BK590.out 1; have hfz32_2 := blk_frozen BK590.out 2) | ((with_reducible refine gate_callee (f := 37) rfl ?_); refine goesL_ (some 31) rfl rfl Try.func37 (by kernel_rfl) rfl #[.agg #[.string a2_0, .int .i64 a2_1, .int .i64 a2_2], .int .i64 t592] rfl ln_ ?_; (with_reducible refine (laws_szCheck.calls a2_0 a2_1 a2_2 t592 t593 _ A13.out).mono ?_); rintro e w33 ⟨rfl, hb⟩; refine ⟨_, rfl, ?_⟩; have n0_ := Aside0.mk (blk_below (g := gb590) (o := .cells #[.string a2_0, .int .i64 a2_1, .int .i64 a2_2] 49 (0, 0)) (bk_ BK590) hb); have n1_ := Aside0.mk (below_step (hg_ GE590) hb); clear BK590; clear HB; have BK590 := n0_; have HB := n1_; clear n0_ n1_; (try clear hb); (try clear hb2); (try clear hk); (try clear hi)))
    have n0_ := Aside0.mk (blk_drew BK590.out)
    have n1_ := Aside0.mk (below_drew1 HB.out)
    clear BK590
    clear HB
    have BK590 := n0_
    have HB := n1_
    clear n0_ n1_
    refine start_ (n := 12) (S := fun w' => w'.cell? ⟨gb590, 0, none⟩ = some (.string a2_0) ∧ w'.cell? ⟨gb590, 1, none⟩ = some (.int .i64 a2_1) ∧ w'.cell? ⟨gb590, 2, none⟩ = some (.int .i64 a2_2)) (ds := []) #[F_,F_,F_,F_,F_,F_,F_,F_,F_,F_,F_,F_] (by kernel_rfl) rfl rfl ⟨(blk_cell BK590.out 0).trans rfl, (blk_cell BK590.out 1).trans rfl, (blk_cell BK590.out 2).trans rfl⟩ (fun hHeld => ?_); refine with_tabW laws_FnExactAddCheck.tab11 laws_FnExactAddCheck.bits11 (fun HT_ HW_ => ?_)
    generalize w33.drew = w34 at BK590 HB hHeld ⊢
    refine pu (i := 0) (N := some 35) #[T_,F_,F_,F_,F_,F_,F_,F_,F_,F_,F_,F_] HT_ ?_
    refine pu (i := 2) (N := some 37) #[T_,F_,T_,F_,F_,F_,F_,F_,F_,F_,F_,F_] HT_ ?_
    refine take_ (i := 4) (N := some 39) (v := ?_) (a' := ?_) #[T_,F_,T_,F_,T_,F_,F_,F_,F_,F_,F_,F_] rfl rfl (take_ofW HT_.out HW_.out (by kernel_rfl)) (fun _ _ _ h => h) (Or.inl ⟨by rfl, ?_⟩) hHeld ?_ ?_
    rotate_left
    ·rintro w' ⟨s0, s1, s2⟩
     go_simp
     with_reducible rfl
    rotate_left
    ·simp only [Act.put, sT_, s0_, sS_, i64_w, i32_w]
     rfl
    refine one_ (i := 1) (N := some 36) #[T_,T_,T_,F_,T_,F_,F_,F_,F_,F_,F_,F_] rfl rfl (one_of HT_.out (by kernel_rfl)) (by decide) (fun K hK => ?_)
    refine goes_ Try.func22 (by kernel_rfl) rfl #[.slice A0 l0.length c0] (by rfl) rfl rfl ln_ ?_
    with_reducible refine (laws_toGearS.calls k _ _ l0 t594 _ ?side1 ?side2 A20.out).mono ?_
    (case side1 => exact kc_ (Kd.C_below HR0.out HB.out))
    (case side2 => exact HC0.out)
    rintro e w35 ⟨v595, rfl, ho0, hb⟩
    refine ⟨_, rfl, ?_⟩
    have n0_ := Aside0.mk (Kd.R_lower ho0 (below_size (hg_ GE590)))
    have n1_ := Aside0.mk (blk_below (g := gb590) (o := .cells #[.string a2_0, .int .i64 a2_1, .int .i64 a2_2] 49 (0, 0)) (bk_ BK590) hb)
    have n2_ := Aside0.mk (below_step (hg_ GE590) hb)
    clear BK590
    clear HB
    have HO596 := n0_
    have BK590 := n1_
    have HB := n2_
    clear n0_ n1_ n2_
    (try clear hb)
    (try clear hb2)
    (try clear hk)
    (try clear hi)
    (try clear ho0)
    refine hK.out _ _ ⟨(blk_cell BK590.out 0).trans rfl, (blk_cell BK590.out 1).trans rfl, (blk_cell BK590.out 2).trans rfl⟩ (fun hHeld => ?_)
    clear hK K
    refine norm_ (a' := ?_) ?_ ?_
    rotate_left
    ·show Act.put _ (some 36) _ = _
     simp only [Act.put, sT_, s0_, sS_, i64_w, i32_w]
     rfl
    refine one_ (i := 3) (N := some 38) #[T_,T_,T_,T_,T_,F_,F_,F_,F_,F_,F_,F_] rfl rfl (one_of HT_.out (by kernel_rfl)) (by decide) (fun K hK => ?_)
    refine goes_ Try.func17 (by kernel_rfl) rfl #[.slice A1 l1.length c1] (by rfl) rfl rfl ln_ ?_
    with_reducible refine (laws_toCheckS.calls k _ _ l1 t597 _ ?side1 ?side2 A21.out).mono ?_
    (case side1 => exact kc_ (Kd.C_below HR1.out HB.out))
    (case side2 => exact HC1.out)
    rintro e w36 ⟨v598, rfl, ho0, hb⟩
    refine ⟨_, rfl, ?_⟩
    have n0_ := Aside0.mk (Kd.R_below (kr_ HO596) hb)
    have n1_ := Aside0.mk (Kd.R_lower ho0 (below_size (hg_ GE590)))
    have n2_ := Aside0.mk (blk_below (g := gb590) (o := .cells #[.string a2_0, .int .i64 a2_1, .int .i64 a2_2] 49 (0, 0)) (bk_ BK590) hb)
    have n3_ := Aside0.mk (below_step (hg_ GE590) hb)
    clear HO596
    clear BK590
    clear HB
    have HO596 := n0_
    have HO599 := n1_
    have BK590 := n2_
    have HB := n3_
    clear n0_ n1_ n2_ n3_
    (try clear hb)
    (try clear hb2)
    (try clear hk)
    (try clear hi)
    (try clear ho0)
    refine hK.out _ _ ⟨(blk_cell BK590.out 0).trans rfl, (blk_cell BK590.out 1).trans rfl, (blk_cell BK590.out 2).trans rfl⟩ (fun hHeld => ?_)
    clear hK K
    refine norm_ (a' := ?_) ?_ ?_
    rotate_left
    ·show Act.put _ (some 38) _ = _
     simp only [Act.put, sT_, s0_, sS_, i64_w, i32_w]
     rfl
    refine one_ (i := 5) (N := some 40) #[T_,T_,T_,T_,T_,T_,F_,F_,F_,F_,F_,F_] rfl rfl (one_of HT_.out (by kernel_rfl)) (by decide) (fun K hK => ?_)
    refine goes_ Try.func39 (by kernel_rfl) rfl #[.agg #[.string a2_0, .int .i64 a2_1, .int .i64 a2_2]] (by rfl) rfl rfl ln_ ?_
    with_reducible refine (laws_toCheck.calls a2_0 a2_1 a2_2 t600 t601 t602 _ A22.out).mono ?_
    rintro e w37 ⟨rfl, hb⟩
    refine ⟨_, rfl, ?_⟩
    have n0_ := Aside0.mk (Kd.R_below (kr_ HO596) hb)
    have n1_ := Aside0.mk (Kd.R_below (kr_ HO599) hb)
    have n2_ := Aside0.mk (blk_below (g := gb590) (o := .cells #[.string a2_0, .int .i64 a2_1, .int .i64 a2_2] 49 (0, 0)) (bk_ BK590) hb)
    have n3_ := Aside0.mk (below_step (hg_ GE590) hb)
    clear HO596
    clear HO599
    clear BK590
    clear HB
    have HO596 := n0_
    have HO599 := n1_
    have BK590 := n2_
    have HB := n3_
    clear n0_ n1_ n2_ n3_
    (try clear hb)
    (try clear hb2)
    (try clear hk)
    (try clear hi)
    obtain ⟨Ao38, co38, eo38⟩ := Kd.R_slice HO596.out
    (first | subst eo38 | (injection eo38 with f1_ f2_ f3_; have f4_ := f1_.symm; have f5_ := f3_.symm; clear f1_ f2_ f3_; subst f4_; subst f5_))
    obtain ⟨Ao39, co39, eo39⟩ := Kd.R_slice HO599.out
    (first | subst eo39 | (injection eo39 with f1_ f2_ f3_; have f4_ := f1_.symm; have f5_ := f3_.symm; clear f1_ f2_ f3_; subst f4_; subst f5_))
    refine hK.out _ _ ⟨(blk_cell BK590.out 0).trans rfl, (blk_cell BK590.out 1).trans rfl, (blk_cell BK590.out 2).trans rfl⟩ (fun hHeld => ?_)
    clear hK K
    refine norm_ (a' := ?_) ?_ ?_
    rotate_left
    ·show Act.put _ (some 40) _ = _
     simp only [Act.put, sT_, s0_, sS_, i64_w, i32_w]
     rfl
    refine one_ (i := 6) (N := some 41) #[T_,T_,T_,T_,T_,T_,T_,F_,F_,F_,F_,F_] rfl rfl (one_of HT_.out (by kernel_rfl)) (by decide) (fun K hK => ?_)
    refine goes_ Try.func38 (by kernel_rfl) rfl #[.slice Ao38 t594.length co38, .slice Ao39 t597.length co39, .agg #[.string t600, .int .i64 t601, .int .i64 t602]] (by rfl) rfl rfl ln_ ?_
    with_reducible refine (spec_AddCheck.calls k _ _ t594 _ _ t597 t600 t601 t602 t603 t606 _ ?side1 ?side2 ?side3 ?side4 A23.out).mono ?_
    (case side1 => repeat (first | exact (Kd.R_reads' HO596.out).2.2 | (with_reducible refine Kd.C_alloc ?_ _) | (with_reducible refine Kd.C_drewN ?_ _) | (with_reducible refine Kd.C_drew ?_)))
    (case side2 => exact (Kd.R_reads' HO596.out).2.1)
    (case side3 => repeat (first | exact (Kd.R_reads' HO599.out).2.2 | (with_reducible refine Kd.C_alloc ?_ _) | (with_reducible refine Kd.C_drewN ?_ _) | (with_reducible refine Kd.C_drew ?_)))
    (case side4 => exact (Kd.R_reads' HO599.out).2.1)
    rintro e w40 ⟨v604, rfl, ho0, hb⟩
    refine ⟨_, rfl, ?_⟩
    have n0_ := Aside0.mk (Kd.R_below (kr_ HO596) hb)
    have n1_ := Aside0.mk (Kd.R_elder' (kr_ HO599) (Kd.R_base ho0) hb)
    have n2_ := Aside0.mk (Kd.R_lower (Kd.R_new' ho0 (Kd.R_lt (kr_ HO599))) (below_size (hg_ GE590)))
    have n3_ := Aside0.mk (blk_below (g := gb590) (o := .cells #[.string a2_0, .int .i64 a2_1, .int .i64 a2_2] 49 (0, 0)) (bk_ BK590) hb)
    have n4_ := Aside0.mk (below_step (hg_ GE590) hb)
    clear HO596
    clear HO599
    clear BK590
    clear HB
    have HO596 := n0_
    have HO599 := n1_
    have HO605 := n2_
    have BK590 := n3_
    have HB := n4_
    clear n0_ n1_ n2_ n3_ n4_
    (try clear hb)
    (try clear hb2)
    (try clear hk)
    (try clear hi)
    (try clear ho0)
    refine hK.out _ _ ⟨(blk_cell BK590.out 0).trans rfl, (blk_cell BK590.out 1).trans rfl, (blk_cell BK590.out 2).trans rfl⟩ (fun hHeld => ?_)
    clear hK K
    refine norm_ (a' := ?_) ?_ ?_
    rotate_left
    ·show Act.put _ (some 41) _ = _
     simp only [Act.put, sT_, s0_, sS_, i64_w, i32_w]
     rfl
    refine pu (i := 7) (N := some 34) #[T_,T_,T_,T_,T_,T_,T_,T_,F_,F_,F_,F_] HT_ ?_
    refine pu (i := 8) (N := some 42) #[T_,T_,T_,T_,T_,T_,T_,T_,T_,F_,F_,F_] HT_ ?_
    refine pu (i := 9) (N := some 43) #[T_,T_,T_,T_,T_,T_,T_,T_,T_,T_,F_,F_] HT_ ?_
    refine pu (i := 10) (N := some 8) #[T_,T_,T_,T_,T_,T_,T_,T_,T_,T_,T_,F_] HT_ ?_
    refine pu (i := 11) (N := some 9) #[T_,T_,T_,T_,T_,T_,T_,T_,T_,T_,T_,T_] HT_ ?_
    refine done_ (done_of HT_.out (by kernel_rfl)) ?_
    go_upto_region 15 with (first | ((with_reducible refine gate_callee (f := 22) rfl ?_); refine goesL_ (some 45) rfl rfl Try.func22 (by kernel_rfl) rfl #[.slice A0 l0.length c0] rfl ln_ ?_; (with_reducible refine (laws_toGearS.calls k _ _ l0 t607 _ ?side1 ?side2 A24.out).mono ?_); (case side1 => exact kc_ (Kd.C_below HR0.out HB.out)); (case side2 => exact HC0.out); rintro e w41 ⟨v608, rfl, ho0, hb⟩; refine ⟨_, rfl, ?_⟩; have n0_ := Aside0.mk (Kd.R_elder' (kr_ HO596) (Kd.R_base ho0) hb); have n1_ := Aside0.mk (Kd.R_below (kr_ HO599) hb); have n2_ := Aside0.mk (Kd.R_below (kr_ HO605) hb); have n3_ := Aside0.mk (Kd.R_lower (Kd.R_new' ho0 (Kd.R_lt (kr_ HO596))) (below_size (hg_ GE590))); have n4_ := Aside0.mk (blk_below (g := gb590) (o := .cells #[.string a2_0, .int .i64 a2_1, .int .i64 a2_2] 49 (0, 0)) (bk_ BK590) hb); have n5_ := Aside0.mk (below_step (hg_ GE590) hb); clear HO596; clear HO599; clear HO605; clear BK590; clear HB; have HO596 := n0_; have HO599 := n1_; have HO605 := n2_; have HO609 := n3_; have BK590 := n4_; have HB := n5_; clear n0_ n1_ n2_ n3_ n4_ n5_; (try clear hb); (try clear hb2); (try clear hk); (try clear hi); (try clear ho0)) | ((with_reducible refine gate_callee (f := 17) rfl ?_); refine goesL_ (some 47) rfl rfl Try.func17 (by kernel_rfl) rfl #[.slice A1 l1.length c1] rfl ln_ ?_; (with_reducible refine (laws_toCheckS.calls k _ _ l1 t610 _ ?side1 ?side2 A25.out).mono ?_); (case side1 => exact kc_ (Kd.C_below HR1.out HB.out)); (case side2 => exact HC1.out); rintro e w42 ⟨v611, rfl, ho0, hb⟩; refine ⟨_, rfl, ?_⟩; have n0_ := Aside0.mk (Kd.R_below (kr_ HO596) hb); have n1_ := Aside0.mk (Kd.R_elder' (kr_ HO599) (Kd.R_base ho0) hb); have n2_ := Aside0.mk (Kd.R_elder' (kr_ HO605) (Kd.R_base ho0) hb); have n3_ := Aside0.mk (Kd.R_below (kr_ HO609) hb); have n4_ := Aside0.mk (Kd.R_lower (Kd.R_new' (Kd.R_new' ho0 (Kd.R_lt (kr_ HO599))) (Kd.R_lt (kr_ HO605))) (below_size (hg_ GE590))); have n5_ := Aside0.mk (blk_below (g := gb590) (o := .cells #[.string a2_0, .int .i64 a2_1, .int .i64 a2_2] 49 (0, 0)) (bk_ BK590) hb); have n6_ := Aside0.mk (below_step (hg_ GE590) hb); clear HO596; clear HO599; clear HO605; clear HO609; clear BK590; clear HB; have HO596 := n0_; have HO599 := n1_; have HO605 := n2_; have HO609 := n3_; have HO612 := n4_; have BK590 := n5_; have HB := n6_; clear n0_ n1_ n2_ n3_ n4_ n5_ n6_; (try clear hb); (try clear hb2); (try clear hk); (try clear hi); (try clear ho0); have hcz43_0 : w42.cell? ⟨gb590, 0, none⟩ = some (.string a2_0) := (blk_cell BK590.out 0).trans rfl; have hcz43_1 : w42.cell? ⟨gb590, 1, none⟩ = some (.int .i64 a2_1) := (blk_cell BK590.out 1).trans rfl; have hcz43_2 : w42.cell? ⟨gb590, 2, none⟩ = some (.int .i64 a2_2) := (blk_cell BK590.out 2).trans rfl; have hfz43_0 := blk_frozen BK590.out 0; have hfz43_1 := blk_frozen BK590.out 1; have hfz43_2 := blk_frozen BK590.out 2) | ((with_reducible refine gate_callee (f := 39) rfl ?_); refine goesL_ (some 52) rfl rfl Try.func39 (by kernel_rfl) rfl #[.agg #[.string a2_0, .int .i64 a2_1, .int .i64 a2_2]] rfl ln_ ?_; (with_reducible refine (laws_toCheck.calls a2_0 a2_1 a2_2 t613 t614 t615 _ A26.out).mono ?_); rintro e w44 ⟨rfl, hb⟩; refine ⟨_, rfl, ?_⟩; have n0_ := Aside0.mk (Kd.R_below (kr_ HO596) hb); have n1_ := Aside0.mk (Kd.R_below (kr_ HO599) hb); have n2_ := Aside0.mk (Kd.R_below (kr_ HO605) hb); have n3_ := Aside0.mk (Kd.R_below (kr_ HO609) hb); have n4_ := Aside0.mk (Kd.R_below (kr_ HO612) hb); have n5_ := Aside0.mk (blk_below (g := gb590) (o := .cells #[.string a2_0, .int .i64 a2_1, .int .i64 a2_2] 49 (0, 0)) (bk_ BK590) hb); have n6_ := Aside0.mk (below_step (hg_ GE590) hb); clear HO596; clear HO599; clear HO605; clear HO609; clear HO612; clear BK590; clear HB; have HO596 := n0_; have HO599 := n1_; have HO605 := n2_; have HO609 := n3_; have HO612 := n4_; have BK590 := n5_; have HB := n6_; clear n0_ n1_ n2_ n3_ n4_ n5_ n6_; (try clear hb); (try clear hb2); (try clear hk); (try clear hi); obtain ⟨Ao45, co45, eo45⟩ := Kd.R_slice HO609.out; subst eo45; obtain ⟨Ao46, co46, eo46⟩ := Kd.R_slice HO612.out; subst eo46) | ((with_reducible refine gate_callee (f := 40) rfl ?_); refine goesL_ (some 53) rfl rfl Try.func40 (by kernel_rfl) rfl #[.slice Ao45 t607.length co45, .slice Ao46 t610.length co46, .agg #[.string t613, .int .i64 t614, .int .i64 t615]] rfl ln_ ?_; (with_reducible refine (impl_AddCheck.calls k _ _ t607 _ _ t610 t613 t614 t615 t616 t619 _ ?side1 ?side2 ?side3 ?side4 A27.out).mono ?_); (case side1 => repeat (first | exact (Kd.R_reads' HO609.out).2.2 | (with_reducible refine Kd.C_alloc ?_ _) | (with_reducible refine Kd.C_drewN ?_ _) | (with_reducible refine Kd.C_drew ?_))); (case side2 => exact (Kd.R_reads' HO609.out).2.1); (case side3 => repeat (first | exact (Kd.R_reads' HO612.out).2.2 | (with_reducible refine Kd.C_alloc ?_ _) | (with_reducible refine Kd.C_drewN ?_ _) | (with_reducible refine Kd.C_drew ?_))); (case side4 => exact (Kd.R_reads' HO612.out).2.1); rintro e w47 ⟨v617, rfl, ho0, hb⟩; refine ⟨_, rfl, ?_⟩; have n0_ := Aside0.mk (Kd.R_below (kr_ HO596) hb); have n1_ := Aside0.mk (Kd.R_elder' (kr_ HO599) (Kd.R_base ho0) hb); have n2_ := Aside0.mk (Kd.R_elder' (kr_ HO605) (Kd.R_base ho0) hb); have n3_ := Aside0.mk (Kd.R_below (kr_ HO609) hb); have n4_ := Aside0.mk (Kd.R_elder' (kr_ HO612) (Kd.R_base ho0) hb); have n5_ := Aside0.mk (Kd.R_lower (Kd.R_new' (Kd.R_new' (Kd.R_new' ho0 (Kd.R_lt (kr_ HO599))) (Kd.R_lt (kr_ HO605))) (Kd.R_lt (kr_ HO612))) (below_size (hg_ GE590))); have n6_ := Aside0.mk (blk_below (g := gb590) (o := .cells #[.string a2_0, .int .i64 a2_1, .int .i64 a2_2] 49 (0, 0)) (bk_ BK590) hb); have n7_ := Aside0.mk (below_step (hg_ GE590) hb); clear HO596; clear HO599; clear HO605; clear HO609; clear HO612; clear BK590; clear HB; have HO596 := n0_; have HO599 := n1_; have HO605 := n2_; have HO609 := n3_; have HO612 := n4_; have HO618 := n5_; have BK590 := n6_; have HB := n7_; clear n0_ n1_ n2_ n3_ n4_ n5_ n6_ n7_; (try clear hb); (try clear hb2); (try clear hk); (try clear hi); (try clear ho0)))
    (try simp only [Act.put, List.setIfInBounds_toArray, List.set_cons_zero, List.set_cons_succ])
    go_cut [64] (fun v64 wc => ∃ (kq : Nat) (x64_27 : Bool), v64 = .bool x64_27 ∧ Aside0 (laws_FnExactAddCheck.j0 kq l0 l1 t603 t606 t607 t610 t616 t619 x64_27 a2_0 a2_1 a2_2 = some r) ∧ Aside0 (kq ≤ k) ∧ Aside0 (Kd.R k53 53 wc w.heap.size (fun k_ => some k_ ≠ ((.slice Ao46 t610.length co46) : Value).ownBlock ∧ some k_ ≠ (v617 : Value).ownBlock) v604 t603) ∧ Aside0 (Kd.R k73 73 wc w.heap.size (fun _ => True) (.slice Ao45 t607.length co45) t607) ∧ Aside0 (Kd.R k53 53 wc w.heap.size (fun k_ => some k_ ≠ (v604 : Value).ownBlock ∧ some k_ ≠ (v617 : Value).ownBlock) (.slice Ao46 t610.length co46) t610) ∧ Aside0 (Kd.R k53 53 wc w.heap.size (fun k_ => some k_ ≠ (v604 : Value).ownBlock ∧ some k_ ≠ ((.slice Ao46 t610.length co46) : Value).ownBlock) v617 t616) ∧ Aside0 (wc.heap[gb590]? = some (.cells #[.string a2_0, .int .i64 a2_1, .int .i64 a2_2] 49 (0, 0))) ∧ Aside0 (Below w.heap.size w wc))
    case first =>
     have H := HC28.out
     clear HC28
     replace H := Option.bind_eq_some_iff.mp H
     obtain ⟨t620, A480, H⟩ := H
     replace H : (if t620 = true then (laws_FnExactAddCheck.j0 k l0 l1 t603 t606 t607 t610 t616 t619 (t619 != t606) a2_0 a2_1 a2_2) else (laws_FnExactAddCheck.j0 k l0 l1 t603 t606 t607 t610 t616 t619 true a2_0 a2_1 a2_2)) = some r := H
     have A48 := Aside0.mk A480
     clear A480
     by_cases c49 : t620 = true
     ·subst c49
      have H1 : (laws_FnExactAddCheck.j0 k l0 l1 t603 t606 t607 t610 t616 t619 (t619 != t606) a2_0 a2_1 a2_2) = some r := by rw [if_pos rfl] at H; exact H
      clear H
      have H := H1
      clear H1
      have H' := Aside0.mk H
      clear H
      obtain ⟨Ao50, co50, eo50⟩ := Kd.R_slice HO618.out
      subst eo50
      obtain ⟨Ao51, co51, eo51⟩ := Kd.R_slice HO605.out
      subst eo51
      go_wp2_with (first | ((with_reducible refine gate_callee (f := 19) rfl ?_); refine goesL_ (some 58) rfl rfl Try.func19 (by kernel_rfl) rfl #[.slice Ao50 t616.length co50, .slice Ao51 t603.length co51] rfl ln_ ?_; (with_reducible refine (laws_eqCheckS.calls k _ _ t616 _ _ t603 true _ ?side1 ?side2 ?side3 ?side4 A48.out).mono ?_); (case side1 => repeat (first | exact (Kd.R_reads' HO618.out).2.2 | (with_reducible refine Kd.C_alloc ?_ _) | (with_reducible refine Kd.C_drewN ?_ _) | (with_reducible refine Kd.C_drew ?_))); (case side2 => exact (Kd.R_reads' HO618.out).2.1); (case side3 => repeat (first | exact (Kd.R_reads' HO605.out).2.2 | (with_reducible refine Kd.C_alloc ?_ _) | (with_reducible refine Kd.C_drewN ?_ _) | (with_reducible refine Kd.C_drew ?_))); (case side4 => exact (Kd.R_reads' HO605.out).2.1); rintro e w52 ⟨rfl, hb⟩; refine ⟨_, rfl, ?_⟩; have n0_ := Aside0.mk (Kd.R_below (kr_ HO596) hb); have n1_ := Aside0.mk (Kd.R_below (kr_ HO599) hb); have n2_ := Aside0.mk (Kd.R_below (kr_ HO605) hb); have n3_ := Aside0.mk (Kd.R_below (kr_ HO609) hb); have n4_ := Aside0.mk (Kd.R_below (kr_ HO612) hb); have n5_ := Aside0.mk (Kd.R_below (kr_ HO618) hb); have n6_ := Aside0.mk (blk_below (g := gb590) (o := .cells #[.string a2_0, .int .i64 a2_1, .int .i64 a2_2] 49 (0, 0)) (bk_ BK590) hb); have n7_ := Aside0.mk (below_step (hg_ GE590) hb); clear HO596; clear HO599; clear HO605; clear HO609; clear HO612; clear HO618; clear BK590; clear HB; have HO596 := n0_; have HO599 := n1_; have HO605 := n2_; have HO609 := n3_; have HO612 := n4_; have HO618 := n5_; have BK590 := n6_; have HB := n7_; clear n0_ n1_ n2_ n3_ n4_ n5_ n6_ n7_; (try clear hb); (try clear hb2); (try clear hk); (try clear hi)))
      go_meet
      case rel => exact ⟨_, ((t619 != t606)), (by first | rfl | (simp; done) | (simp [*]; done)), H', ⟨by first | omega | exact Nat.le_refl _⟩, ⟨by (with_reducible repeat (first | apply Kd.R_alloc | apply Kd.R_drewN | apply Kd.R_drew)); exact Kd.R_mono HO605.out (fun _ hk => ⟨hk.1.2, hk.2⟩)⟩, ⟨by (with_reducible repeat (first | apply Kd.R_alloc | apply Kd.R_drewN | apply Kd.R_drew)); exact Kd.R_mono HO609.out (fun _ hk => trivial)⟩, ⟨by (with_reducible repeat (first | apply Kd.R_alloc | apply Kd.R_drewN | apply Kd.R_drew)); exact Kd.R_mono HO612.out (fun _ hk => ⟨hk.1.2, hk.2⟩)⟩, ⟨by (with_reducible repeat (first | apply Kd.R_alloc | apply Kd.R_drewN | apply Kd.R_drew)); exact Kd.R_mono HO618.out (fun _ hk => ⟨hk.1.2, hk.2⟩)⟩, ⟨by (with_reducible repeat (first | refine blk_drewN ?_ _ | refine blk_drew ?_ | refine blk_alloc ?_ _)); exact BK590.out⟩, ⟨(hg_ GE590)⟩⟩
     ·replace c49 := Bool.eq_false_iff.mpr c49
      subst c49
      have H1 : (laws_FnExactAddCheck.j0 k l0 l1 t603 t606 t607 t610 t616 t619 true a2_0 a2_1 a2_2) = some r := by rw [if_neg (show ¬ (false = true) by decide)] at H; exact H
      clear H
      have H := H1
      clear H1
      have H' := Aside0.mk H
      clear H
      obtain ⟨Ao53, co53, eo53⟩ := Kd.R_slice HO618.out
      subst eo53
      obtain ⟨Ao54, co54, eo54⟩ := Kd.R_slice HO605.out
      subst eo54
      go_wp2_with (first | ((with_reducible refine gate_callee (f := 19) rfl ?_); refine goesL_ (some 58) rfl rfl Try.func19 (by kernel_rfl) rfl #[.slice Ao53 t616.length co53, .slice Ao54 t603.length co54] rfl ln_ ?_; (with_reducible refine (laws_eqCheckS.calls k _ _ t616 _ _ t603 false _ ?side1 ?side2 ?side3 ?side4 A48.out).mono ?_); (case side1 => repeat (first | exact (Kd.R_reads' HO618.out).2.2 | (with_reducible refine Kd.C_alloc ?_ _) | (with_reducible refine Kd.C_drewN ?_ _) | (with_reducible refine Kd.C_drew ?_))); (case side2 => exact (Kd.R_reads' HO618.out).2.1); (case side3 => repeat (first | exact (Kd.R_reads' HO605.out).2.2 | (with_reducible refine Kd.C_alloc ?_ _) | (with_reducible refine Kd.C_drewN ?_ _) | (with_reducible refine Kd.C_drew ?_))); (case side4 => exact (Kd.R_reads' HO605.out).2.1); rintro e w55 ⟨rfl, hb⟩; refine ⟨_, rfl, ?_⟩; have n0_ := Aside0.mk (Kd.R_below (kr_ HO596) hb); have n1_ := Aside0.mk (Kd.R_below (kr_ HO599) hb); have n2_ := Aside0.mk (Kd.R_below (kr_ HO605) hb); have n3_ := Aside0.mk (Kd.R_below (kr_ HO609) hb); have n4_ := Aside0.mk (Kd.R_below (kr_ HO612) hb); have n5_ := Aside0.mk (Kd.R_below (kr_ HO618) hb); have n6_ := Aside0.mk (blk_below (g := gb590) (o := .cells #[.string a2_0, .int .i64 a2_1, .int .i64 a2_2] 49 (0, 0)) (bk_ BK590) hb); have n7_ := Aside0.mk (below_step (hg_ GE590) hb); clear HO596; clear HO599; clear HO605; clear HO609; clear HO612; clear HO618; clear BK590; clear HB; have HO596 := n0_; have HO599 := n1_; have HO605 := n2_; have HO609 := n3_; have HO612 := n4_; have HO618 := n5_; have BK590 := n6_; have HB := n7_; clear n0_ n1_ n2_ n3_ n4_ n5_ n6_ n7_; (try clear hb); (try clear hb2); (try clear hk); (try clear hi)))
      go_meet
      case rel => exact ⟨_, (true), (by first | rfl | (simp; done) | (simp [*]; done)), H', ⟨by first | omega | exact Nat.le_refl _⟩, ⟨by (with_reducible repeat (first | apply Kd.R_alloc | apply Kd.R_drewN | apply Kd.R_drew)); exact Kd.R_mono HO605.out (fun _ hk => ⟨hk.1.2, hk.2⟩)⟩, ⟨by (with_reducible repeat (first | apply Kd.R_alloc | apply Kd.R_drewN | apply Kd.R_drew)); exact Kd.R_mono HO609.out (fun _ hk => trivial)⟩, ⟨by (with_reducible repeat (first | apply Kd.R_alloc | apply Kd.R_drewN | apply Kd.R_drew)); exact Kd.R_mono HO612.out (fun _ hk => ⟨hk.1.2, hk.2⟩)⟩, ⟨by (with_reducible repeat (first | apply Kd.R_alloc | apply Kd.R_drewN | apply Kd.R_drew)); exact Kd.R_mono HO618.out (fun _ hk => ⟨hk.1.2, hk.2⟩)⟩, ⟨by (with_reducible repeat (first | refine blk_drewN ?_ _ | refine blk_drew ?_ | refine blk_alloc ?_ _)); exact BK590.out⟩, ⟨(hg_ GE590)⟩⟩
    case rest =>
     clear HC28
     try clear c1
     try clear c2
     try clear p2
     try clear c3
     try clear c4
     try clear c5
     try clear c5b0
     try clear c9
     try clear c9b0
     try clear c10
     try clear c14
     try clear c14b0
     try clear c15
     try clear c17
     try clear c19
     try clear c20
     try clear c22
     try clear c37
     try clear c38
     try clear c39
     try clear c40
     try clear c49
     try clear hcz18_0
     try clear hcz18_1
     try clear hcz18_2
     try clear hcz32_0
     try clear hcz32_1
     try clear hcz32_2
     try clear hcz43_0
     try clear hcz43_1
     try clear hcz43_2
     try clear hfz18_0
     try clear hfz18_1
     try clear hfz18_2
     try clear hfz32_0
     try clear hfz32_1
     try clear hfz32_2
     try clear hfz43_0
     try clear hfz43_1
     try clear hfz43_2
     obtain ⟨kq, x64_27, rfl, HA, HJ27, HO_8, HO_10, HO_11, HO_12, BK590, HB⟩ := hcut
     cases kq with
     | zero => exact absurd HA.out (by simp [laws_FnExactAddCheck.j0])
     | succ kj27 =>
      have H := HA.out
      clear HA
      simp only [laws_FnExactAddCheck.j0] at H
      by_cases c56 : x64_27 = true
      ·subst c56
       have H1 : (some false) = some r := by rw [if_pos rfl] at H; exact H
       clear H
       have H := H1
       clear H1
       obtain rfl := Option.some.inj H
       go_wp2
       go_ret
       exact ⟨ew_, (hg_ GE590)⟩
      ·replace c56 := Bool.eq_false_iff.mpr c56
       subst c56
       have H1 : ((laws_toGearS.f kj27 l0).bind fun t621 => ((laws_eqGearS.f kj27 t607 t621).bind fun t624 => (if t624 = true then ((laws_toCheckS.f kj27 l1).bind fun t625 => ((laws_eqCheckS.f kj27 t610 t625).bind fun t628 => (if t628 = true then ((laws_markGearS.f kj27 t607 1).bind fun bt629 => ((laws_markCheckS.f kj27 t610 bt629.1).bind fun bt631 => (if bt631.1 < 0 then (laws_FnExactAddCheck.j1 kj27 l0 l1 t603 t606 t616 true a2_0 a2_1 a2_2) else ((laws_eqCheckS.f kj27 t616 t603).bind fun t633 => (if t633 = true then (laws_FnExactAddCheck.j1 kj27 l0 l1 t603 t606 t616 (t619 != t606) a2_0 a2_1 a2_2) else (laws_FnExactAddCheck.j1 kj27 l0 l1 t603 t606 t616 true a2_0 a2_1 a2_2)))))) else (some false)))) else (some false)))) = some r := by rw [if_neg (show ¬ (false = true) by decide)] at H; exact H
       clear H
       have H := H1
       clear H1
       replace H := Option.bind_eq_some_iff.mp H
       obtain ⟨t621, A570, H⟩ := H
       replace H : ((laws_eqGearS.f kj27 t607 t621).bind fun t624 => (if t624 = true then ((laws_toCheckS.f kj27 l1).bind fun t625 => ((laws_eqCheckS.f kj27 t610 t625).bind fun t628 => (if t628 = true then ((laws_markGearS.f kj27 t607 1).bind fun bt629 => ((laws_markCheckS.f kj27 t610 bt629.1).bind fun bt631 => (if bt631.1 < 0 then (laws_FnExactAddCheck.j1 kj27 l0 l1 t603 t606 t616 true a2_0 a2_1 a2_2) else ((laws_eqCheckS.f kj27 t616 t603).bind fun t633 => (if t633 = true then (laws_FnExactAddCheck.j1 kj27 l0 l1 t603 t606 t616 (t619 != t606) a2_0 a2_1 a2_2) else (laws_FnExactAddCheck.j1 kj27 l0 l1 t603 t606 t616 true a2_0 a2_1 a2_2)))))) else (some false)))) else (some false))) = some r := H
       have A57 := Aside0.mk A570
       clear A570
       replace H := Option.bind_eq_some_iff.mp H
       obtain ⟨t624, A580, H⟩ := H
       replace H : (if t624 = true then ((laws_toCheckS.f kj27 l1).bind fun t625 => ((laws_eqCheckS.f kj27 t610 t625).bind fun t628 => (if t628 = true then ((laws_markGearS.f kj27 t607 1).bind fun bt629 => ((laws_markCheckS.f kj27 t610 bt629.1).bind fun bt631 => (if bt631.1 < 0 then (laws_FnExactAddCheck.j1 kj27 l0 l1 t603 t606 t616 true a2_0 a2_1 a2_2) else ((laws_eqCheckS.f kj27 t616 t603).bind fun t633 => (if t633 = true then (laws_FnExactAddCheck.j1 kj27 l0 l1 t603 t606 t616 (t619 != t606) a2_0 a2_1 a2_2) else (laws_FnExactAddCheck.j1 kj27 l0 l1 t603 t606 t616 true a2_0 a2_1 a2_2)))))) else (some false)))) else (some false)) = some r := H
       have A58 := Aside0.mk A580
       clear A580
       by_cases c59 : t624 = true
       ·subst c59
        have H1 : ((laws_toCheckS.f kj27 l1).bind fun t625 => ((laws_eqCheckS.f kj27 t610 t625).bind fun t628 => (if t628 = true then ((laws_markGearS.f kj27 t607 1).bind fun bt629 => ((laws_markCheckS.f kj27 t610 bt629.1).bind fun bt631 => (if bt631.1 < 0 then (laws_FnExactAddCheck.j1 kj27 l0 l1 t603 t606 t616 true a2_0 a2_1 a2_2) else ((laws_eqCheckS.f kj27 t616 t603).bind fun t633 => (if t633 = true then (laws_FnExactAddCheck.j1 kj27 l0 l1 t603 t606 t616 (t619 != t606) a2_0 a2_1 a2_2) else (laws_FnExactAddCheck.j1 kj27 l0 l1 t603 t606 t616 true a2_0 a2_1 a2_2)))))) else (some false)))) = some r := by rw [if_pos rfl] at H; exact H
        clear H
        have H := H1
        clear H1
        replace H := Option.bind_eq_some_iff.mp H
        obtain ⟨t625, A600, H⟩ := H
        replace H : ((laws_eqCheckS.f kj27 t610 t625).bind fun t628 => (if t628 = true then ((laws_markGearS.f kj27 t607 1).bind fun bt629 => ((laws_markCheckS.f kj27 t610 bt629.1).bind fun bt631 => (if bt631.1 < 0 then (laws_FnExactAddCheck.j1 kj27 l0 l1 t603 t606 t616 true a2_0 a2_1 a2_2) else ((laws_eqCheckS.f kj27 t616 t603).bind fun t633 => (if t633 = true then (laws_FnExactAddCheck.j1 kj27 l0 l1 t603 t606 t616 (t619 != t606) a2_0 a2_1 a2_2) else (laws_FnExactAddCheck.j1 kj27 l0 l1 t603 t606 t616 true a2_0 a2_1 a2_2)))))) else (some false))) = some r := H
        have A60 := Aside0.mk A600
        clear A600
        replace H := Option.bind_eq_some_iff.mp H
        obtain ⟨t628, A610, H⟩ := H
        replace H : (if t628 = true then ((laws_markGearS.f kj27 t607 1).bind fun bt629 => ((laws_markCheckS.f kj27 t610 bt629.1).bind fun bt631 => (if bt631.1 < 0 then (laws_FnExactAddCheck.j1 kj27 l0 l1 t603 t606 t616 true a2_0 a2_1 a2_2) else ((laws_eqCheckS.f kj27 t616 t603).bind fun t633 => (if t633 = true then (laws_FnExactAddCheck.j1 kj27 l0 l1 t603 t606 t616 (t619 != t606) a2_0 a2_1 a2_2) else (laws_FnExactAddCheck.j1 kj27 l0 l1 t603 t606 t616 true a2_0 a2_1 a2_2)))))) else (some false)) = some r := H
        have A61 := Aside0.mk A610
        clear A610
        by_cases c62 : t628 = true
        ·subst c62
         have H1 : ((laws_markGearS.f kj27 t607 1).bind fun bt629 => ((laws_markCheckS.f kj27 t610 bt629.1).bind fun bt631 => (if bt631.1 < 0 then (laws_FnExactAddCheck.j1 kj27 l0 l1 t603 t606 t616 true a2_0 a2_1 a2_2) else ((laws_eqCheckS.f kj27 t616 t603).bind fun t633 => (if t633 = true then (laws_FnExactAddCheck.j1 kj27 l0 l1 t603 t606 t616 (t619 != t606) a2_0 a2_1 a2_2) else (laws_FnExactAddCheck.j1 kj27 l0 l1 t603 t606 t616 true a2_0 a2_1 a2_2)))))) = some r := by rw [if_pos rfl] at H; exact H
         clear H
         have H := H1
         clear H1
         replace H := Option.bind_eq_some_iff.mp H
         obtain ⟨⟨t629, t630⟩, A630, H⟩ := H
         replace H : ((laws_markCheckS.f kj27 t610 t629).bind fun bt631 => (if bt631.1 < 0 then (laws_FnExactAddCheck.j1 kj27 l0 l1 t603 t606 t616 true a2_0 a2_1 a2_2) else ((laws_eqCheckS.f kj27 t616 t603).bind fun t633 => (if t633 = true then (laws_FnExactAddCheck.j1 kj27 l0 l1 t603 t606 t616 (t619 != t606) a2_0 a2_1 a2_2) else (laws_FnExactAddCheck.j1 kj27 l0 l1 t603 t606 t616 true a2_0 a2_1 a2_2))))) = some r := H
         have A63 := Aside0.mk A630
         clear A630
         replace H := Option.bind_eq_some_iff.mp H
         obtain ⟨⟨t631, t632⟩, A640, H⟩ := H
         replace H : (if t631 < 0 then (laws_FnExactAddCheck.j1 kj27 l0 l1 t603 t606 t616 true a2_0 a2_1 a2_2) else ((laws_eqCheckS.f kj27 t616 t603).bind fun t633 => (if t633 = true then (laws_FnExactAddCheck.j1 kj27 l0 l1 t603 t606 t616 (t619 != t606) a2_0 a2_1 a2_2) else (laws_FnExactAddCheck.j1 kj27 l0 l1 t603 t606 t616 true a2_0 a2_1 a2_2)))) = some r := H
         have A64 := Aside0.mk A640
         clear A640
         have HC65 := Aside0.mk H
         clear H
         go_upto_region 24 with (first | ((with_reducible refine gate_callee (f := 22) rfl ?_); refine goesL_ (some 67) rfl rfl Try.func22 (by kernel_rfl) rfl #[.slice A0 l0.length c0] rfl ln_ ?_; (with_reducible refine (laws_toGearS.calls kj27 _ _ l0 t621 _ ?side1 ?side2 A57.out).mono ?_); (case side1 => exact kc_ (Kd.C_below HR0.out HB.out)); (case side2 => exact HC0.out); rintro e w66 ⟨v622, rfl, ho0, hb⟩; refine ⟨_, rfl, ?_⟩; have n0_ := Aside0.mk (Kd.R_below (kr_ HO_8) hb); have n1_ := Aside0.mk (Kd.R_elder' (kr_ HO_10) (Kd.R_base ho0) hb); have n2_ := Aside0.mk (Kd.R_below (kr_ HO_11) hb); have n3_ := Aside0.mk (Kd.R_below (kr_ HO_12) hb); have n4_ := Aside0.mk (Kd.R_lower (Kd.R_new' ho0 (Kd.R_lt (kr_ HO_10))) (below_size (hg_ GE590))); have n5_ := Aside0.mk (blk_below (g := gb590) (o := .cells #[.string a2_0, .int .i64 a2_1, .int .i64 a2_2] 49 (0, 0)) (bk_ BK590) hb); have n6_ := Aside0.mk (below_step (hg_ GE590) hb); clear HO_8; clear HO_10; clear HO_11; clear HO_12; clear BK590; clear HB; have HO_8 := n0_; have HO_10 := n1_; have HO_11 := n2_; have HO_12 := n3_; have HO623 := n4_; have BK590 := n5_; have HB := n6_; clear n0_ n1_ n2_ n3_ n4_ n5_ n6_; (try clear hb); (try clear hb2); (try clear hk); (try clear hi); (try clear ho0); obtain ⟨Ao67, co67, eo67⟩ := Kd.R_slice HO623.out; subst eo67) | ((with_reducible refine gate_callee (f := 24) rfl ?_); refine goesL_ (some 68) rfl rfl Try.func24 (by kernel_rfl) rfl #[.slice Ao45 t607.length co45, .slice Ao67 t621.length co67] rfl ln_ ?_; (with_reducible refine (laws_eqGearS.calls kj27 _ _ t607 _ _ t621 true _ ?side1 ?side2 ?side3 ?side4 A58.out).mono ?_); (case side1 => repeat (first | exact (Kd.R_reads' HO_10.out).2.2 | (with_reducible refine Kd.C_alloc ?_ _) | (with_reducible refine Kd.C_drewN ?_ _) | (with_reducible refine Kd.C_drew ?_))); (case side2 => exact (Kd.R_reads' HO_10.out).2.1); (case side3 => repeat (first | exact (Kd.R_reads' HO623.out).2.2 | (with_reducible refine Kd.C_alloc ?_ _) | (with_reducible refine Kd.C_drewN ?_ _) | (with_reducible refine Kd.C_drew ?_))); (case side4 => exact (Kd.R_reads' HO623.out).2.1); rintro e w68 ⟨rfl, hb⟩; refine ⟨_, rfl, ?_⟩; have n0_ := Aside0.mk (Kd.R_below (kr_ HO_8) hb); have n1_ := Aside0.mk (Kd.R_below (kr_ HO_10) hb); have n2_ := Aside0.mk (Kd.R_below (kr_ HO_11) hb); have n3_ := Aside0.mk (Kd.R_below (kr_ HO_12) hb); have n4_ := Aside0.mk (Kd.R_below (kr_ HO623) hb); have n5_ := Aside0.mk (blk_below (g := gb590) (o := .cells #[.string a2_0, .int .i64 a2_1, .int .i64 a2_2] 49 (0, 0)) (bk_ BK590) hb); have n6_ := Aside0.mk (below_step (hg_ GE590) hb); clear HO_8; clear HO_10; clear HO_11; clear HO_12; clear HO623; clear BK590; clear HB; have HO_8 := n0_; have HO_10 := n1_; have HO_11 := n2_; have HO_12 := n3_; have HO623 := n4_; have BK590 := n5_; have HB := n6_; clear n0_ n1_ n2_ n3_ n4_ n5_ n6_; (try clear hb); (try clear hb2); (try clear hk); (try clear hi)) | ((with_reducible refine gate_callee (f := 17) rfl ?_); refine goesL_ (some 72) rfl rfl Try.func17 (by kernel_rfl) rfl #[.slice A1 l1.length c1] rfl ln_ ?_; (with_reducible refine (laws_toCheckS.calls kj27 _ _ l1 t625 _ ?side1 ?side2 A60.out).mono ?_); (case side1 => exact kc_ (Kd.C_below HR1.out HB.out)); (case side2 => exact HC1.out); rintro e w69 ⟨v626, rfl, ho0, hb⟩; refine ⟨_, rfl, ?_⟩; have n0_ := Aside0.mk (Kd.R_elder' (kr_ HO_8) (Kd.R_base ho0) hb); have n1_ := Aside0.mk (Kd.R_below (kr_ HO_10) hb); have n2_ := Aside0.mk (Kd.R_elder' (kr_ HO_11) (Kd.R_base ho0) hb); have n3_ := Aside0.mk (Kd.R_elder' (kr_ HO_12) (Kd.R_base ho0) hb); have n4_ := Aside0.mk (Kd.R_below (kr_ HO623) hb); have n5_ := Aside0.mk (Kd.R_lower (Kd.R_new' (Kd.R_new' (Kd.R_new' ho0 (Kd.R_lt (kr_ HO_8))) (Kd.R_lt (kr_ HO_11))) (Kd.R_lt (kr_ HO_12))) (below_size (hg_ GE590))); have n6_ := Aside0.mk (blk_below (g := gb590) (o := .cells #[.string a2_0, .int .i64 a2_1, .int .i64 a2_2] 49 (0, 0)) (bk_ BK590) hb); have n7_ := Aside0.mk (below_step (hg_ GE590) hb); clear HO_8; clear HO_10; clear HO_11; clear HO_12; clear HO623; clear BK590; clear HB; have HO_8 := n0_; have HO_10 := n1_; have HO_11 := n2_; have HO_12 := n3_; have HO623 := n4_; have HO627 := n5_; have BK590 := n6_; have HB := n7_; clear n0_ n1_ n2_ n3_ n4_ n5_ n6_ n7_; (try clear hb); (try clear hb2); (try clear hk); (try clear hi); (try clear ho0); obtain ⟨Ao70, co70, eo70⟩ := Kd.R_slice HO627.out; subst eo70) | ((with_reducible refine gate_callee (f := 19) rfl ?_); refine goesL_ (some 73) rfl rfl Try.func19 (by kernel_rfl) rfl #[.slice Ao46 t610.length co46, .slice Ao70 t625.length co70] rfl ln_ ?_; (with_reducible refine (laws_eqCheckS.calls kj27 _ _ t610 _ _ t625 true _ ?side1 ?side2 ?side3 ?side4 A61.out).mono ?_); (case side1 => repeat (first | exact (Kd.R_reads' HO_11.out).2.2 | (with_reducible refine Kd.C_alloc ?_ _) | (with_reducible refine Kd.C_drewN ?_ _) | (with_reducible refine Kd.C_drew ?_))); (case side2 => exact (Kd.R_reads' HO_11.out).2.1); (case side3 => repeat (first | exact (Kd.R_reads' HO627.out).2.2 | (with_reducible refine Kd.C_alloc ?_ _) | (with_reducible refine Kd.C_drewN ?_ _) | (with_reducible refine Kd.C_drew ?_))); (case side4 => exact (Kd.R_reads' HO627.out).2.1); rintro e w71 ⟨rfl, hb⟩; refine ⟨_, rfl, ?_⟩; have n0_ := Aside0.mk (Kd.R_below (kr_ HO_8) hb); have n1_ := Aside0.mk (Kd.R_below (kr_ HO_10) hb); have n2_ := Aside0.mk (Kd.R_below (kr_ HO_11) hb); have n3_ := Aside0.mk (Kd.R_below (kr_ HO_12) hb); have n4_ := Aside0.mk (Kd.R_below (kr_ HO623) hb); have n5_ := Aside0.mk (Kd.R_below (kr_ HO627) hb); have n6_ := Aside0.mk (blk_below (g := gb590) (o := .cells #[.string a2_0, .int .i64 a2_1, .int .i64 a2_2] 49 (0, 0)) (bk_ BK590) hb); have n7_ := Aside0.mk (below_step (hg_ GE590) hb); clear HO_8; clear HO_10; clear HO_11; clear HO_12; clear HO623; clear HO627; clear BK590; clear HB; have HO_8 := n0_; have HO_10 := n1_; have HO_11 := n2_; have HO_12 := n3_; have HO623 := n4_; have HO627 := n5_; have BK590 := n6_; have HB := n7_; clear n0_ n1_ n2_ n3_ n4_ n5_ n6_ n7_; (try clear hb); (try clear hb2); (try clear hk); (try clear hi)) | ((with_reducible refine gate_callee (f := 29) rfl ?_); refine goesL_ (some 77) rfl rfl Try.func29 (by kernel_rfl) rfl #[.slice Ao45 t607.length co45, .int .i64 1] rfl ln_ ?_; (with_reducible refine (laws_markGearS.calls kj27 (fun k_ => some k_ = (.slice Ao45 t607.length co45 : Value).ownBlock) (.slice Ao45 t607.length co45) t607 1 t629 t630 w _ ?side1 ?side2 A63.out).mono ?_); (case side1 => repeat (first | (with_reducible first | exact HB.out | apply below_alloc | apply pw_below_drewN | apply below_drew1 | refine below_set ?_ GE590.out) | exact HB.out)); (case side2 => exact Kd.R_tight rfl HO_10.out); rintro e w72 ⟨rfl, hy0, hb, hkp⟩; refine ⟨_, rfl, ?_⟩; have n0_ := Aside0.mk (Kd.R_mono (ok' := fun k_ => some k_ ≠ (.slice Ao46 t610.length co46 : Value).ownBlock ∧ some k_ ≠ (v617 : Value).ownBlock ∧ some k_ ≠ (.slice Ao70 t625.length co70 : Value).ownBlock) (Kd.R_keptB ((Kd.R_apart' HO_8.out (Kd.R_typed HO_10.out) (by decide))) hkp (fun k_ hk_ hs_ => (hk_.2) hs_)) (fun k_ hk_ => ⟨hk_.1.1.1.1, hk_.1.1.1.2, hk_.1.1.2⟩)); have n1_ := Aside0.mk (Kd.R_reok rfl hy0 (fun k_ e_ => HO_10.out.1 k_ e_)); have n2_ := Aside0.mk (Kd.R_mono (ok' := fun k_ => some k_ ≠ (v604 : Value).ownBlock ∧ some k_ ≠ (v617 : Value).ownBlock ∧ some k_ ≠ (.slice Ao70 t625.length co70 : Value).ownBlock) (Kd.R_keptB ((Kd.R_apart' HO_11.out (Kd.R_typed HO_10.out) (by decide))) hkp (fun k_ hk_ hs_ => (hk_.2) hs_)) (fun k_ hk_ => ⟨hk_.1.1.1.1, hk_.1.1.1.2, hk_.1.1.2⟩)); have n3_ := Aside0.mk (Kd.R_mono (ok' := fun k_ => some k_ ≠ (v604 : Value).ownBlock ∧ some k_ ≠ (.slice Ao46 t610.length co46 : Value).ownBlock ∧ some k_ ≠ (.slice Ao70 t625.length co70 : Value).ownBlock) (Kd.R_keptB ((Kd.R_apart' HO_12.out (Kd.R_typed HO_10.out) (by decide))) hkp (fun k_ hk_ hs_ => (hk_.2) hs_)) (fun k_ hk_ => ⟨hk_.1.1.1.1, hk_.1.1.1.2, hk_.1.1.2⟩)); have n4_ := Aside0.mk (blk_kept (bk_ BK590) hkp (fun hs_ => (fun e_ => (Kd.R_ne HO_10.out BK590.out (by decide)) e_) hs_)); have n5_ := Aside0.mk (Kd.R_mono (ok' := fun k_ => some k_ ≠ (.slice Ao45 t607.length co45 : Value).ownBlock) (Kd.R_keptB (HO623.out) hkp (fun k_ hk_ hs_ => (hk_.2) hs_)) (fun k_ hk_ => hk_.1.2)); have n6_ := Aside0.mk (Kd.R_mono (ok' := fun k_ => some k_ ≠ (v604 : Value).ownBlock ∧ some k_ ≠ (.slice Ao46 t610.length co46 : Value).ownBlock ∧ some k_ ≠ (v617 : Value).ownBlock) (Kd.R_keptB ((Kd.R_apart' HO627.out (Kd.R_typed HO_10.out) (by decide))) hkp (fun k_ hk_ hs_ => (hk_.2) hs_)) (fun k_ hk_ => ⟨hk_.1.1.1.1.2, hk_.1.1.1.2, hk_.1.1.2⟩)); have n7_ := Aside0.mk (hb); clear HO_8; clear HO_10; clear HO_11; clear HO_12; clear BK590; clear HO623; clear HO627; clear HB; have HO_8 := n0_; have HO_10 := n1_; have HO_11 := n2_; have HO_12 := n3_; have BK590 := n4_; have HO623 := n5_; have HO627 := n6_; have HB := n7_; clear n0_ n1_ n2_ n3_ n4_ n5_ n6_ n7_; (try clear hb); (try clear hkp); (try clear hy0)) | ((with_reducible refine gate_callee (f := 41) rfl ?_); refine goesL_ (some 80) rfl rfl Try.func41 (by kernel_rfl) rfl #[.slice Ao46 t610.length co46, .int .i64 t629] rfl ln_ ?_; (with_reducible refine (laws_markCheckS.calls kj27 (fun k_ => some k_ = (.slice Ao46 t610.length co46 : Value).ownBlock) (.slice Ao46 t610.length co46) t610 t629 t631 t632 w _ ?side1 ?side2 A64.out).mono ?_); (case side1 => repeat (first | (with_reducible first | exact HB.out | apply below_alloc | apply pw_below_drewN | apply below_drew1 | refine below_set ?_ GE590.out) | exact HB.out)); (case side2 => exact Kd.R_tight rfl HO_11.out); rintro e w73 ⟨rfl, hy0, hb, hkp⟩; refine ⟨_, rfl, ?_⟩; have n0_ := Aside0.mk (Kd.R_mono (ok' := fun k_ => some k_ ≠ (.slice Ao46 t610.length co46 : Value).ownBlock ∧ some k_ ≠ (v617 : Value).ownBlock ∧ some k_ ≠ (.slice Ao70 t625.length co70 : Value).ownBlock) (Kd.R_keptB (HO_8.out) hkp (fun k_ hk_ hs_ => (hk_.1) hs_)) (fun k_ hk_ => ⟨hk_.1.1, hk_.1.2.1, hk_.1.2.2⟩)); have n1_ := Aside0.mk (Kd.R_mono (ok' := fun k_ => some k_ ≠ (.slice Ao67 t621.length co67 : Value).ownBlock) (Kd.R_keptB ((Kd.R_apart' HO_10.out (Kd.R_typed HO_11.out) (by decide))) hkp (fun k_ hk_ hs_ => (hk_.2) hs_)) (fun k_ hk_ => hk_.1.1.2)); have n2_ := Aside0.mk (Kd.R_reok rfl hy0 (fun k_ e_ => HO_11.out.1 k_ e_)); have n3_ := Aside0.mk (Kd.R_mono (ok' := fun k_ => some k_ ≠ (v604 : Value).ownBlock ∧ some k_ ≠ (.slice Ao46 t610.length co46 : Value).ownBlock ∧ some k_ ≠ (.slice Ao70 t625.length co70 : Value).ownBlock) (Kd.R_keptB (HO_12.out) hkp (fun k_ hk_ hs_ => (hk_.2.1) hs_)) (fun k_ hk_ => ⟨hk_.1.1, hk_.1.2.1, hk_.1.2.2⟩)); have n4_ := Aside0.mk (blk_kept (bk_ BK590) hkp (fun hs_ => (fun e_ => (Kd.R_ne HO_11.out BK590.out (by decide)) e_) hs_)); have n5_ := Aside0.mk (Kd.R_mono (ok' := fun k_ => some k_ ≠ (.slice Ao45 t607.length co45 : Value).ownBlock) (Kd.R_keptB ((Kd.R_apart' HO623.out (Kd.R_typed HO_11.out) (by decide))) hkp (fun k_ hk_ hs_ => (hk_.2) hs_)) (fun k_ hk_ => hk_.1.1)); have n6_ := Aside0.mk (Kd.R_mono (ok' := fun k_ => some k_ ≠ (v604 : Value).ownBlock ∧ some k_ ≠ (.slice Ao46 t610.length co46 : Value).ownBlock ∧ some k_ ≠ (v617 : Value).ownBlock) (Kd.R_keptB (HO627.out) hkp (fun k_ hk_ hs_ => (hk_.2.1) hs_)) (fun k_ hk_ => ⟨hk_.1.1, hk_.1.2.1, hk_.1.2.2⟩)); have n7_ := Aside0.mk (hb); clear HO_8; clear HO_10; clear HO_11; clear HO_12; clear BK590; clear HO623; clear HO627; clear HB; have HO_8 := n0_; have HO_10 := n1_; have HO_11 := n2_; have HO_12 := n3_; have BK590 := n4_; have HO623 := n5_; have HO627 := n6_; have HB := n7_; clear n0_ n1_ n2_ n3_ n4_ n5_ n6_ n7_; (try clear hb); (try clear hkp); (try clear hy0)))
         (try simp only [Act.put, List.setIfInBounds_toArray, List.set_cons_zero, List.set_cons_succ])
         go_cut [93] (fun v93 wc => ∃ (kq : Nat) (x93_64 : Bool), v93 = .bool x93_64 ∧ Aside0 (laws_FnExactAddCheck.j1 kq l0 l1 t603 t606 t616 x93_64 a2_0 a2_1 a2_2 = some r) ∧ Aside0 (kq ≤ kj27) ∧ Aside0 (Kd.R k53 53 wc w.heap.size (fun k_ => some k_ ≠ (v617 : Value).ownBlock) v604 t603) ∧ Aside0 (Kd.R k53 53 wc w.heap.size (fun k_ => some k_ ≠ (v604 : Value).ownBlock) v617 t616) ∧ Aside0 (wc.heap[gb590]? = some (.cells #[.string a2_0, .int .i64 a2_1, .int .i64 a2_2] 49 (0, 0))) ∧ Aside0 (Below w.heap.size w wc))
         case first =>
          have H := HC65.out
          clear HC65
          by_cases c74 : t631 < 0
          ·rw [if_pos c74] at H
           have c74b0 : decide (t631 < 0) = true := decide_eq_true c74
           clear c74
           (first | rw [c74b0] | (simp only [i64_w, i32_w]; rw [c74b0]) | skip)
           have H' := Aside0.mk H
           clear H
           go_wp2
           go_meet
           case rel => exact ⟨_, (true), (by first | rfl | (simp; done) | (simp [*]; done)), H', ⟨by have := HJ27.out; first | omega | exact Nat.le_refl _⟩, ⟨by (with_reducible repeat (first | apply Kd.R_alloc | apply Kd.R_drewN | apply Kd.R_drew)); exact Kd.R_mono HO_8.out (fun _ hk => hk.2.1)⟩, ⟨by (with_reducible repeat (first | apply Kd.R_alloc | apply Kd.R_drewN | apply Kd.R_drew)); exact Kd.R_mono HO_12.out (fun _ hk => hk.1)⟩, ⟨by (with_reducible repeat (first | refine blk_drewN ?_ _ | refine blk_drew ?_ | refine blk_alloc ?_ _)); exact BK590.out⟩, ⟨(hg_ GE590)⟩⟩
          ·rw [if_neg c74] at H
           have c74b0 : decide (t631 < 0) = false := decide_eq_false c74
           clear c74
           (first | rw [c74b0] | (simp only [i64_w, i32_w]; rw [c74b0]) | skip)
           replace H := Option.bind_eq_some_iff.mp H
           obtain ⟨t633, A750, H⟩ := H
           replace H : (if t633 = true then (laws_FnExactAddCheck.j1 kj27 l0 l1 t603 t606 t616 (t619 != t606) a2_0 a2_1 a2_2) else (laws_FnExactAddCheck.j1 kj27 l0 l1 t603 t606 t616 true a2_0 a2_1 a2_2)) = some r := H
           have A75 := Aside0.mk A750
           clear A750
           by_cases c76 : t633 = true
           ·subst c76
            have H1 : (laws_FnExactAddCheck.j1 kj27 l0 l1 t603 t606 t616 (t619 != t606) a2_0 a2_1 a2_2) = some r := by rw [if_pos rfl] at H; exact H
            clear H
            have H := H1
            clear H1
            have H' := Aside0.mk H
            clear H
            obtain ⟨Ao77, co77, eo77⟩ := Kd.R_slice HO_12.out
            subst eo77
            obtain ⟨Ao78, co78, eo78⟩ := Kd.R_slice HO_8.out
            subst eo78
            go_wp2_with (first | (go_at_call 19; (with_reducible refine (laws_eqCheckS.calls kj27 _ _ t616 _ _ t603 true _ ?side1 ?side2 ?side3 ?side4 A75.out).mono ?_); (case side1 => repeat (first | exact (Kd.R_reads' HO_12.out).2.2 | (with_reducible refine Kd.C_alloc ?_ _) | (with_reducible refine Kd.C_drewN ?_ _) | (with_reducible refine Kd.C_drew ?_))); (case side2 => exact (Kd.R_reads' HO_12.out).2.1); (case side3 => repeat (first | exact (Kd.R_reads' HO_8.out).2.2 | (with_reducible refine Kd.C_alloc ?_ _) | (with_reducible refine Kd.C_drewN ?_ _) | (with_reducible refine Kd.C_drew ?_))); (case side4 => exact (Kd.R_reads' HO_8.out).2.1); rintro e w79 ⟨rfl, hb⟩; have n0_ := Aside0.mk (Kd.R_below (kr_ HO_8) hb); have n1_ := Aside0.mk (Kd.R_below (kr_ HO_10) hb); have n2_ := Aside0.mk (Kd.R_below (kr_ HO_11) hb); have n3_ := Aside0.mk (Kd.R_below (kr_ HO_12) hb); have n4_ := Aside0.mk (Kd.R_below (kr_ HO623) hb); have n5_ := Aside0.mk (Kd.R_below (kr_ HO627) hb); have n6_ := Aside0.mk (blk_below (g := gb590) (o := .cells #[.string a2_0, .int .i64 a2_1, .int .i64 a2_2] 49 (0, 0)) (bk_ BK590) hb); have n7_ := Aside0.mk (below_step (hg_ GE590) hb); clear HO_8; clear HO_10; clear HO_11; clear HO_12; clear HO623; clear HO627; clear BK590; clear HB; have HO_8 := n0_; have HO_10 := n1_; have HO_11 := n2_; have HO_12 := n3_; have HO623 := n4_; have HO627 := n5_; have BK590 := n6_; have HB := n7_; clear n0_ n1_ n2_ n3_ n4_ n5_ n6_ n7_; (try clear hb); (try clear hb2); (try clear hk); (try clear hi)))
            go_meet
            case rel => exact ⟨_, ((t619 != t606)), (by first | rfl | (simp; done) | (simp [*]; done)), H', ⟨by have := HJ27.out; first | omega | exact Nat.le_refl _⟩, ⟨by (with_reducible repeat (first | apply Kd.R_alloc | apply Kd.R_drewN | apply Kd.R_drew)); exact Kd.R_mono HO_8.out (fun _ hk => hk.2.1)⟩, ⟨by (with_reducible repeat (first | apply Kd.R_alloc | apply Kd.R_drewN | apply Kd.R_drew)); exact Kd.R_mono HO_12.out (fun _ hk => hk.1)⟩, ⟨by (with_reducible repeat (first | refine blk_drewN ?_ _ | refine blk_drew ?_ | refine blk_alloc ?_ _)); exact BK590.out⟩, ⟨(hg_ GE590)⟩⟩
           ·replace c76 := Bool.eq_false_iff.mpr c76
            subst c76
            have H1 : (laws_FnExactAddCheck.j1 kj27 l0 l1 t603 t606 t616 true a2_0 a2_1 a2_2) = some r := by rw [if_neg (show ¬ (false = true) by decide)] at H; exact H
            clear H
            have H := H1
            clear H1
            have H' := Aside0.mk H
            clear H
            obtain ⟨Ao80, co80, eo80⟩ := Kd.R_slice HO_12.out
            subst eo80
            obtain ⟨Ao81, co81, eo81⟩ := Kd.R_slice HO_8.out
            subst eo81
            go_wp2_with (first | (go_at_call 19; (with_reducible refine (laws_eqCheckS.calls kj27 _ _ t616 _ _ t603 false _ ?side1 ?side2 ?side3 ?side4 A75.out).mono ?_); (case side1 => repeat (first | exact (Kd.R_reads' HO_12.out).2.2 | (with_reducible refine Kd.C_alloc ?_ _) | (with_reducible refine Kd.C_drewN ?_ _) | (with_reducible refine Kd.C_drew ?_))); (case side2 => exact (Kd.R_reads' HO_12.out).2.1); (case side3 => repeat (first | exact (Kd.R_reads' HO_8.out).2.2 | (with_reducible refine Kd.C_alloc ?_ _) | (with_reducible refine Kd.C_drewN ?_ _) | (with_reducible refine Kd.C_drew ?_))); (case side4 => exact (Kd.R_reads' HO_8.out).2.1); rintro e w82 ⟨rfl, hb⟩; have n0_ := Aside0.mk (Kd.R_below (kr_ HO_8) hb); have n1_ := Aside0.mk (Kd.R_below (kr_ HO_10) hb); have n2_ := Aside0.mk (Kd.R_below (kr_ HO_11) hb); have n3_ := Aside0.mk (Kd.R_below (kr_ HO_12) hb); have n4_ := Aside0.mk (Kd.R_below (kr_ HO623) hb); have n5_ := Aside0.mk (Kd.R_below (kr_ HO627) hb); have n6_ := Aside0.mk (blk_below (g := gb590) (o := .cells #[.string a2_0, .int .i64 a2_1, .int .i64 a2_2] 49 (0, 0)) (bk_ BK590) hb); have n7_ := Aside0.mk (below_step (hg_ GE590) hb); clear HO_8; clear HO_10; clear HO_11; clear HO_12; clear HO623; clear HO627; clear BK590; clear HB; have HO_8 := n0_; have HO_10 := n1_; have HO_11 := n2_; have HO_12 := n3_; have HO623 := n4_; have HO627 := n5_; have BK590 := n6_; have HB := n7_; clear n0_ n1_ n2_ n3_ n4_ n5_ n6_ n7_; (try clear hb); (try clear hb2); (try clear hk); (try clear hi)))
            go_meet
            case rel => exact ⟨_, (true), (by first | rfl | (simp; done) | (simp [*]; done)), H', ⟨by have := HJ27.out; first | omega | exact Nat.le_refl _⟩, ⟨by (with_reducible repeat (first | apply Kd.R_alloc | apply Kd.R_drewN | apply Kd.R_drew)); exact Kd.R_mono HO_8.out (fun _ hk => hk.2.1)⟩, ⟨by (with_reducible repeat (first | apply Kd.R_alloc | apply Kd.R_drewN | apply Kd.R_drew)); exact Kd.R_mono HO_12.out (fun _ hk => hk.1)⟩, ⟨by (with_reducible repeat (first | refine blk_drewN ?_ _ | refine blk_drew ?_ | refine blk_alloc ?_ _)); exact BK590.out⟩, ⟨(hg_ GE590)⟩⟩
         case rest =>
          clear HC65
          try clear c1
          try clear c2
          try clear p2
          try clear c3
          try clear c4
          try clear c5
          try clear c5b0
          try clear c6
          try clear c7
          try clear c9
          try clear c9b0
          try clear c10
          try clear c14
          try clear c14b0
          try clear c15
          try clear c17
          try clear c19
          try clear c20
          try clear c22
          try clear c24
          try clear c29
          try clear c37
          try clear c38
          try clear c39
          try clear c40
          try clear c41
          try clear c49
          try clear c56
          try clear c59
          try clear c62
          try clear c74
          try clear c74b0
          try clear c76
          try clear hcz18_0
          try clear hcz18_1
          try clear hcz18_2
          try clear hcz32_0
          try clear hcz32_1
          try clear hcz32_2
          try clear hcz43_0
          try clear hcz43_1
          try clear hcz43_2
          try clear hfz18_0
          try clear hfz18_1
          try clear hfz18_2
          try clear hfz32_0
          try clear hfz32_1
          try clear hfz32_2
          try clear hfz43_0
          try clear hfz43_1
          try clear hfz43_2
          try clear p2
          obtain ⟨kq, x93_64, rfl, HA, HJ64, HO_8, HO_12, BK590, HB⟩ := hcut
          cases kq with
          | zero => exact absurd HA.out (by simp [laws_FnExactAddCheck.j1])
          | succ kj64 =>
           have H := HA.out
           clear HA
           simp only [laws_FnExactAddCheck.j1] at H
           by_cases c83 : x93_64 = true
           ·subst c83
            have H1 : (some false) = some r := by rw [if_pos rfl] at H; exact H
            clear H
            have H := H1
            clear H1
            obtain rfl := Option.some.inj H
            go_wp2
            go_ret
            exact ⟨ew_, (hg_ GE590)⟩
           ·replace c83 := Bool.eq_false_iff.mpr c83
            subst c83
            have H1 : ((laws_markCheckS.f kj64 t616 1).bind fun bt634 => ((laws_heldCheckS.f kj64 bt634.2 1).bind fun t636 => (if t636 < 0 then (some false) else (if t636 = bt634.1 then ((laws_toGearS.f kj64 l0).bind fun t637 => ((laws_toCheckS.f kj64 l1).bind fun t640 => ((laws_toCheck.f a2_0 a2_1 a2_2).bind fun bt643 => ((impl_AddCheck.f kj64 t637 t640 bt643.1 bt643.2.1 bt643.2.2).bind fun bt646 => ((laws_eqCheckS.f kj64 bt646.1 t603).bind fun t650 => (if t650 = true then (laws_FnExactAddCheck.j2 kj64 bt634.2 bt634.1 (bt646.2 != t606)) else (laws_FnExactAddCheck.j2 kj64 bt634.2 bt634.1 true))))))) else (some false))))) = some r := by rw [if_neg (show ¬ (false = true) by decide)] at H; exact H
            clear H
            have H := H1
            clear H1
            replace H := Option.bind_eq_some_iff.mp H
            obtain ⟨⟨t634, t635⟩, A840, H⟩ := H
            replace H : ((laws_heldCheckS.f kj64 t635 1).bind fun t636 => (if t636 < 0 then (some false) else (if t636 = t634 then ((laws_toGearS.f kj64 l0).bind fun t637 => ((laws_toCheckS.f kj64 l1).bind fun t640 => ((laws_toCheck.f a2_0 a2_1 a2_2).bind fun bt643 => ((impl_AddCheck.f kj64 t637 t640 bt643.1 bt643.2.1 bt643.2.2).bind fun bt646 => ((laws_eqCheckS.f kj64 bt646.1 t603).bind fun t650 => (if t650 = true then (laws_FnExactAddCheck.j2 kj64 t635 t634 (bt646.2 != t606)) else (laws_FnExactAddCheck.j2 kj64 t635 t634 true))))))) else (some false)))) = some r := H
            have A84 := Aside0.mk A840
            clear A840
            replace H := Option.bind_eq_some_iff.mp H
            obtain ⟨t636, A850, H⟩ := H
            replace H : (if t636 < 0 then (some false) else (if t636 = t634 then ((laws_toGearS.f kj64 l0).bind fun t637 => ((laws_toCheckS.f kj64 l1).bind fun t640 => ((laws_toCheck.f a2_0 a2_1 a2_2).bind fun bt643 => ((impl_AddCheck.f kj64 t637 t640 bt643.1 bt643.2.1 bt643.2.2).bind fun bt646 => ((laws_eqCheckS.f kj64 bt646.1 t603).bind fun t650 => (if t650 = true then (laws_FnExactAddCheck.j2 kj64 t635 t634 (bt646.2 != t606)) else (laws_FnExactAddCheck.j2 kj64 t635 t634 true))))))) else (some false))) = some r := H
            have A85 := Aside0.mk A850
            clear A850
            by_cases c86 : t636 < 0
            ·rw [if_pos c86] at H
             have c86b0 : decide (t636 < 0) = true := decide_eq_true c86
             clear c86
             obtain rfl := Option.some.inj H
             obtain ⟨Ao87, co87, eo87⟩ := Kd.R_slice HO_12.out
             subst eo87
             go_wp2_with (first | ((with_reducible refine gate_callee (f := 41) rfl ?_); refine goesL_ (some 96) rfl rfl Try.func41 (by kernel_rfl) rfl #[.slice Ao87 t616.length co87, .int .i64 1] rfl ln_ ?_; (with_reducible refine (laws_markCheckS.calls kj64 (fun k_ => some k_ = (.slice Ao87 t616.length co87 : Value).ownBlock) (.slice Ao87 t616.length co87) t616 1 t634 t635 w _ ?side1 ?side2 A84.out).mono ?_); (case side1 => repeat (first | (with_reducible first | exact HB.out | apply below_alloc | apply pw_below_drewN | apply below_drew1 | refine below_set ?_ GE590.out) | exact HB.out)); (case side2 => exact Kd.R_tight rfl HO_12.out); rintro e w88 ⟨rfl, hy0, hb, hkp⟩; refine ⟨_, rfl, ?_⟩; have n0_ := Aside0.mk (Kd.R_mono (ok' := fun k_ => some k_ ≠ (.slice Ao87 t616.length co87 : Value).ownBlock) (Kd.R_keptB (HO_8.out) hkp (fun k_ hk_ hs_ => (hk_) hs_)) (fun k_ hk_ => hk_.1)); have n1_ := Aside0.mk (Kd.R_reok rfl hy0 (fun k_ e_ => HO_12.out.1 k_ e_)); have n2_ := Aside0.mk (blk_kept (bk_ BK590) hkp (fun hs_ => (fun e_ => (Kd.R_ne HO_12.out BK590.out (by decide)) e_) hs_)); have n3_ := Aside0.mk (hb); clear HO_8; clear HO_12; clear BK590; clear HB; have HO_8 := n0_; have HO_12 := n1_; have BK590 := n2_; have HB := n3_; clear n0_ n1_ n2_ n3_; (try clear hb); (try clear hkp); (try clear hy0)) | ((with_reducible refine gate_callee (f := 42) rfl ?_); refine goesL_ (some 99) rfl rfl Try.func42 (by kernel_rfl) rfl #[.slice Ao87 t635.length co87, .int .i64 1] rfl (by (try simp only [List.map_toArray, List.map_cons, List.map_nil]); first | done | (rw [show t635.length = t616.length from (Kd.R_reads' HO_12.out).1.symm] <;> rfl) | rfl | (simp only [List.length_drop, List.length_take]; rfl)) ?_; (with_reducible refine (laws_heldCheckS.calls kj64 _ _ t635 1 t636 _ ?side1 ?side2 A85.out).mono ?_); (case side1 => repeat (first | exact (Kd.R_reads' HO_12.out).2.2 | (with_reducible refine Kd.C_alloc ?_ _) | (with_reducible refine Kd.C_drewN ?_ _) | (with_reducible refine Kd.C_drew ?_))); (case side2 => rw [show t635.length = t616.length from (Kd.R_reads' HO_12.out).1.symm]; exact (Kd.R_reads' HO_12.out).2.1); rintro e w89 ⟨rfl, hb⟩; refine ⟨_, rfl, ?_⟩; have n0_ := Aside0.mk (Kd.R_below (kr_ HO_8) hb); have n1_ := Aside0.mk (Kd.R_below (kr_ HO_12) hb); have n2_ := Aside0.mk (blk_below (g := gb590) (o := .cells #[.string a2_0, .int .i64 a2_1, .int .i64 a2_2] 49 (0, 0)) (bk_ BK590) hb); have n3_ := Aside0.mk (below_step (hg_ GE590) hb); clear HO_8; clear HO_12; clear BK590; clear HB; have HO_8 := n0_; have HO_12 := n1_; have BK590 := n2_; have HB := n3_; clear n0_ n1_ n2_ n3_; (try clear hb); (try clear hb2); (try clear hk); (try clear hi)))
             go_ret
             exact ⟨ew_, (hg_ GE590)⟩
            ·rw [if_neg c86] at H
             have c86b0 : decide (t636 < 0) = false := decide_eq_false c86
             clear c86
             by_cases c90 : t636 = t634
             ·rw [if_pos c90] at H
              have c90b0 : (t636 == t634) = true := beq_iff_eq.mpr c90
              have c90b1 : (t636 != t634) = false := bne_eq_false_iff_eq.mpr c90
              clear c90
              replace H := Option.bind_eq_some_iff.mp H
              obtain ⟨t637, A910, H⟩ := H
              replace H : ((laws_toCheckS.f kj64 l1).bind fun t640 => ((laws_toCheck.f a2_0 a2_1 a2_2).bind fun bt643 => ((impl_AddCheck.f kj64 t637 t640 bt643.1 bt643.2.1 bt643.2.2).bind fun bt646 => ((laws_eqCheckS.f kj64 bt646.1 t603).bind fun t650 => (if t650 = true then (laws_FnExactAddCheck.j2 kj64 t635 t634 (bt646.2 != t606)) else (laws_FnExactAddCheck.j2 kj64 t635 t634 true)))))) = some r := H
              have A91 := Aside0.mk A910
              clear A910
              replace H := Option.bind_eq_some_iff.mp H
              obtain ⟨t640, A920, H⟩ := H
              replace H : ((laws_toCheck.f a2_0 a2_1 a2_2).bind fun bt643 => ((impl_AddCheck.f kj64 t637 t640 bt643.1 bt643.2.1 bt643.2.2).bind fun bt646 => ((laws_eqCheckS.f kj64 bt646.1 t603).bind fun t650 => (if t650 = true then (laws_FnExactAddCheck.j2 kj64 t635 t634 (bt646.2 != t606)) else (laws_FnExactAddCheck.j2 kj64 t635 t634 true))))) = some r := H
              have A92 := Aside0.mk A920
              clear A920
              replace H := Option.bind_eq_some_iff.mp H
              obtain ⟨⟨t643, t644, t645⟩, A930, H⟩ := H
              replace H : ((impl_AddCheck.f kj64 t637 t640 t643 t644 t645).bind fun bt646 => ((laws_eqCheckS.f kj64 bt646.1 t603).bind fun t650 => (if t650 = true then (laws_FnExactAddCheck.j2 kj64 t635 t634 (bt646.2 != t606)) else (laws_FnExactAddCheck.j2 kj64 t635 t634 true)))) = some r := H
              have A93 := Aside0.mk A930
              clear A930
              replace H := Option.bind_eq_some_iff.mp H
              obtain ⟨⟨t646, t649⟩, A940, H⟩ := H
              replace H : ((laws_eqCheckS.f kj64 t646 t603).bind fun t650 => (if t650 = true then (laws_FnExactAddCheck.j2 kj64 t635 t634 (t649 != t606)) else (laws_FnExactAddCheck.j2 kj64 t635 t634 true))) = some r := H
              have A94 := Aside0.mk A940
              clear A940
              have HC95 := Aside0.mk H
              clear H
              obtain ⟨Ao96, co96, eo96⟩ := Kd.R_slice HO_12.out
              subst eo96
              try go_wp2_with (first | ((with_reducible refine gate_callee (f := 41) rfl ?_); refine goesL_ (some 96) rfl rfl Try.func41 (by kernel_rfl) rfl #[.slice Ao96 t616.length co96, .int .i64 1] rfl ln_ ?_; (with_reducible refine (laws_markCheckS.calls kj64 (fun k_ => some k_ = (.slice Ao96 t616.length co96 : Value).ownBlock) (.slice Ao96 t616.length co96) t616 1 t634 t635 w _ ?side1 ?side2 A84.out).mono ?_); (case side1 => repeat (first | (with_reducible first | exact HB.out | apply below_alloc | apply pw_below_drewN | apply below_drew1 | refine below_set ?_ GE590.out) | exact HB.out)); (case side2 => exact Kd.R_tight rfl HO_12.out); rintro e w97 ⟨rfl, hy0, hb, hkp⟩; refine ⟨_, rfl, ?_⟩; have n0_ := Aside0.mk (Kd.R_mono (ok' := fun k_ => some k_ ≠ (.slice Ao96 t616.length co96 : Value).ownBlock) (Kd.R_keptB (HO_8.out) hkp (fun k_ hk_ hs_ => (hk_) hs_)) (fun k_ hk_ => hk_.1)); have n1_ := Aside0.mk (Kd.R_reok rfl hy0 (fun k_ e_ => HO_12.out.1 k_ e_)); have n2_ := Aside0.mk (blk_kept (bk_ BK590) hkp (fun hs_ => (fun e_ => (Kd.R_ne HO_12.out BK590.out (by decide)) e_) hs_)); have n3_ := Aside0.mk (hb); clear HO_8; clear HO_12; clear BK590; clear HB; have HO_8 := n0_; have HO_12 := n1_; have BK590 := n2_; have HB := n3_; clear n0_ n1_ n2_ n3_; (try clear hb); (try clear hkp); (try clear hy0)) | ((with_reducible refine gate_callee (f := 42) rfl ?_); refine goesL_ (some 99) rfl rfl Try.func42 (by kernel_rfl) rfl #[.slice Ao96 t635.length co96, .int .i64 1] rfl (by (try simp only [List.map_toArray, List.map_cons, List.map_nil]); first | done | (rw [show t635.length = t616.length from (Kd.R_reads' HO_12.out).1.symm] <;> rfl) | rfl | (simp only [List.length_drop, List.length_take]; rfl)) ?_; (with_reducible refine (laws_heldCheckS.calls kj64 _ _ t635 1 t636 _ ?side1 ?side2 A85.out).mono ?_); (case side1 => repeat (first | exact (Kd.R_reads' HO_12.out).2.2 | (with_reducible refine Kd.C_alloc ?_ _) | (with_reducible refine Kd.C_drewN ?_ _) | (with_reducible refine Kd.C_drew ?_))); (case side2 => rw [show t635.length = t616.length from (Kd.R_reads' HO_12.out).1.symm]; exact (Kd.R_reads' HO_12.out).2.1); rintro e w98 ⟨rfl, hb⟩; refine ⟨_, rfl, ?_⟩; have n0_ := Aside0.mk (Kd.R_below (kr_ HO_8) hb); have n1_ := Aside0.mk (Kd.R_below (kr_ HO_12) hb); have n2_ := Aside0.mk (blk_below (g := gb590) (o := .cells #[.string a2_0, .int .i64 a2_1, .int .i64 a2_2] 49 (0, 0)) (bk_ BK590) hb); have n3_ := Aside0.mk (below_step (hg_ GE590) hb); clear HO_8; clear HO_12; clear BK590; clear HB; have HO_8 := n0_; have HO_12 := n1_; have BK590 := n2_; have HB := n3_; clear n0_ n1_ n2_ n3_; (try clear hb); (try clear hb2); (try clear hk); (try clear hi)))
              have n0_ := Aside0.mk (Kd.R_drew HO_8.out)
              have n1_ := Aside0.mk (Kd.R_drew HO_12.out)
              have n2_ := Aside0.mk (blk_drew BK590.out)
              have n3_ := Aside0.mk (below_drew1 HB.out)
              clear HO_8
              clear HO_12
              clear BK590
              clear HB
              have HO_8 := n0_
              have HO_12 := n1_
              have BK590 := n2_
              have HB := n3_
              clear n0_ n1_ n2_ n3_
              refine start_ (n := 12) (S := fun w' => w'.cell? ⟨gb590, 0, none⟩ = some (.string a2_0) ∧ w'.cell? ⟨gb590, 1, none⟩ = some (.int .i64 a2_1) ∧ w'.cell? ⟨gb590, 2, none⟩ = some (.int .i64 a2_2)) (ds := []) #[F_,F_,F_,F_,F_,F_,F_,F_,F_,F_,F_,F_] (by kernel_rfl) rfl rfl ⟨(blk_cell BK590.out 0).trans rfl, (blk_cell BK590.out 1).trans rfl, (blk_cell BK590.out 2).trans rfl⟩ (fun hHeld => ?_); refine with_tabW laws_FnExactAddCheck.tab34 laws_FnExactAddCheck.bits34 (fun HT_ HW_ => ?_)
              generalize w98.drew = w99 at HO_8 HO_12 BK590 HB hHeld ⊢
              refine pu (i := 0) (N := some 106) #[T_,F_,F_,F_,F_,F_,F_,F_,F_,F_,F_,F_] HT_ ?_
              refine pu (i := 2) (N := some 108) #[T_,F_,T_,F_,F_,F_,F_,F_,F_,F_,F_,F_] HT_ ?_
              refine take_ (i := 4) (N := some 110) (v := ?_) (a' := ?_) #[T_,F_,T_,F_,T_,F_,F_,F_,F_,F_,F_,F_] rfl rfl (take_ofW HT_.out HW_.out (by kernel_rfl)) (fun _ _ _ h => h) (Or.inl ⟨by rfl, ?_⟩) hHeld ?_ ?_
              rotate_left
              ·rintro w' ⟨s0, s1, s2⟩
               go_simp
               with_reducible rfl
              rotate_left
              ·simp only [Act.put, sT_, s0_, sS_, i64_w, i32_w]
               rfl
              refine one_ (i := 1) (N := some 107) #[T_,T_,T_,F_,T_,F_,F_,F_,F_,F_,F_,F_] rfl rfl (one_of HT_.out (by kernel_rfl)) (by decide) (fun K hK => ?_)
              refine goes_ Try.func22 (by kernel_rfl) rfl #[.slice A0 l0.length c0] (by rfl) rfl rfl ln_ ?_
              with_reducible refine (laws_toGearS.calls kj64 _ _ l0 t637 _ ?side1 ?side2 A91.out).mono ?_
              (case side1 => exact kc_ (Kd.C_below HR0.out HB.out))
              (case side2 => exact HC0.out)
              rintro e w100 ⟨v638, rfl, ho0, hb⟩
              refine ⟨_, rfl, ?_⟩
              have n0_ := Aside0.mk (Kd.R_below (kr_ HO_8) hb)
              have n1_ := Aside0.mk (Kd.R_below (kr_ HO_12) hb)
              have n2_ := Aside0.mk (Kd.R_lower ho0 (below_size (hg_ GE590)))
              have n3_ := Aside0.mk (blk_below (g := gb590) (o := .cells #[.string a2_0, .int .i64 a2_1, .int .i64 a2_2] 49 (0, 0)) (bk_ BK590) hb)
              have n4_ := Aside0.mk (below_step (hg_ GE590) hb)
              clear HO_8
              clear HO_12
              clear BK590
              clear HB
              have HO_8 := n0_
              have HO_12 := n1_
              have HO639 := n2_
              have BK590 := n3_
              have HB := n4_
              clear n0_ n1_ n2_ n3_ n4_
              (try clear hb)
              (try clear hb2)
              (try clear hk)
              (try clear hi)
              (try clear ho0)
              refine hK.out _ _ ⟨(blk_cell BK590.out 0).trans rfl, (blk_cell BK590.out 1).trans rfl, (blk_cell BK590.out 2).trans rfl⟩ (fun hHeld => ?_)
              clear hK K
              refine norm_ (a' := ?_) ?_ ?_
              rotate_left
              ·show Act.put _ (some 107) _ = _
               simp only [Act.put, sT_, s0_, sS_, i64_w, i32_w]
               rfl
              refine one_ (i := 3) (N := some 109) #[T_,T_,T_,T_,T_,F_,F_,F_,F_,F_,F_,F_] rfl rfl (one_of HT_.out (by kernel_rfl)) (by decide) (fun K hK => ?_)
              refine goes_ Try.func17 (by kernel_rfl) rfl #[.slice A1 l1.length c1] (by rfl) rfl rfl ln_ ?_
              with_reducible refine (laws_toCheckS.calls kj64 _ _ l1 t640 _ ?side1 ?side2 A92.out).mono ?_
              (case side1 => exact kc_ (Kd.C_below HR1.out HB.out))
              (case side2 => exact HC1.out)
              rintro e w101 ⟨v641, rfl, ho0, hb⟩
              refine ⟨_, rfl, ?_⟩
              have n0_ := Aside0.mk (Kd.R_elder' (kr_ HO_8) (Kd.R_base ho0) hb)
              have n1_ := Aside0.mk (Kd.R_elder' (kr_ HO_12) (Kd.R_base ho0) hb)
              have n2_ := Aside0.mk (Kd.R_below (kr_ HO639) hb)
              have n3_ := Aside0.mk (Kd.R_lower (Kd.R_new' (Kd.R_new' ho0 (Kd.R_lt (kr_ HO_8))) (Kd.R_lt (kr_ HO_12))) (below_size (hg_ GE590)))
              have n4_ := Aside0.mk (blk_below (g := gb590) (o := .cells #[.string a2_0, .int .i64 a2_1, .int .i64 a2_2] 49 (0, 0)) (bk_ BK590) hb)
              have n5_ := Aside0.mk (below_step (hg_ GE590) hb)
              clear HO_8
              clear HO_12
              clear HO639
              clear BK590
              clear HB
              have HO_8 := n0_
              have HO_12 := n1_
              have HO639 := n2_
              have HO642 := n3_
              have BK590 := n4_
              have HB := n5_
              clear n0_ n1_ n2_ n3_ n4_ n5_
              (try clear hb)
              (try clear hb2)
              (try clear hk)
              (try clear hi)
              (try clear ho0)
              refine hK.out _ _ ⟨(blk_cell BK590.out 0).trans rfl, (blk_cell BK590.out 1).trans rfl, (blk_cell BK590.out 2).trans rfl⟩ (fun hHeld => ?_)
              clear hK K
              refine norm_ (a' := ?_) ?_ ?_
              rotate_left
              ·show Act.put _ (some 109) _ = _
               simp only [Act.put, sT_, s0_, sS_, i64_w, i32_w]
               rfl
              refine one_ (i := 5) (N := some 111) #[T_,T_,T_,T_,T_,T_,F_,F_,F_,F_,F_,F_] rfl rfl (one_of HT_.out (by kernel_rfl)) (by decide) (fun K hK => ?_)
              refine goes_ Try.func39 (by kernel_rfl) rfl #[.agg #[.string a2_0, .int .i64 a2_1, .int .i64 a2_2]] (by rfl) rfl rfl ln_ ?_
              with_reducible refine (laws_toCheck.calls a2_0 a2_1 a2_2 t643 t644 t645 _ A93.out).mono ?_
              rintro e w102 ⟨rfl, hb⟩
              refine ⟨_, rfl, ?_⟩
              have n0_ := Aside0.mk (Kd.R_below (kr_ HO_8) hb)
              have n1_ := Aside0.mk (Kd.R_below (kr_ HO_12) hb)
              have n2_ := Aside0.mk (Kd.R_below (kr_ HO639) hb)
              have n3_ := Aside0.mk (Kd.R_below (kr_ HO642) hb)
              have n4_ := Aside0.mk (blk_below (g := gb590) (o := .cells #[.string a2_0, .int .i64 a2_1, .int .i64 a2_2] 49 (0, 0)) (bk_ BK590) hb)
              have n5_ := Aside0.mk (below_step (hg_ GE590) hb)
              clear HO_8
              clear HO_12
              clear HO639
              clear HO642
              clear BK590
              clear HB
              have HO_8 := n0_
              have HO_12 := n1_
              have HO639 := n2_
              have HO642 := n3_
              have BK590 := n4_
              have HB := n5_
              clear n0_ n1_ n2_ n3_ n4_ n5_
              (try clear hb)
              (try clear hb2)
              (try clear hk)
              (try clear hi)
              obtain ⟨Ao103, co103, eo103⟩ := Kd.R_slice HO639.out
              (first | subst eo103 | (injection eo103 with f1_ f2_ f3_; have f4_ := f1_.symm; have f5_ := f3_.symm; clear f1_ f2_ f3_; subst f4_; subst f5_))
              obtain ⟨Ao104, co104, eo104⟩ := Kd.R_slice HO642.out
              (first | subst eo104 | (injection eo104 with f1_ f2_ f3_; have f4_ := f1_.symm; have f5_ := f3_.symm; clear f1_ f2_ f3_; subst f4_; subst f5_))
              refine hK.out _ _ ⟨(blk_cell BK590.out 0).trans rfl, (blk_cell BK590.out 1).trans rfl, (blk_cell BK590.out 2).trans rfl⟩ (fun hHeld => ?_)
              clear hK K
              refine norm_ (a' := ?_) ?_ ?_
              rotate_left
              ·show Act.put _ (some 111) _ = _
               simp only [Act.put, sT_, s0_, sS_, i64_w, i32_w]
               rfl
              refine one_ (i := 6) (N := some 112) #[T_,T_,T_,T_,T_,T_,T_,F_,F_,F_,F_,F_] rfl rfl (one_of HT_.out (by kernel_rfl)) (by decide) (fun K hK => ?_)
              refine goes_ Try.func40 (by kernel_rfl) rfl #[.slice Ao103 t637.length co103, .slice Ao104 t640.length co104, .agg #[.string t643, .int .i64 t644, .int .i64 t645]] (by rfl) rfl rfl ln_ ?_
              with_reducible refine (impl_AddCheck.calls kj64 _ _ t637 _ _ t640 t643 t644 t645 t646 t649 _ ?side1 ?side2 ?side3 ?side4 A94.out).mono ?_
              (case side1 => repeat (first | exact (Kd.R_reads' HO639.out).2.2 | (with_reducible refine Kd.C_alloc ?_ _) | (with_reducible refine Kd.C_drewN ?_ _) | (with_reducible refine Kd.C_drew ?_)))
              (case side2 => exact (Kd.R_reads' HO639.out).2.1)
              (case side3 => repeat (first | exact (Kd.R_reads' HO642.out).2.2 | (with_reducible refine Kd.C_alloc ?_ _) | (with_reducible refine Kd.C_drewN ?_ _) | (with_reducible refine Kd.C_drew ?_)))
              (case side4 => exact (Kd.R_reads' HO642.out).2.1)
              rintro e w105 ⟨v647, rfl, ho0, hb⟩
              refine ⟨_, rfl, ?_⟩
              have n0_ := Aside0.mk (Kd.R_elder' (kr_ HO_8) (Kd.R_base ho0) hb)
              have n1_ := Aside0.mk (Kd.R_elder' (kr_ HO_12) (Kd.R_base ho0) hb)
              have n2_ := Aside0.mk (Kd.R_below (kr_ HO639) hb)
              have n3_ := Aside0.mk (Kd.R_elder' (kr_ HO642) (Kd.R_base ho0) hb)
              have n4_ := Aside0.mk (Kd.R_lower (Kd.R_new' (Kd.R_new' (Kd.R_new' ho0 (Kd.R_lt (kr_ HO_8))) (Kd.R_lt (kr_ HO_12))) (Kd.R_lt (kr_ HO642))) (below_size (hg_ GE590)))
              have n5_ := Aside0.mk (blk_below (g := gb590) (o := .cells #[.string a2_0, .int .i64 a2_1, .int .i64 a2_2] 49 (0, 0)) (bk_ BK590) hb)
              have n6_ := Aside0.mk (below_step (hg_ GE590) hb)
              clear HO_8
              clear HO_12
              clear HO639
              clear HO642
              clear BK590
              clear HB
              have HO_8 := n0_
              have HO_12 := n1_
              have HO639 := n2_
              have HO642 := n3_
              have HO648 := n4_
              have BK590 := n5_
              have HB := n6_
              clear n0_ n1_ n2_ n3_ n4_ n5_ n6_
              (try clear hb)
              (try clear hb2)
              (try clear hk)
              (try clear hi)
              (try clear ho0)
              refine hK.out _ _ ⟨(blk_cell BK590.out 0).trans rfl, (blk_cell BK590.out 1).trans rfl, (blk_cell BK590.out 2).trans rfl⟩ (fun hHeld => ?_)
              clear hK K
              refine norm_ (a' := ?_) ?_ ?_
              rotate_left
              ·show Act.put _ (some 112) _ = _
               simp only [Act.put, sT_, s0_, sS_, i64_w, i32_w]
               rfl
              refine pu (i := 7) (N := some 105) #[T_,T_,T_,T_,T_,T_,T_,T_,F_,F_,F_,F_] HT_ ?_
              refine pu (i := 8) (N := some 113) #[T_,T_,T_,T_,T_,T_,T_,T_,T_,F_,F_,F_] HT_ ?_
              refine pu (i := 9) (N := some 114) #[T_,T_,T_,T_,T_,T_,T_,T_,T_,T_,F_,F_] HT_ ?_
              refine pu (i := 10) (N := some 17) #[T_,T_,T_,T_,T_,T_,T_,T_,T_,T_,T_,F_] HT_ ?_
              refine pu (i := 11) (N := some 18) #[T_,T_,T_,T_,T_,T_,T_,T_,T_,T_,T_,T_] HT_ ?_
              refine done_ (done_of HT_.out (by kernel_rfl)) ?_
              go_upto_region 35 with (fail)
              go_cut [123] (fun v123 wc => ∃ (kq : Nat) (x123_94 : Bool), v123 = .bool x123_94 ∧ Aside0 (laws_FnExactAddCheck.j2 kq t635 t634 x123_94 = some r) ∧ Aside0 (kq ≤ kj64) ∧ Aside0 (Kd.R k53 53 wc w.heap.size (fun _ => True) (.slice Ao96 t616.length co96) t635) ∧ Aside0 (wc.heap[gb590]? = some (.cells #[.string a2_0, .int .i64 a2_1, .int .i64 a2_2] 49 (0, 0))) ∧ Aside0 (Below w.heap.size w wc))
              case first =>
               have H := HC95.out
               clear HC95
               replace H := Option.bind_eq_some_iff.mp H
               obtain ⟨t650, A1060, H⟩ := H
               replace H : (if t650 = true then (laws_FnExactAddCheck.j2 kj64 t635 t634 (t649 != t606)) else (laws_FnExactAddCheck.j2 kj64 t635 t634 true)) = some r := H
               have A106 := Aside0.mk A1060
               clear A1060
               by_cases c107 : t650 = true
               ·subst c107
                have H1 : (laws_FnExactAddCheck.j2 kj64 t635 t634 (t649 != t606)) = some r := by rw [if_pos rfl] at H; exact H
                clear H
                have H := H1
                clear H1
                have H' := Aside0.mk H
                clear H
                obtain ⟨Ao108, co108, eo108⟩ := Kd.R_slice HO648.out
                subst eo108
                obtain ⟨Ao109, co109, eo109⟩ := Kd.R_slice HO_8.out
                subst eo109
                go_wp2_with (first | ((with_reducible refine gate_callee (f := 19) rfl ?_); refine goesL_ (some 117) rfl rfl Try.func19 (by kernel_rfl) rfl #[.slice Ao108 t646.length co108, .slice Ao109 t603.length co109] rfl ln_ ?_; (with_reducible refine (laws_eqCheckS.calls kj64 _ _ t646 _ _ t603 true _ ?side1 ?side2 ?side3 ?side4 A106.out).mono ?_); (case side1 => repeat (first | exact (Kd.R_reads' HO648.out).2.2 | (with_reducible refine Kd.C_alloc ?_ _) | (with_reducible refine Kd.C_drewN ?_ _) | (with_reducible refine Kd.C_drew ?_))); (case side2 => exact (Kd.R_reads' HO648.out).2.1); (case side3 => repeat (first | exact (Kd.R_reads' HO_8.out).2.2 | (with_reducible refine Kd.C_alloc ?_ _) | (with_reducible refine Kd.C_drewN ?_ _) | (with_reducible refine Kd.C_drew ?_))); (case side4 => exact (Kd.R_reads' HO_8.out).2.1); rintro e w110 ⟨rfl, hb⟩; refine ⟨_, rfl, ?_⟩; have n0_ := Aside0.mk (Kd.R_below (kr_ HO_8) hb); have n1_ := Aside0.mk (Kd.R_below (kr_ HO_12) hb); have n2_ := Aside0.mk (Kd.R_below (kr_ HO639) hb); have n3_ := Aside0.mk (Kd.R_below (kr_ HO642) hb); have n4_ := Aside0.mk (Kd.R_below (kr_ HO648) hb); have n5_ := Aside0.mk (blk_below (g := gb590) (o := .cells #[.string a2_0, .int .i64 a2_1, .int .i64 a2_2] 49 (0, 0)) (bk_ BK590) hb); have n6_ := Aside0.mk (below_step (hg_ GE590) hb); clear HO_8; clear HO_12; clear HO639; clear HO642; clear HO648; clear BK590; clear HB; have HO_8 := n0_; have HO_12 := n1_; have HO639 := n2_; have HO642 := n3_; have HO648 := n4_; have BK590 := n5_; have HB := n6_; clear n0_ n1_ n2_ n3_ n4_ n5_ n6_; (try clear hb); (try clear hb2); (try clear hk); (try clear hi)))
                go_meet
                case rel => exact ⟨_, ((t649 != t606)), (by first | rfl | (simp; done) | (simp [*]; done)), H', ⟨by have := HJ27.out; have := HJ64.out; first | omega | exact Nat.le_refl _⟩, ⟨by (with_reducible repeat (first | apply Kd.R_alloc | apply Kd.R_drewN | apply Kd.R_drew)); exact Kd.R_mono HO_12.out (fun _ hk => trivial)⟩, ⟨by (with_reducible repeat (first | refine blk_drewN ?_ _ | refine blk_drew ?_ | refine blk_alloc ?_ _)); exact BK590.out⟩, ⟨(hg_ GE590)⟩⟩
               ·replace c107 := Bool.eq_false_iff.mpr c107
                subst c107
                have H1 : (laws_FnExactAddCheck.j2 kj64 t635 t634 true) = some r := by rw [if_neg (show ¬ (false = true) by decide)] at H; exact H
                clear H
                have H := H1
                clear H1
                have H' := Aside0.mk H
                clear H
                obtain ⟨Ao111, co111, eo111⟩ := Kd.R_slice HO648.out
                subst eo111
                obtain ⟨Ao112, co112, eo112⟩ := Kd.R_slice HO_8.out
                subst eo112
                go_wp2_with (first | ((with_reducible refine gate_callee (f := 19) rfl ?_); refine goesL_ (some 117) rfl rfl Try.func19 (by kernel_rfl) rfl #[.slice Ao111 t646.length co111, .slice Ao112 t603.length co112] rfl ln_ ?_; (with_reducible refine (laws_eqCheckS.calls kj64 _ _ t646 _ _ t603 false _ ?side1 ?side2 ?side3 ?side4 A106.out).mono ?_); (case side1 => repeat (first | exact (Kd.R_reads' HO648.out).2.2 | (with_reducible refine Kd.C_alloc ?_ _) | (with_reducible refine Kd.C_drewN ?_ _) | (with_reducible refine Kd.C_drew ?_))); (case side2 => exact (Kd.R_reads' HO648.out).2.1); (case side3 => repeat (first | exact (Kd.R_reads' HO_8.out).2.2 | (with_reducible refine Kd.C_alloc ?_ _) | (with_reducible refine Kd.C_drewN ?_ _) | (with_reducible refine Kd.C_drew ?_))); (case side4 => exact (Kd.R_reads' HO_8.out).2.1); rintro e w113 ⟨rfl, hb⟩; refine ⟨_, rfl, ?_⟩; have n0_ := Aside0.mk (Kd.R_below (kr_ HO_8) hb); have n1_ := Aside0.mk (Kd.R_below (kr_ HO_12) hb); have n2_ := Aside0.mk (Kd.R_below (kr_ HO639) hb); have n3_ := Aside0.mk (Kd.R_below (kr_ HO642) hb); have n4_ := Aside0.mk (Kd.R_below (kr_ HO648) hb); have n5_ := Aside0.mk (blk_below (g := gb590) (o := .cells #[.string a2_0, .int .i64 a2_1, .int .i64 a2_2] 49 (0, 0)) (bk_ BK590) hb); have n6_ := Aside0.mk (below_step (hg_ GE590) hb); clear HO_8; clear HO_12; clear HO639; clear HO642; clear HO648; clear BK590; clear HB; have HO_8 := n0_; have HO_12 := n1_; have HO639 := n2_; have HO642 := n3_; have HO648 := n4_; have BK590 := n5_; have HB := n6_; clear n0_ n1_ n2_ n3_ n4_ n5_ n6_; (try clear hb); (try clear hb2); (try clear hk); (try clear hi)))
                go_meet
                case rel => exact ⟨_, (true), (by first | rfl | (simp; done) | (simp [*]; done)), H', ⟨by have := HJ27.out; have := HJ64.out; first | omega | exact Nat.le_refl _⟩, ⟨by (with_reducible repeat (first | apply Kd.R_alloc | apply Kd.R_drewN | apply Kd.R_drew)); exact Kd.R_mono HO_12.out (fun _ hk => trivial)⟩, ⟨by (with_reducible repeat (first | refine blk_drewN ?_ _ | refine blk_drew ?_ | refine blk_alloc ?_ _)); exact BK590.out⟩, ⟨(hg_ GE590)⟩⟩
              case rest =>
               clear HC95
               try clear c1
               try clear c2
               try clear p2
               try clear c3
               try clear c4
               try clear c5
               try clear c5b0
               try clear c6
               try clear c7
               try clear c8
               try clear c9
               try clear c9b0
               try clear c10
               try clear c14
               try clear c14b0
               try clear c15
               try clear c17
               try clear c19
               try clear c20
               try clear c22
               try clear c24
               try clear c29
               try clear c37
               try clear c38
               try clear c39
               try clear c40
               try clear c41
               try clear c42
               try clear c49
               try clear c56
               try clear c59
               try clear c62
               try clear c74
               try clear c74b0
               try clear c76
               try clear c83
               try clear c86
               try clear c86b0
               try clear c90
               try clear c90b0
               try clear c90b1
               try clear c107
               try clear hcz18_0
               try clear hcz18_1
               try clear hcz18_2
               try clear hcz32_0
               try clear hcz32_1
               try clear hcz32_2
               try clear hcz43_0
               try clear hcz43_1
               try clear hcz43_2
               try clear hfz18_0
               try clear hfz18_1
               try clear hfz18_2
               try clear hfz32_0
               try clear hfz32_1
               try clear hfz32_2
               try clear hfz43_0
               try clear hfz43_1
               try clear hfz43_2
               try clear p2
               obtain ⟨kq, x123_94, rfl, HA, HJ94, HO_12, BK590, HB⟩ := hcut
               have hl12_94 := (Kd.R_reads' HO_12.out).1
               rw [hl12_94] at HO_12
               (try simp only [hl12_94])
               (try simp only [hl12_94] at BK590)
               cases kq with
               | zero => exact absurd HA.out (by simp [laws_FnExactAddCheck.j2])
               | succ kj94 =>
                have H := HA.out
                clear HA
                simp only [laws_FnExactAddCheck.j2] at H
                by_cases c114 : x123_94 = true
                ·subst c114
                 have H1 : (some false) = some r := by rw [if_pos rfl] at H; exact H
                 clear H
                 have H := H1
                 clear H1
                 obtain rfl := Option.some.inj H
                 go_wp2
                 go_ret
                 exact ⟨ew_, (hg_ GE590)⟩
                ·replace c114 := Bool.eq_false_iff.mpr c114
                 subst c114
                 have H1 : ((laws_heldCheckS.f kj94 t635 1).bind fun t651 => (if t651 < 0 then (some false) else (if t651 = t634 then (some true) else (some false)))) = some r := by rw [if_neg (show ¬ (false = true) by decide)] at H; exact H
                 clear H
                 have H := H1
                 clear H1
                 replace H := Option.bind_eq_some_iff.mp H
                 obtain ⟨t651, A1150, H⟩ := H
                 replace H : (if t651 < 0 then (some false) else (if t651 = t634 then (some true) else (some false))) = some r := H
                 have A115 := Aside0.mk A1150
                 clear A1150
                 by_cases c116 : t651 < 0
                 ·rw [if_pos c116] at H
                  have c116b0 : decide (t651 < 0) = true := decide_eq_true c116
                  clear c116
                  obtain rfl := Option.some.inj H
                  go_wp2_with (first | ((with_reducible refine gate_callee (f := 42) rfl ?_); refine goesL_ (some 126) rfl rfl Try.func42 (by kernel_rfl) rfl #[.slice Ao96 t635.length co96, .int .i64 1] rfl ln_ ?_; (with_reducible refine (laws_heldCheckS.calls kj94 _ _ t635 1 t651 _ ?side1 ?side2 A115.out).mono ?_); (case side1 => repeat (first | exact (Kd.R_reads' HO_12.out).2.2 | (with_reducible refine Kd.C_alloc ?_ _) | (with_reducible refine Kd.C_drewN ?_ _) | (with_reducible refine Kd.C_drew ?_))); (case side2 => exact (Kd.R_reads' HO_12.out).2.1); rintro e w117 ⟨rfl, hb⟩; refine ⟨_, rfl, ?_⟩; have n0_ := Aside0.mk (Kd.R_below (kr_ HO_12) hb); have n1_ := Aside0.mk (blk_below (g := gb590) (o := .cells #[.string a2_0, .int .i64 a2_1, .int .i64 a2_2] 49 (0, 0)) (bk_ BK590) hb); have n2_ := Aside0.mk (below_step (hg_ GE590) hb); clear HO_12; clear BK590; clear HB; have HO_12 := n0_; have BK590 := n1_; have HB := n2_; clear n0_ n1_ n2_; (try clear hb); (try clear hb2); (try clear hk); (try clear hi)))
                  go_ret
                  exact ⟨ew_, (hg_ GE590)⟩
                 ·rw [if_neg c116] at H
                  have c116b0 : decide (t651 < 0) = false := decide_eq_false c116
                  clear c116
                  by_cases c118 : t651 = t634
                  ·rw [if_pos c118] at H
                   have c118b0 : (t651 == t634) = true := beq_iff_eq.mpr c118
                   have c118b1 : (t651 != t634) = false := bne_eq_false_iff_eq.mpr c118
                   clear c118
                   obtain rfl := Option.some.inj H
                   go_wp2_with (first | ((with_reducible refine gate_callee (f := 42) rfl ?_); refine goesL_ (some 126) rfl rfl Try.func42 (by kernel_rfl) rfl #[.slice Ao96 t635.length co96, .int .i64 1] rfl ln_ ?_; (with_reducible refine (laws_heldCheckS.calls kj94 _ _ t635 1 t651 _ ?side1 ?side2 A115.out).mono ?_); (case side1 => repeat (first | exact (Kd.R_reads' HO_12.out).2.2 | (with_reducible refine Kd.C_alloc ?_ _) | (with_reducible refine Kd.C_drewN ?_ _) | (with_reducible refine Kd.C_drew ?_))); (case side2 => exact (Kd.R_reads' HO_12.out).2.1); rintro e w119 ⟨rfl, hb⟩; refine ⟨_, rfl, ?_⟩; have n0_ := Aside0.mk (Kd.R_below (kr_ HO_12) hb); have n1_ := Aside0.mk (blk_below (g := gb590) (o := .cells #[.string a2_0, .int .i64 a2_1, .int .i64 a2_2] 49 (0, 0)) (bk_ BK590) hb); have n2_ := Aside0.mk (below_step (hg_ GE590) hb); clear HO_12; clear BK590; clear HB; have HO_12 := n0_; have BK590 := n1_; have HB := n2_; clear n0_ n1_ n2_; (try clear hb); (try clear hb2); (try clear hk); (try clear hi)))
                   go_ret
                   exact ⟨ew_, (hg_ GE590)⟩
                  ·rw [if_neg c118] at H
                   have c118b0 : (t651 == t634) = false := beq_eq_false_iff_ne.mpr c118
                   have c118b1 : (t651 != t634) = true := bne_iff_ne.mpr c118
                   obtain rfl := Option.some.inj H
                   go_wp2_with (first | ((with_reducible refine gate_callee (f := 42) rfl ?_); refine goesL_ (some 126) rfl rfl Try.func42 (by kernel_rfl) rfl #[.slice Ao96 t635.length co96, .int .i64 1] rfl ln_ ?_; (with_reducible refine (laws_heldCheckS.calls kj94 _ _ t635 1 t651 _ ?side1 ?side2 A115.out).mono ?_); (case side1 => repeat (first | exact (Kd.R_reads' HO_12.out).2.2 | (with_reducible refine Kd.C_alloc ?_ _) | (with_reducible refine Kd.C_drewN ?_ _) | (with_reducible refine Kd.C_drew ?_))); (case side2 => exact (Kd.R_reads' HO_12.out).2.1); rintro e w120 ⟨rfl, hb⟩; refine ⟨_, rfl, ?_⟩; have n0_ := Aside0.mk (Kd.R_below (kr_ HO_12) hb); have n1_ := Aside0.mk (blk_below (g := gb590) (o := .cells #[.string a2_0, .int .i64 a2_1, .int .i64 a2_2] 49 (0, 0)) (bk_ BK590) hb); have n2_ := Aside0.mk (below_step (hg_ GE590) hb); clear HO_12; clear BK590; clear HB; have HO_12 := n0_; have BK590 := n1_; have HB := n2_; clear n0_ n1_ n2_; (try clear hb); (try clear hb2); (try clear hk); (try clear hi)))
                   go_ret
                   exact ⟨ew_, (hg_ GE590)⟩
             ·rw [if_neg c90] at H
              have c90b0 : (t636 == t634) = false := beq_eq_false_iff_ne.mpr c90
              have c90b1 : (t636 != t634) = true := bne_iff_ne.mpr c90
              obtain rfl := Option.some.inj H
              obtain ⟨Ao121, co121, eo121⟩ := Kd.R_slice HO_12.out
              subst eo121
              go_wp2_with (first | ((with_reducible refine gate_callee (f := 41) rfl ?_); refine goesL_ (some 96) rfl rfl Try.func41 (by kernel_rfl) rfl #[.slice Ao121 t616.length co121, .int .i64 1] rfl ln_ ?_; (with_reducible refine (laws_markCheckS.calls kj64 (fun k_ => some k_ = (.slice Ao121 t616.length co121 : Value).ownBlock) (.slice Ao121 t616.length co121) t616 1 t634 t635 w _ ?side1 ?side2 A84.out).mono ?_); (case side1 => repeat (first | (with_reducible first | exact HB.out | apply below_alloc | apply pw_below_drewN | apply below_drew1 | refine below_set ?_ GE590.out) | exact HB.out)); (case side2 => exact Kd.R_tight rfl HO_12.out); rintro e w122 ⟨rfl, hy0, hb, hkp⟩; refine ⟨_, rfl, ?_⟩; have n0_ := Aside0.mk (Kd.R_mono (ok' := fun k_ => some k_ ≠ (.slice Ao121 t616.length co121 : Value).ownBlock) (Kd.R_keptB (HO_8.out) hkp (fun k_ hk_ hs_ => (hk_) hs_)) (fun k_ hk_ => hk_.1)); have n1_ := Aside0.mk (Kd.R_reok rfl hy0 (fun k_ e_ => HO_12.out.1 k_ e_)); have n2_ := Aside0.mk (blk_kept (bk_ BK590) hkp (fun hs_ => (fun e_ => (Kd.R_ne HO_12.out BK590.out (by decide)) e_) hs_)); have n3_ := Aside0.mk (hb); clear HO_8; clear HO_12; clear BK590; clear HB; have HO_8 := n0_; have HO_12 := n1_; have BK590 := n2_; have HB := n3_; clear n0_ n1_ n2_ n3_; (try clear hb); (try clear hkp); (try clear hy0)) | ((with_reducible refine gate_callee (f := 42) rfl ?_); refine goesL_ (some 99) rfl rfl Try.func42 (by kernel_rfl) rfl #[.slice Ao121 t635.length co121, .int .i64 1] rfl (by (try simp only [List.map_toArray, List.map_cons, List.map_nil]); first | done | (rw [show t635.length = t616.length from (Kd.R_reads' HO_12.out).1.symm] <;> rfl) | rfl | (simp only [List.length_drop, List.length_take]; rfl)) ?_; (with_reducible refine (laws_heldCheckS.calls kj64 _ _ t635 1 t636 _ ?side1 ?side2 A85.out).mono ?_); (case side1 => repeat (first | exact (Kd.R_reads' HO_12.out).2.2 | (with_reducible refine Kd.C_alloc ?_ _) | (with_reducible refine Kd.C_drewN ?_ _) | (with_reducible refine Kd.C_drew ?_))); (case side2 => rw [show t635.length = t616.length from (Kd.R_reads' HO_12.out).1.symm]; exact (Kd.R_reads' HO_12.out).2.1); rintro e w123 ⟨rfl, hb⟩; refine ⟨_, rfl, ?_⟩; have n0_ := Aside0.mk (Kd.R_below (kr_ HO_8) hb); have n1_ := Aside0.mk (Kd.R_below (kr_ HO_12) hb); have n2_ := Aside0.mk (blk_below (g := gb590) (o := .cells #[.string a2_0, .int .i64 a2_1, .int .i64 a2_2] 49 (0, 0)) (bk_ BK590) hb); have n3_ := Aside0.mk (below_step (hg_ GE590) hb); clear HO_8; clear HO_12; clear BK590; clear HB; have HO_8 := n0_; have HO_12 := n1_; have BK590 := n2_; have HB := n3_; clear n0_ n1_ n2_ n3_; (try clear hb); (try clear hb2); (try clear hk); (try clear hi)))
              go_ret
              exact ⟨ew_, (hg_ GE590)⟩
        ·replace c62 := Bool.eq_false_iff.mpr c62
         subst c62
         have H1 : (some false) = some r := by rw [if_neg (show ¬ (false = true) by decide)] at H; exact H
         clear H
         have H := H1
         clear H1
         obtain rfl := Option.some.inj H
         go_wp2_with (first | ((with_reducible refine gate_callee (f := 22) rfl ?_); refine goesL_ (some 67) rfl rfl Try.func22 (by kernel_rfl) rfl #[.slice A0 l0.length c0] rfl ln_ ?_; (with_reducible refine (laws_toGearS.calls kj27 _ _ l0 t621 _ ?side1 ?side2 A57.out).mono ?_); (case side1 => exact kc_ (Kd.C_below HR0.out HB.out)); (case side2 => exact HC0.out); rintro e w124 ⟨v622, rfl, ho0, hb⟩; refine ⟨_, rfl, ?_⟩; have n0_ := Aside0.mk (Kd.R_below (kr_ HO_8) hb); have n1_ := Aside0.mk (Kd.R_elder' (kr_ HO_10) (Kd.R_base ho0) hb); have n2_ := Aside0.mk (Kd.R_below (kr_ HO_11) hb); have n3_ := Aside0.mk (Kd.R_below (kr_ HO_12) hb); have n4_ := Aside0.mk (Kd.R_lower (Kd.R_new' ho0 (Kd.R_lt (kr_ HO_10))) (below_size (hg_ GE590))); have n5_ := Aside0.mk (blk_below (g := gb590) (o := .cells #[.string a2_0, .int .i64 a2_1, .int .i64 a2_2] 49 (0, 0)) (bk_ BK590) hb); have n6_ := Aside0.mk (below_step (hg_ GE590) hb); clear HO_8; clear HO_10; clear HO_11; clear HO_12; clear BK590; clear HB; have HO_8 := n0_; have HO_10 := n1_; have HO_11 := n2_; have HO_12 := n3_; have HO623 := n4_; have BK590 := n5_; have HB := n6_; clear n0_ n1_ n2_ n3_ n4_ n5_ n6_; (try clear hb); (try clear hb2); (try clear hk); (try clear hi); (try clear ho0); obtain ⟨Ao125, co125, eo125⟩ := Kd.R_slice HO623.out; subst eo125) | ((with_reducible refine gate_callee (f := 24) rfl ?_); refine goesL_ (some 68) rfl rfl Try.func24 (by kernel_rfl) rfl #[.slice Ao45 t607.length co45, .slice Ao125 t621.length co125] rfl ln_ ?_; (with_reducible refine (laws_eqGearS.calls kj27 _ _ t607 _ _ t621 true _ ?side1 ?side2 ?side3 ?side4 A58.out).mono ?_); (case side1 => repeat (first | exact (Kd.R_reads' HO_10.out).2.2 | (with_reducible refine Kd.C_alloc ?_ _) | (with_reducible refine Kd.C_drewN ?_ _) | (with_reducible refine Kd.C_drew ?_))); (case side2 => exact (Kd.R_reads' HO_10.out).2.1); (case side3 => repeat (first | exact (Kd.R_reads' HO623.out).2.2 | (with_reducible refine Kd.C_alloc ?_ _) | (with_reducible refine Kd.C_drewN ?_ _) | (with_reducible refine Kd.C_drew ?_))); (case side4 => exact (Kd.R_reads' HO623.out).2.1); rintro e w126 ⟨rfl, hb⟩; refine ⟨_, rfl, ?_⟩; have n0_ := Aside0.mk (Kd.R_below (kr_ HO_8) hb); have n1_ := Aside0.mk (Kd.R_below (kr_ HO_10) hb); have n2_ := Aside0.mk (Kd.R_below (kr_ HO_11) hb); have n3_ := Aside0.mk (Kd.R_below (kr_ HO_12) hb); have n4_ := Aside0.mk (Kd.R_below (kr_ HO623) hb); have n5_ := Aside0.mk (blk_below (g := gb590) (o := .cells #[.string a2_0, .int .i64 a2_1, .int .i64 a2_2] 49 (0, 0)) (bk_ BK590) hb); have n6_ := Aside0.mk (below_step (hg_ GE590) hb); clear HO_8; clear HO_10; clear HO_11; clear HO_12; clear HO623; clear BK590; clear HB; have HO_8 := n0_; have HO_10 := n1_; have HO_11 := n2_; have HO_12 := n3_; have HO623 := n4_; have BK590 := n5_; have HB := n6_; clear n0_ n1_ n2_ n3_ n4_ n5_ n6_; (try clear hb); (try clear hb2); (try clear hk); (try clear hi)) | ((with_reducible refine gate_callee (f := 17) rfl ?_); refine goesL_ (some 72) rfl rfl Try.func17 (by kernel_rfl) rfl #[.slice A1 l1.length c1] rfl ln_ ?_; (with_reducible refine (laws_toCheckS.calls kj27 _ _ l1 t625 _ ?side1 ?side2 A60.out).mono ?_); (case side1 => exact kc_ (Kd.C_below HR1.out HB.out)); (case side2 => exact HC1.out); rintro e w127 ⟨v626, rfl, ho0, hb⟩; refine ⟨_, rfl, ?_⟩; have n0_ := Aside0.mk (Kd.R_elder' (kr_ HO_8) (Kd.R_base ho0) hb); have n1_ := Aside0.mk (Kd.R_below (kr_ HO_10) hb); have n2_ := Aside0.mk (Kd.R_elder' (kr_ HO_11) (Kd.R_base ho0) hb); have n3_ := Aside0.mk (Kd.R_elder' (kr_ HO_12) (Kd.R_base ho0) hb); have n4_ := Aside0.mk (Kd.R_below (kr_ HO623) hb); have n5_ := Aside0.mk (Kd.R_lower (Kd.R_new' (Kd.R_new' (Kd.R_new' ho0 (Kd.R_lt (kr_ HO_8))) (Kd.R_lt (kr_ HO_11))) (Kd.R_lt (kr_ HO_12))) (below_size (hg_ GE590))); have n6_ := Aside0.mk (blk_below (g := gb590) (o := .cells #[.string a2_0, .int .i64 a2_1, .int .i64 a2_2] 49 (0, 0)) (bk_ BK590) hb); have n7_ := Aside0.mk (below_step (hg_ GE590) hb); clear HO_8; clear HO_10; clear HO_11; clear HO_12; clear HO623; clear BK590; clear HB; have HO_8 := n0_; have HO_10 := n1_; have HO_11 := n2_; have HO_12 := n3_; have HO623 := n4_; have HO627 := n5_; have BK590 := n6_; have HB := n7_; clear n0_ n1_ n2_ n3_ n4_ n5_ n6_ n7_; (try clear hb); (try clear hb2); (try clear hk); (try clear hi); (try clear ho0); obtain ⟨Ao128, co128, eo128⟩ := Kd.R_slice HO627.out; subst eo128) | ((with_reducible refine gate_callee (f := 19) rfl ?_); refine goesL_ (some 73) rfl rfl Try.func19 (by kernel_rfl) rfl #[.slice Ao46 t610.length co46, .slice Ao128 t625.length co128] rfl ln_ ?_; (with_reducible refine (laws_eqCheckS.calls kj27 _ _ t610 _ _ t625 false _ ?side1 ?side2 ?side3 ?side4 A61.out).mono ?_); (case side1 => repeat (first | exact (Kd.R_reads' HO_11.out).2.2 | (with_reducible refine Kd.C_alloc ?_ _) | (with_reducible refine Kd.C_drewN ?_ _) | (with_reducible refine Kd.C_drew ?_))); (case side2 => exact (Kd.R_reads' HO_11.out).2.1); (case side3 => repeat (first | exact (Kd.R_reads' HO627.out).2.2 | (with_reducible refine Kd.C_alloc ?_ _) | (with_reducible refine Kd.C_drewN ?_ _) | (with_reducible refine Kd.C_drew ?_))); (case side4 => exact (Kd.R_reads' HO627.out).2.1); rintro e w129 ⟨rfl, hb⟩; refine ⟨_, rfl, ?_⟩; have n0_ := Aside0.mk (Kd.R_below (kr_ HO_8) hb); have n1_ := Aside0.mk (Kd.R_below (kr_ HO_10) hb); have n2_ := Aside0.mk (Kd.R_below (kr_ HO_11) hb); have n3_ := Aside0.mk (Kd.R_below (kr_ HO_12) hb); have n4_ := Aside0.mk (Kd.R_below (kr_ HO623) hb); have n5_ := Aside0.mk (Kd.R_below (kr_ HO627) hb); have n6_ := Aside0.mk (blk_below (g := gb590) (o := .cells #[.string a2_0, .int .i64 a2_1, .int .i64 a2_2] 49 (0, 0)) (bk_ BK590) hb); have n7_ := Aside0.mk (below_step (hg_ GE590) hb); clear HO_8; clear HO_10; clear HO_11; clear HO_12; clear HO623; clear HO627; clear BK590; clear HB; have HO_8 := n0_; have HO_10 := n1_; have HO_11 := n2_; have HO_12 := n3_; have HO623 := n4_; have HO627 := n5_; have BK590 := n6_; have HB := n7_; clear n0_ n1_ n2_ n3_ n4_ n5_ n6_ n7_; (try clear hb); (try clear hb2); (try clear hk); (try clear hi)))
         go_ret
         exact ⟨ew_, (hg_ GE590)⟩
       ·replace c59 := Bool.eq_false_iff.mpr c59
        subst c59
        have H1 : (some false) = some r := by rw [if_neg (show ¬ (false = true) by decide)] at H; exact H
        clear H
        have H := H1
        clear H1
        obtain rfl := Option.some.inj H
        go_wp2_with (first | ((with_reducible refine gate_callee (f := 22) rfl ?_); refine goesL_ (some 67) rfl rfl Try.func22 (by kernel_rfl) rfl #[.slice A0 l0.length c0] rfl ln_ ?_; (with_reducible refine (laws_toGearS.calls kj27 _ _ l0 t621 _ ?side1 ?side2 A57.out).mono ?_); (case side1 => exact kc_ (Kd.C_below HR0.out HB.out)); (case side2 => exact HC0.out); rintro e w130 ⟨v622, rfl, ho0, hb⟩; refine ⟨_, rfl, ?_⟩; have n0_ := Aside0.mk (Kd.R_below (kr_ HO_8) hb); have n1_ := Aside0.mk (Kd.R_elder' (kr_ HO_10) (Kd.R_base ho0) hb); have n2_ := Aside0.mk (Kd.R_below (kr_ HO_11) hb); have n3_ := Aside0.mk (Kd.R_below (kr_ HO_12) hb); have n4_ := Aside0.mk (Kd.R_lower (Kd.R_new' ho0 (Kd.R_lt (kr_ HO_10))) (below_size (hg_ GE590))); have n5_ := Aside0.mk (blk_below (g := gb590) (o := .cells #[.string a2_0, .int .i64 a2_1, .int .i64 a2_2] 49 (0, 0)) (bk_ BK590) hb); have n6_ := Aside0.mk (below_step (hg_ GE590) hb); clear HO_8; clear HO_10; clear HO_11; clear HO_12; clear BK590; clear HB; have HO_8 := n0_; have HO_10 := n1_; have HO_11 := n2_; have HO_12 := n3_; have HO623 := n4_; have BK590 := n5_; have HB := n6_; clear n0_ n1_ n2_ n3_ n4_ n5_ n6_; (try clear hb); (try clear hb2); (try clear hk); (try clear hi); (try clear ho0); obtain ⟨Ao131, co131, eo131⟩ := Kd.R_slice HO623.out; subst eo131) | ((with_reducible refine gate_callee (f := 24) rfl ?_); refine goesL_ (some 68) rfl rfl Try.func24 (by kernel_rfl) rfl #[.slice Ao45 t607.length co45, .slice Ao131 t621.length co131] rfl ln_ ?_; (with_reducible refine (laws_eqGearS.calls kj27 _ _ t607 _ _ t621 false _ ?side1 ?side2 ?side3 ?side4 A58.out).mono ?_); (case side1 => repeat (first | exact (Kd.R_reads' HO_10.out).2.2 | (with_reducible refine Kd.C_alloc ?_ _) | (with_reducible refine Kd.C_drewN ?_ _) | (with_reducible refine Kd.C_drew ?_))); (case side2 => exact (Kd.R_reads' HO_10.out).2.1); (case side3 => repeat (first | exact (Kd.R_reads' HO623.out).2.2 | (with_reducible refine Kd.C_alloc ?_ _) | (with_reducible refine Kd.C_drewN ?_ _) | (with_reducible refine Kd.C_drew ?_))); (case side4 => exact (Kd.R_reads' HO623.out).2.1); rintro e w132 ⟨rfl, hb⟩; refine ⟨_, rfl, ?_⟩; have n0_ := Aside0.mk (Kd.R_below (kr_ HO_8) hb); have n1_ := Aside0.mk (Kd.R_below (kr_ HO_10) hb); have n2_ := Aside0.mk (Kd.R_below (kr_ HO_11) hb); have n3_ := Aside0.mk (Kd.R_below (kr_ HO_12) hb); have n4_ := Aside0.mk (Kd.R_below (kr_ HO623) hb); have n5_ := Aside0.mk (blk_below (g := gb590) (o := .cells #[.string a2_0, .int .i64 a2_1, .int .i64 a2_2] 49 (0, 0)) (bk_ BK590) hb); have n6_ := Aside0.mk (below_step (hg_ GE590) hb); clear HO_8; clear HO_10; clear HO_11; clear HO_12; clear HO623; clear BK590; clear HB; have HO_8 := n0_; have HO_10 := n1_; have HO_11 := n2_; have HO_12 := n3_; have HO623 := n4_; have BK590 := n5_; have HB := n6_; clear n0_ n1_ n2_ n3_ n4_ n5_ n6_; (try clear hb); (try clear hb2); (try clear hk); (try clear hi)))
        go_ret
        exact ⟨ew_, (hg_ GE590)⟩

end Go.Proofs.Ytdbigcfpinpnpaa.P
