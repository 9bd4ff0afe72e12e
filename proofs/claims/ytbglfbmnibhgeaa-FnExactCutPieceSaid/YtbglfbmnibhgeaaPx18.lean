-- Written by gprint.py (own program, over the printer of the kit) out of the translation. Lean checks it.
import Derived.Test.YtbglfbmnibhgeaaPx0
import Derived.Test.YtbglfbmnibhgeaaPx2
import Derived.Test.YtbglfbmnibhgeaaPx7
import Derived.Test.YtbglfbmnibhgeaaPx13
import Derived.Test.YtbglfbmnibhgeaaPx14
import Derived.Test.YtbglfbmnibhgeaaPx16
import Derived.Test.YtbglfbmnibhgeaaWPk
namespace Go.Proofs.Ytbglfbmnibhgeaa.P
open Go.RowKit Go.Proofs.YtbglfbmnibhgeaaW.PrintWords Go.Proofs.YtbglfbmnibhgeaaW.PrintLast Go.Proofs.YtbglfbmnibhgeaaW.PrintMore Go.Proofs.YtbglfbmnibhgeaaW.Pk
open Bool renaming true → T_, false → F_
open List renaming setIfInBounds_toArray → sT_, set_cons_zero → s0_, set_cons_succ → sS_
attribute [local go_sem] max2_int min2_int max_two min_two max_three min_three max_four min_four   -- for this text's walks alone
set_option linter.unusedVariables false
set_option linter.unusedSimpArgs false

/-! ### spec_l23Cut: function 71 -/
def spec_l23Cut.f (l0 : List (S45)) (a1 : Int) (a2 : Int) : Option ((List (S45))) := (some (([] : List (S45)) : List (S45))).bind fun y417 => (if 0 ≤ a1 then (if a1 ≤ (l0.length : Int) then ((some (l0.take (a1 : Int).toNat : List (S45))).bind fun y420 => (if y417.length + y420.length < 5864062014805 then ((some (y417 ++ y420 : List (S45))).bind fun y424 => (if a1 < (l0.length : Int) then (if ((rd_T45 l0 a1).f1) > a2 then (if y424.length < 5864062014805 then ((some (y424 ++ [(⟨(rd_T45 l0 a1).f0, wrap64 (((rd_T45 l0 a1).f1) - a2)⟩ : S45)] : List (S45))).bind fun y430 => (if 0 ≤ (wrap64 (a1 + 1)) then (if (wrap64 (a1 + 1)) ≤ (l0.length : Int) then ((some (l0.drop ((wrap64 (a1 + 1)) : Int).toNat : List (S45))).bind fun y433 => (if y430.length + y433.length < 5864062014805 then (some (y430 ++ y433)) else (none))) else (none)) else (none))) else (none)) else (if 0 ≤ (wrap64 (a1 + 1)) then (if (wrap64 (a1 + 1)) ≤ (l0.length : Int) then ((some (l0.drop ((wrap64 (a1 + 1)) : Int).toNat : List (S45))).bind fun y440 => (if y424.length + y440.length < 5864062014805 then (some (y424 ++ y440)) else (none))) else (none)) else (none))) else (none))) else (none))) else (none)) else (none))
def spec_l23Cut.T3 : Bool × List (List Nat × List Nat) := (true, [([], []), ([], []), ([], []), ([1, 2], [1, 2]), ([3], [3]), ([4], [4]), ([], []), ([], []), ([6, 7], [6, 7]), ([8], [8]), ([9], [9]), ([], []), ([10, 11], [10, 11]), ([5, 12], [5, 12]), ([13], [13]), ([0, 14], [0, 14]), ([15, 15, 0, 1, 2, 3, 4, 5, 6, 7, 8, 9, 10, 11, 12, 13, 14, 15], [0, 15])])
def spec_l23Cut.B3 : List Nat := [0, 0, 0, 6, 14, 30, 0, 0, 192, 448, 960, 0, 4032, 8190, 16382, 32767, 65535]
theorem spec_l23Cut.tab3 : rtab .any (opsOf Try.f71 3) = spec_l23Cut.T3 := by kernel_rfl
theorem spec_l23Cut.bits3 : waitsOk spec_l23Cut.T3.2 spec_l23Cut.B3 = true := by kernel_rfl
set_option maxHeartbeats 8000000 in
set_option maxRecDepth 100000 in
theorem spec_l23Cut.calls (A0 : Option Addr) (c0 : Nat) (l0 : List (S45)) (a1 : Int) (a2 : Int) (r : List (S45)) (w : World) (hr0 : Kd.C k45 w A0 l0.length l0) (hc0 : l0.length ≤ c0) (h : spec_l23Cut.f l0 a1 a2 = some r) :
  Calls Try.prog 71 #[.slice A0 l0.length c0, .int .i64 a1, .int .i64 a2] w fun e w' => ∃ v0_ : Value, e = .returned (v0_) ∧ Kd.R k45 45 w' w.heap.size (fun _ => True) v0_ r ∧ Below w.heap.size w w' := by
 have hu45 := Try.underlying45
 have HR0 := Aside0.mk hr0
 have HC0 := Aside0.mk hc0
 clear hr0 hc0
 have HB := Aside0.mk (Below.refl w.heap.size w)
 have H : ((some (([] : List (S45)) : List (S45))).bind fun y417 => (if 0 ≤ a1 then (if a1 ≤ (l0.length : Int) then ((some (l0.take (a1 : Int).toNat : List (S45))).bind fun y420 => (if y417.length + y420.length < 5864062014805 then ((some (y417 ++ y420 : List (S45))).bind fun y424 => (if a1 < (l0.length : Int) then (if ((rd_T45 l0 a1).f1) > a2 then (if y424.length < 5864062014805 then ((some (y424 ++ [(⟨(rd_T45 l0 a1).f0, wrap64 (((rd_T45 l0 a1).f1) - a2)⟩ : S45)] : List (S45))).bind fun y430 => (if 0 ≤ (wrap64 (a1 + 1)) then (if (wrap64 (a1 + 1)) ≤ (l0.length : Int) then ((some (l0.drop ((wrap64 (a1 + 1)) : Int).toNat : List (S45))).bind fun y433 => (if y430.length + y433.length < 5864062014805 then (some (y430 ++ y433)) else (none))) else (none)) else (none))) else (none)) else (if 0 ≤ (wrap64 (a1 + 1)) then (if (wrap64 (a1 + 1)) ≤ (l0.length : Int) then ((some (l0.drop ((wrap64 (a1 + 1)) : Int).toNat : List (S45))).bind fun y440 => (if y424.length + y440.length < 5864062014805 then (some (y424 ++ y440)) else (none))) else (none)) else (none))) else (none))) else (none))) else (none)) else (none))) = some r := h
 clear h
 obtain ⟨y417, hy417⟩ : ∃ y_ : List (S45), y_ = (([] : List (S45))) := ⟨_, rfl⟩
 replace H : (if 0 ≤ a1 then (if a1 ≤ (l0.length : Int) then ((some (l0.take (a1 : Int).toNat : List (S45))).bind fun y420 => (if y417.length + y420.length < 5864062014805 then ((some (y417 ++ y420 : List (S45))).bind fun y424 => (if a1 < (l0.length : Int) then (if ((rd_T45 l0 a1).f1) > a2 then (if y424.length < 5864062014805 then ((some (y424 ++ [(⟨(rd_T45 l0 a1).f0, wrap64 (((rd_T45 l0 a1).f1) - a2)⟩ : S45)] : List (S45))).bind fun y430 => (if 0 ≤ (wrap64 (a1 + 1)) then (if (wrap64 (a1 + 1)) ≤ (l0.length : Int) then ((some (l0.drop ((wrap64 (a1 + 1)) : Int).toNat : List (S45))).bind fun y433 => (if y430.length + y433.length < 5864062014805 then (some (y430 ++ y433)) else (none))) else (none)) else (none))) else (none)) else (if 0 ≤ (wrap64 (a1 + 1)) then (if (wrap64 (a1 + 1)) ≤ (l0.length : Int) then ((some (l0.drop ((wrap64 (a1 + 1)) : Int).toNat : List (S45))).bind fun y440 => (if y424.length + y440.length < 5864062014805 then (some (y424 ++ y440)) else (none))) else (none)) else (none))) else (none))) else (none))) else (none)) else (none)) = some r := by first | (rw [hy417]; with_reducible exact H) | (have H2_ := (Option.bind_some _ _).symm.trans H; rw [hy417]; with_reducible exact H2_) | (have H2_ := (Option.bind_some _ _).symm.trans H; with_reducible exact H2_) | with_reducible exact H | (rw [hy417]; exact H) | exact H
 have Ny417 := Aside0.mk hy417
 clear hy417
 by_cases c4 : 0 ≤ a1
 ·rw [if_pos c4] at H
  have c4b0 := eq_true c4
  have c4b1 : decide (0 ≤ a1) = true := decide_eq_true c4
  clear c4
  by_cases c5 : a1 ≤ (l0.length : Int)
  ·rw [if_pos c5] at H
   have c5b0 := eq_true c5
   have c5b1 : decide (a1 ≤ (l0.length : Int)) = true := decide_eq_true c5
   clear c5
   obtain ⟨y420, hy420⟩ : ∃ y_ : List (S45), y_ = (l0.take (a1 : Int).toNat) := ⟨_, rfl⟩
   replace H : (if y417.length + y420.length < 5864062014805 then ((some (y417 ++ y420 : List (S45))).bind fun y424 => (if a1 < (l0.length : Int) then (if ((rd_T45 l0 a1).f1) > a2 then (if y424.length < 5864062014805 then ((some (y424 ++ [(⟨(rd_T45 l0 a1).f0, wrap64 (((rd_T45 l0 a1).f1) - a2)⟩ : S45)] : List (S45))).bind fun y430 => (if 0 ≤ (wrap64 (a1 + 1)) then (if (wrap64 (a1 + 1)) ≤ (l0.length : Int) then ((some (l0.drop ((wrap64 (a1 + 1)) : Int).toNat : List (S45))).bind fun y433 => (if y430.length + y433.length < 5864062014805 then (some (y430 ++ y433)) else (none))) else (none)) else (none))) else (none)) else (if 0 ≤ (wrap64 (a1 + 1)) then (if (wrap64 (a1 + 1)) ≤ (l0.length : Int) then ((some (l0.drop ((wrap64 (a1 + 1)) : Int).toNat : List (S45))).bind fun y440 => (if y424.length + y440.length < 5864062014805 then (some (y424 ++ y440)) else (none))) else (none)) else (none))) else (none))) else (none)) = some r := by first | (rw [hy420]; with_reducible exact H) | (have H2_ := (Option.bind_some _ _).symm.trans H; rw [hy420]; with_reducible exact H2_) | (have H2_ := (Option.bind_some _ _).symm.trans H; with_reducible exact H2_) | with_reducible exact H | (rw [hy420]; exact H) | exact H
   have Ny420 := Aside0.mk hy420
   clear hy420
   by_cases c6 : y417.length + y420.length < 5864062014805
   ·rw [if_pos c6] at H
    have LMc6 := Aside0.mk c6
    clear c6
    obtain ⟨y424, hy424⟩ : ∃ y_ : List (S45), y_ = (y417 ++ y420) := ⟨_, rfl⟩
    replace H : (if a1 < (l0.length : Int) then (if ((rd_T45 l0 a1).f1) > a2 then (if y424.length < 5864062014805 then ((some (y424 ++ [(⟨(rd_T45 l0 a1).f0, wrap64 (((rd_T45 l0 a1).f1) - a2)⟩ : S45)] : List (S45))).bind fun y430 => (if 0 ≤ (wrap64 (a1 + 1)) then (if (wrap64 (a1 + 1)) ≤ (l0.length : Int) then ((some (l0.drop ((wrap64 (a1 + 1)) : Int).toNat : List (S45))).bind fun y433 => (if y430.length + y433.length < 5864062014805 then (some (y430 ++ y433)) else (none))) else (none)) else (none))) else (none)) else (if 0 ≤ (wrap64 (a1 + 1)) then (if (wrap64 (a1 + 1)) ≤ (l0.length : Int) then ((some (l0.drop ((wrap64 (a1 + 1)) : Int).toNat : List (S45))).bind fun y440 => (if y424.length + y440.length < 5864062014805 then (some (y424 ++ y440)) else (none))) else (none)) else (none))) else (none)) = some r := by first | (rw [hy424]; with_reducible exact H) | (have H2_ := (Option.bind_some _ _).symm.trans H; rw [hy424]; with_reducible exact H2_) | (have H2_ := (Option.bind_some _ _).symm.trans H; with_reducible exact H2_) | with_reducible exact H | (rw [hy424]; exact H) | exact H
    have Ny424 := Aside0.mk hy424
    clear hy424
    by_cases c7 : a1 < (l0.length : Int)
    ·rw [if_pos c7] at H
     have c7b0 : decide (a1 < (l0.length : Int)) = true := decide_eq_true c7
     clear c7
     by_cases c8 : ((rd_T45 l0 a1).f1) > a2
     ·rw [if_pos c8] at H
      have c8b0 : decide (a2 < ((rd_T45 l0 a1).f1)) = true := decide_eq_true c8
      clear c8
      by_cases c9 : y424.length < 5864062014805
      ·rw [if_pos c9] at H
       have LMc9 := Aside0.mk c9
       clear c9
       obtain ⟨y430, hy430⟩ : ∃ y_ : List (S45), y_ = (y424 ++ [(⟨(rd_T45 l0 a1).f0, wrap64 (((rd_T45 l0 a1).f1) - a2)⟩ : S45)]) := ⟨_, rfl⟩
       replace H : (if 0 ≤ (wrap64 (a1 + 1)) then (if (wrap64 (a1 + 1)) ≤ (l0.length : Int) then ((some (l0.drop ((wrap64 (a1 + 1)) : Int).toNat : List (S45))).bind fun y433 => (if y430.length + y433.length < 5864062014805 then (some (y430 ++ y433)) else (none))) else (none)) else (none)) = some r := by first | (rw [hy430]; with_reducible exact H) | (have H2_ := (Option.bind_some _ _).symm.trans H; rw [hy430]; with_reducible exact H2_) | (have H2_ := (Option.bind_some _ _).symm.trans H; with_reducible exact H2_) | with_reducible exact H | (rw [hy430]; exact H) | exact H
       have Ny430 := Aside0.mk hy430
       clear hy430
       obtain ⟨ji10, hji10⟩ : ∃ j_ : Int, (wrap64 (a1 + 1)) = j_ := ⟨_, rfl⟩
       replace H : (if 0 ≤ (ji10) then (if (ji10) ≤ (l0.length : Int) then ((some (l0.drop ((ji10) : Int).toNat : List (S45))).bind fun y433 => (if y430.length + y433.length < 5864062014805 then (some (y430 ++ y433)) else (none))) else (none)) else (none)) = some r := by first | (rw [hji10] at H; exact H) | (simp only [hji10] at H ⊢; exact H)
       have hji10w : (IntKind.i64.wrap (a1 + 1)) = ji10 := (i64_w _).trans hji10
       by_cases c11 : 0 ≤ (ji10)
       ·rw [if_pos c11] at H
        have c11b0 := eq_true c11
        have c11b1 : decide (0 ≤ (ji10)) = true := decide_eq_true c11
        clear c11
        by_cases c12 : (ji10) ≤ (l0.length : Int)
        ·rw [if_pos c12] at H
         have c12b0 := eq_true c12
         have c12b1 : decide ((ji10) ≤ (l0.length : Int)) = true := decide_eq_true c12
         clear c12
         obtain ⟨y433, hy433⟩ : ∃ y_ : List (S45), y_ = (l0.drop ((ji10) : Int).toNat) := ⟨_, rfl⟩
         replace H : (if y430.length + y433.length < 5864062014805 then (some (y430 ++ y433)) else (none)) = some r := by first | (rw [hy433]; with_reducible exact H) | (have H2_ := (Option.bind_some _ _).symm.trans H; rw [hy433]; with_reducible exact H2_) | (have H2_ := (Option.bind_some _ _).symm.trans H; with_reducible exact H2_) | with_reducible exact H | (rw [hy433]; exact H) | exact H
         have Ny433 := Aside0.mk hy433
         clear hy433
         by_cases c13 : y430.length + y433.length < 5864062014805
         ·rw [if_pos c13] at H
          have LMc13 := Aside0.mk c13
          clear c13
          obtain ⟨y437, hy437⟩ : ∃ y_ : List (S45), y_ = (y430 ++ y433) := ⟨_, rfl⟩
          replace H : (some y437) = some r := by first | (rw [hy437]; with_reducible exact H) | (have H2_ := (Option.bind_some _ _).symm.trans H; rw [hy437]; with_reducible exact H2_) | (have H2_ := (Option.bind_some _ _).symm.trans H; with_reducible exact H2_) | with_reducible exact H | (rw [hy437]; exact H) | exact H
          have Ny437 := Aside0.mk hy437
          clear hy437
          obtain rfl := Option.some.inj H
          go_enter Try.func71, Try.ntmps71
          try go_wp2_with (first | ((with_reducible refine gate_dst (N := 8) rfl ?_); refine Kd.R_lit k45 _ 45 ?hg (N := 8) ?hd (xs := ([] : List (S45))) (inner := []) (ok := fun _ => True) (okp := fun _ => True) ?hr ?hp (fun _ hk => hk) trivial (Below.refl _ _) (Nat.le_refl _) (by simp) ?_; (case hd => rfl); (case hg => rfl); (case hr => first | (go_simp; done) | (go_simp; rfl)); (case hp => exact (Reps.none _ _)); intro v418 w14 ho15 hb hg_ hnew_; clear hg_ hnew_; (first | rw [← Ny417.out] at ho15 | (simp only [Int.reduceToNat] at ho15; rw [← Ny417.out] at ho15)); have n0_ := Aside0.mk (Kd.R_lower ho15 (below_size hb_)); have n1_ := Aside0.mk (below_step hb_ hb); clear HB; have HO419 := n0_; have HB := n1_; clear n0_ n1_; clear hb ho15; have q16 : (a1 : Int) ≤ ((l0.length : Int) : Int) := od_; obtain ⟨i016, hi016, _, hsz16, _⟩ := info_parts info45; have hroom16 : l0.length ≤ c0 := HC0.out; have hC16 : Kd.C k45 _ A0 l0.length l0 := HR0.out; have hcut16 := cut_to (P := Try.prog) 25 45 .i64 Try.underlying25 hi016 A0 l0.length c0 a1 (od_) q16 hroom16; have hr16 := Kd.C_take (m := (a1 : Int).toNat) hC16 (by omega); have hy16 : y420.length = (a1 : Int).toNat := (by rw [Ny420.out, List.length_take]; omega); rw [← Ny420.out] at hr16; rw [← hy16] at hcut16; have HR423 := Aside0.mk hr16; have HC423 := Aside0.mk (show y420.length ≤ c0 from by omega); clear hr16 hC16 hroom16 hi016 hsz16; have KY16 := Aside0.mk hy16; clear hy16; replace q16 := eq_true q16) | ((with_reducible refine gate_builtin (b := .append) (xs := #[.tmp 8, .tmp 11]) rfl ?_); at_builtin; refine Kd.R_append_rows k45 (w0 := w) w.heap.size rfl (.tmp 8) (.tmp 11) 25 45 (.agg #[(.string ⟨#[]⟩), (.int .i64 0)]) 24 rfl Try.underlying25 info45 rfl (by decide) (by omega) v418 y417 y420 _ _ _ (fun _ => True) (fun _ => False) rfl rfl ?aO ?aR (fun _ _ h => h) (fun _ h => h.elim) ?aF ?aB ?aS ?aL ?_; (case aR => exact kc_ (Kd.C_below HR423.out HB.out)); (case aB => exact hb_); (case aF => exact (fun _ _ => trivial)); (case aO => exact (kr_ HO419)); (case aS => exact (below_size hb_)); (case aL => have := LMc6.out; omega); intro v425 w17 ho hb hg hat; rw [← Ny424.out] at ho; have n0_ := Aside0.mk (hb); have n1_ := Aside0.mk (ho); clear HB; clear HO419; have HB := n0_; have HO426 := n1_; clear n0_ n1_; clear ho hb hg hat; have p427 : 0 ≤ (a1 : Int) := od_; have q427 : a1 < (l0.length : Int) := od_; obtain ⟨ad427, e427, hx427_0, hx427_1⟩ := at_T45 HR0.out a1 p427 q427; cases e427; replace hx427_0 := cq_ HB hx427_0; replace hx427_1 := cq_ HB hx427_1; replace p427 := eq_true p427; replace q427 := eq_true q427))
          have n0_ := Aside0.mk (Kd.R_drew HO426.out)
          have n1_ := Aside0.mk (below_drew1 HB.out)
          clear HO426
          clear HB
          have HO426 := n0_
          have HB := n1_
          clear n0_ n1_
          have p428 : 0 ≤ (a1 : Int) := od_
          have q428 : a1 < (l0.length : Int) := od_
          obtain ⟨ad428, e428, hx428_0, hx428_1⟩ := at_T45 HR0.out a1 p428 q428
          have hw428_1 := hx428_1
          have hw428_0 := hx428_0
          obtain rfl : ad427 = ad428 := (by injection e428)
          replace hx428_0 := cq_ HB hx428_0
          replace hx428_1 := cq_ HB hx428_1
          replace p428 := eq_true p428
          replace q428 := eq_true q428
          have p429 : 0 ≤ (a1 : Int) := od_
          have q429 : a1 < (l0.length : Int) := od_
          obtain ⟨ad429, e429, hx429_0, hx429_1⟩ := at_T45 HR0.out a1 p429 q429
          have hw429_1 := hx429_1
          have hw429_0 := hx429_0
          obtain rfl : ad427 = ad429 := (by injection e429)
          replace hx429_0 := cq_ HB hx429_0
          replace hx429_1 := cq_ HB hx429_1
          replace p429 := eq_true p429
          replace q429 := eq_true q429
          refine start_ (n := 17) (S := fun w' => w'.cell? (ad427.add ((a1).toNat * 2)) = some (.string ((rd_T45 l0 a1).f0)) ∧ w'.cell? ⟨(ad427.add ((a1).toNat * 2)).block, (ad427.add ((a1).toNat * 2)).off + 1, none⟩ = some (.int .i64 ((rd_T45 l0 a1).f1)) ∧ w'.cell? (ad427.add ((a1).toNat * 2)) = some (.string ((rd_T45 l0 a1).f0)) ∧ w'.cell? ⟨(ad427.add ((a1).toNat * 2)).block, (ad427.add ((a1).toNat * 2)).off + 1, none⟩ = some (.int .i64 ((rd_T45 l0 a1).f1))) (ds := []) #[F_,F_,F_,F_,F_,F_,F_,F_,F_,F_,F_,F_,F_,F_,F_,F_,F_] (by kernel_rfl) rfl rfl ⟨((HB.out.cell (World.block_lt_of_cell? w _ hw428_0)).trans hw428_0), ((HB.out.cell (World.block_lt_of_cell? w _ hw428_1)).trans hw428_1), ((HB.out.cell (World.block_lt_of_cell? w _ hw429_0)).trans hw429_0), ((HB.out.cell (World.block_lt_of_cell? w _ hw429_1)).trans hw429_1)⟩ (fun hHeld => ?_); refine with_tabW spec_l23Cut.tab3 spec_l23Cut.bits3 (fun HT_ HW_ => ?_)
          generalize w17.drew = w18 at HO426 HB hx428_0 hx428_1 hx429_0 hx429_1 hHeld ⊢
          refine pu (i := 0) (N := some 20) #[T_,F_,F_,F_,F_,F_,F_,F_,F_,F_,F_,F_,F_,F_,F_,F_,F_] HT_ ?_
          refine pu (i := 1) (N := some 21) #[T_,T_,F_,F_,F_,F_,F_,F_,F_,F_,F_,F_,F_,F_,F_,F_,F_] HT_ ?_
          refine pu (i := 2) (N := some 22) #[T_,T_,T_,F_,F_,F_,F_,F_,F_,F_,F_,F_,F_,F_,F_,F_,F_] HT_ ?_
          refine pu (i := 3) (N := some 23) #[T_,T_,T_,T_,F_,F_,F_,F_,F_,F_,F_,F_,F_,F_,F_,F_,F_] HT_ ?_
          refine pu (i := 4) (N := some 24) #[T_,T_,T_,T_,T_,F_,F_,F_,F_,F_,F_,F_,F_,F_,F_,F_,F_] HT_ ?_
          refine pu (i := 6) (N := some 26) #[T_,T_,T_,T_,T_,F_,T_,F_,F_,F_,F_,F_,F_,F_,F_,F_,F_] HT_ ?_
          refine pu (i := 7) (N := some 27) #[T_,T_,T_,T_,T_,F_,T_,T_,F_,F_,F_,F_,F_,F_,F_,F_,F_] HT_ ?_
          refine pu (i := 8) (N := some 28) #[T_,T_,T_,T_,T_,F_,T_,T_,T_,F_,F_,F_,F_,F_,F_,F_,F_] HT_ ?_
          refine pu (i := 9) (N := some 29) #[T_,T_,T_,T_,T_,F_,T_,T_,T_,T_,F_,F_,F_,F_,F_,F_,F_] HT_ ?_
          refine pu (i := 11) (N := some 31) #[T_,T_,T_,T_,T_,F_,T_,T_,T_,T_,F_,T_,F_,F_,F_,F_,F_] HT_ ?_
          refine take_ (i := 5) (N := some 25) (v := ?_) (a' := ?_) #[T_,T_,T_,T_,T_,T_,T_,T_,T_,T_,F_,T_,F_,F_,F_,F_,F_] rfl rfl (take_ofW HT_.out HW_.out (by kernel_rfl)) (fun _ _ _ h => h) (Or.inl ⟨by rfl, ?_⟩) hHeld ?_ ?_
          rotate_left
          ·rintro w' ⟨s0, s1, s2, s3⟩
           go_simp
           with_reducible rfl
          rotate_left
          ·simp only [Act.put, sT_, s0_, sS_, i64_w, i32_w]
           rfl
          refine take_ (i := 10) (N := some 30) (v := ?_) (a' := ?_) #[T_,T_,T_,T_,T_,T_,T_,T_,T_,T_,T_,T_,F_,F_,F_,F_,F_] rfl rfl (take_ofW HT_.out HW_.out (by kernel_rfl)) (fun _ _ _ h => h) (Or.inl ⟨by rfl, ?_⟩) hHeld ?_ ?_
          rotate_left
          ·rintro w' ⟨s0, s1, s2, s3⟩
           go_simp
           with_reducible rfl
          rotate_left
          ·simp only [Act.put, sT_, s0_, sS_, i64_w, i32_w]
           rfl
          refine pu (i := 12) (N := some 32) #[T_,T_,T_,T_,T_,T_,T_,T_,T_,T_,T_,T_,T_,F_,F_,F_,F_] HT_ ?_
          refine pu (i := 13) (N := some 33) #[T_,T_,T_,T_,T_,T_,T_,T_,T_,T_,T_,T_,T_,T_,F_,F_,F_] HT_ ?_
          refine one_ (i := 14) (N := some 34) #[T_,T_,T_,T_,T_,T_,T_,T_,T_,T_,T_,T_,T_,T_,T_,F_,F_] rfl rfl (one_of HT_.out (by kernel_rfl)) (by decide) (fun K hK => ?_)
          refine value_ (w1 := ?_) (v := ?_) (by rfl) rfl ?_ ?_
          rotate_left 2
          ·go_simp
           constructor
           ·rfl
           ·rfl
          refine hK.out _ _ ⟨(World.cell?_alloc_lt _ _ _ (World.block_lt_of_cell? _ _ (((HB.out.cell (World.block_lt_of_cell? w _ hw428_0)).trans hw428_0)))).trans (((HB.out.cell (World.block_lt_of_cell? w _ hw428_0)).trans hw428_0)), (World.cell?_alloc_lt _ _ _ (World.block_lt_of_cell? _ _ (((HB.out.cell (World.block_lt_of_cell? w _ hw428_1)).trans hw428_1)))).trans (((HB.out.cell (World.block_lt_of_cell? w _ hw428_1)).trans hw428_1)), (World.cell?_alloc_lt _ _ _ (World.block_lt_of_cell? _ _ (((HB.out.cell (World.block_lt_of_cell? w _ hw429_0)).trans hw429_0)))).trans (((HB.out.cell (World.block_lt_of_cell? w _ hw429_0)).trans hw429_0)), (World.cell?_alloc_lt _ _ _ (World.block_lt_of_cell? _ _ (((HB.out.cell (World.block_lt_of_cell? w _ hw429_1)).trans hw429_1)))).trans (((HB.out.cell (World.block_lt_of_cell? w _ hw429_1)).trans hw429_1))⟩ (fun hHeld => ?_)
          clear hK K
          refine norm_ (a' := ?_) ?_ ?_
          rotate_left
          ·show Act.put _ (some 34) _ = _
           simp only [Act.put, sT_, s0_, sS_, i64_w, i32_w]
           rfl
          refine one_ (i := 15) (N := some 35) #[T_,T_,T_,T_,T_,T_,T_,T_,T_,T_,T_,T_,T_,T_,T_,T_,F_] rfl rfl (one_of HT_.out (by kernel_rfl)) (by decide) (fun K hK => ?_)
          refine Kd.R_append_step k45 (w0 := w) w.heap.size (by rfl) (.tmp 20) (.tmp 34) 25 45 (.agg #[(.string ⟨#[]⟩), (.int .i64 0)]) 24 rfl Try.underlying25 info45 rfl (by decide) (by omega) v425 y424 (⟨(rd_T45 l0 a1).f0, wrap64 (((rd_T45 l0 a1).f1) - a2)⟩ : S45) [.string ((rd_T45 l0 a1).f0), .int .i64 (wrap64 (((rd_T45 l0 a1).f1) - a2))] (fun _ => True) (fun _ => False) rfl rfl ?aP (fun _ hk => hk.elim) ?aF ?aO ?aB ?aS ?aL ?_
          (case aP => exact k45_mkM _ _ _ (⟨(rd_T45 l0 a1).f0, wrap64 (((rd_T45 l0 a1).f1) - a2)⟩ : S45))
          (case aB => exact hb_)
          (case aF => exact (fun _ _ => trivial))
          (case aO => exact (kr_ HO426))
          (case aS => exact (below_size hb_))
          (case aL => have := LMc9.out; omega)
          intro v431 w19 ho hb hg hat
          rw [← Ny430.out] at ho
          have n0_ := Aside0.mk (hb)
          have n1_ := Aside0.mk (ho)
          clear HB
          clear HO426
          have HB := n0_
          have HO432 := n1_
          clear n0_ n1_
          clear ho hb hg hat
          refine hK.out _ _ ⟨((HB.out.cell (World.block_lt_of_cell? w _ hw428_0)).trans hw428_0), ((HB.out.cell (World.block_lt_of_cell? w _ hw428_1)).trans hw428_1), ((HB.out.cell (World.block_lt_of_cell? w _ hw429_0)).trans hw429_0), ((HB.out.cell (World.block_lt_of_cell? w _ hw429_1)).trans hw429_1)⟩ (fun hHeld => ?_)
          clear hK K
          refine norm_ (a' := ?_) ?_ ?_
          rotate_left
          ·show Act.put _ (some 35) _ = _
           simp only [Act.put, sT_, s0_, sS_, i64_w, i32_w]
           rfl
          refine pu (i := 16) (N := some 7) #[T_,T_,T_,T_,T_,T_,T_,T_,T_,T_,T_,T_,T_,T_,T_,T_,T_] HT_ ?_
          refine done_ (done_of HT_.out (by kernel_rfl)) ?_
          have q20 : ((ji10) : Int) ≤ ((l0.length : Int) : Int) := od_
          obtain ⟨i020, hi020, _, hsz20, _⟩ := info_parts info45
          have hroom20 : l0.length ≤ c0 := HC0.out
          have hC20 : Kd.C k45 _ (some ad427) l0.length l0 := HR0.out
          have q020 : (0 : Int) ≤ ((ji10) : Int) := od_
          have hcut20 := cut_from (P := Try.prog) 25 45 .i64 Try.underlying25 hi020 2 hsz20 (some ad427) l0.length c0 (ji10) q020 q20
          have hr20 := Kd.C_drop (m := ((ji10) : Int).toNat) (c := c0) hC20 (by omega) hroom20
          obtain ⟨A20, hA20⟩ : ∃ Az_, Az_ = (if c0 = ((ji10) : Int).toNat then (some ad427) else ((some ad427) : Option Addr).map (·.add (((ji10) : Int).toNat * 2))) := ⟨_, rfl⟩
          obtain ⟨c20, hc20⟩ : ∃ cz_, cz_ = c0 - ((ji10) : Int).toNat := ⟨_, rfl⟩
          have hy20 : y433.length = l0.length - ((ji10) : Int).toNat := (by rw [Ny433.out, List.length_drop] <;> omega)
          rw [show (l0).drop ((ji10) : Int).toNat = y433 from Ny433.out.symm] at hr20
          replace hr20 : Kd.C k45 _ A20 y433.length y433 := (by rw [hA20]; exact hr20)
          rw [← hy20, ← hA20, ← hc20] at hcut20
          have HR436 := Aside0.mk hr20
          have HC436 := Aside0.mk (show y433.length ≤ c20 from by rw [hy20, hc20]; exact Nat.sub_le_sub_right hroom20 _)
          clear hr20 hC20 hroom20 hi020 hsz20 hc20
          have KY20 := Aside0.mk hy20
          have KA20 := Aside0.mk hA20
          clear hy20 hA20
          replace q20 := eq_true q20
          try go_wp2_with (first | ((with_reducible refine gate_builtin (b := .append) (xs := #[.tmp 36, .tmp 40]) rfl ?_); at_builtin; refine Kd.R_append_rows k45 (w0 := w) w.heap.size rfl (.tmp 36) (.tmp 40) 25 45 (.agg #[(.string ⟨#[]⟩), (.int .i64 0)]) 24 rfl Try.underlying25 info45 rfl (by decide) (by omega) v431 y430 y433 _ _ _ (fun _ => True) (fun _ => False) rfl rfl ?aO ?aR (fun _ _ h => h) (fun _ h => h.elim) ?aF ?aB ?aS ?aL ?_; (case aR => exact kc_ (Kd.C_below HR436.out HB.out)); (case aB => exact hb_); (case aF => exact (fun _ _ => trivial)); (case aO => exact (kr_ HO432)); (case aS => exact (below_size hb_)); (case aL => have := LMc13.out; omega); intro v438 w21 ho hb hg hat; rw [← Ny437.out] at ho; have n0_ := Aside0.mk (hb); have n1_ := Aside0.mk (ho); clear HB; clear HO432; have HB := n0_; have HO439 := n1_; clear n0_ n1_; clear ho hb hg hat))
          go_ret
          exact ⟨_, by first | rfl | (simp [errW_none, errW_some] <;> rfl) | (simp only [← hji10]; first | rfl | (simp [errW_none, errW_some] <;> rfl)) | (simp [*, errW_none, errW_some] <;> rfl), by (with_reducible repeat (first | apply Kd.R_alloc | apply Kd.R_drewN | apply Kd.R_drew)); exact HO439.out, hb_⟩
         ·rw [if_neg c13] at H
          exact absurd H (by simp)
        ·rw [if_neg c12] at H
         exact absurd H (by simp)
       ·rw [if_neg c11] at H
        exact absurd H (by simp)
      ·rw [if_neg c9] at H
       exact absurd H (by simp)
     ·rw [if_neg c8] at H
      have c8b0 : decide (a2 < ((rd_T45 l0 a1).f1)) = false := decide_eq_false c8
      clear c8
      obtain ⟨ji22, hji22⟩ : ∃ j_ : Int, (wrap64 (a1 + 1)) = j_ := ⟨_, rfl⟩
      replace H : (if 0 ≤ (ji22) then (if (ji22) ≤ (l0.length : Int) then ((some (l0.drop ((ji22) : Int).toNat : List (S45))).bind fun y440 => (if y424.length + y440.length < 5864062014805 then (some (y424 ++ y440)) else (none))) else (none)) else (none)) = some r := by first | (rw [hji22] at H; exact H) | (simp only [hji22] at H ⊢; exact H)
      have hji22w : (IntKind.i64.wrap (a1 + 1)) = ji22 := (i64_w _).trans hji22
      by_cases c23 : 0 ≤ (ji22)
      ·rw [if_pos c23] at H
       have c23b0 := eq_true c23
       have c23b1 : decide (0 ≤ (ji22)) = true := decide_eq_true c23
       clear c23
       by_cases c24 : (ji22) ≤ (l0.length : Int)
       ·rw [if_pos c24] at H
        have c24b0 := eq_true c24
        have c24b1 : decide ((ji22) ≤ (l0.length : Int)) = true := decide_eq_true c24
        clear c24
        obtain ⟨y440, hy440⟩ : ∃ y_ : List (S45), y_ = (l0.drop ((ji22) : Int).toNat) := ⟨_, rfl⟩
        replace H : (if y424.length + y440.length < 5864062014805 then (some (y424 ++ y440)) else (none)) = some r := by first | (rw [hy440]; with_reducible exact H) | (have H2_ := (Option.bind_some _ _).symm.trans H; rw [hy440]; with_reducible exact H2_) | (have H2_ := (Option.bind_some _ _).symm.trans H; with_reducible exact H2_) | with_reducible exact H | (rw [hy440]; exact H) | exact H
        have Ny440 := Aside0.mk hy440
        clear hy440
        by_cases c25 : y424.length + y440.length < 5864062014805
        ·rw [if_pos c25] at H
         have LMc25 := Aside0.mk c25
         clear c25
         obtain ⟨y444, hy444⟩ : ∃ y_ : List (S45), y_ = (y424 ++ y440) := ⟨_, rfl⟩
         replace H : (some y444) = some r := by first | (rw [hy444]; with_reducible exact H) | (have H2_ := (Option.bind_some _ _).symm.trans H; rw [hy444]; with_reducible exact H2_) | (have H2_ := (Option.bind_some _ _).symm.trans H; with_reducible exact H2_) | with_reducible exact H | (rw [hy444]; exact H) | exact H
         have Ny444 := Aside0.mk hy444
         clear hy444
         obtain rfl := Option.some.inj H
         go_enter Try.func71, Try.ntmps71
         go_wp2_with (first | ((with_reducible refine gate_dst (N := 8) rfl ?_); refine Kd.R_lit k45 _ 45 ?hg (N := 8) ?hd (xs := ([] : List (S45))) (inner := []) (ok := fun _ => True) (okp := fun _ => True) ?hr ?hp (fun _ hk => hk) trivial (Below.refl _ _) (Nat.le_refl _) (by simp) ?_; (case hd => rfl); (case hg => rfl); (case hr => first | (go_simp; done) | (go_simp; rfl)); (case hp => exact (Reps.none _ _)); intro v418 w26 ho27 hb hg_ hnew_; clear hg_ hnew_; (first | rw [← Ny417.out] at ho27 | (simp only [Int.reduceToNat] at ho27; rw [← Ny417.out] at ho27)); have n0_ := Aside0.mk (Kd.R_lower ho27 (below_size hb_)); have n1_ := Aside0.mk (below_step hb_ hb); clear HB; have HO419 := n0_; have HB := n1_; clear n0_ n1_; clear hb ho27; have q28 : (a1 : Int) ≤ ((l0.length : Int) : Int) := od_; obtain ⟨i028, hi028, _, hsz28, _⟩ := info_parts info45; have hroom28 : l0.length ≤ c0 := HC0.out; have hC28 : Kd.C k45 _ A0 l0.length l0 := HR0.out; have hcut28 := cut_to (P := Try.prog) 25 45 .i64 Try.underlying25 hi028 A0 l0.length c0 a1 (od_) q28 hroom28; have hr28 := Kd.C_take (m := (a1 : Int).toNat) hC28 (by omega); have hy28 : y420.length = (a1 : Int).toNat := (by rw [Ny420.out, List.length_take]; omega); rw [← Ny420.out] at hr28; rw [← hy28] at hcut28; have HR423 := Aside0.mk hr28; have HC423 := Aside0.mk (show y420.length ≤ c0 from by omega); clear hr28 hC28 hroom28 hi028 hsz28; have KY28 := Aside0.mk hy28; clear hy28; replace q28 := eq_true q28) | ((with_reducible refine gate_builtin (b := .append) (xs := #[.tmp 8, .tmp 11]) rfl ?_); at_builtin; refine Kd.R_append_rows k45 (w0 := w) w.heap.size rfl (.tmp 8) (.tmp 11) 25 45 (.agg #[(.string ⟨#[]⟩), (.int .i64 0)]) 24 rfl Try.underlying25 info45 rfl (by decide) (by omega) v418 y417 y420 _ _ _ (fun _ => True) (fun _ => False) rfl rfl ?aO ?aR (fun _ _ h => h) (fun _ h => h.elim) ?aF ?aB ?aS ?aL ?_; (case aR => exact kc_ (Kd.C_below HR423.out HB.out)); (case aB => exact hb_); (case aF => exact (fun _ _ => trivial)); (case aO => exact (kr_ HO419)); (case aS => exact (below_size hb_)); (case aL => have := LMc6.out; omega); intro v425 w29 ho hb hg hat; rw [← Ny424.out] at ho; have n0_ := Aside0.mk (hb); have n1_ := Aside0.mk (ho); clear HB; clear HO419; have HB := n0_; have HO426 := n1_; clear n0_ n1_; clear ho hb hg hat; have p427 : 0 ≤ (a1 : Int) := od_; have q427 : a1 < (l0.length : Int) := od_; obtain ⟨ad427, e427, hx427_0, hx427_1⟩ := at_T45 HR0.out a1 p427 q427; cases e427; replace hx427_0 := cq_ HB hx427_0; replace hx427_1 := cq_ HB hx427_1; replace p427 := eq_true p427; replace q427 := eq_true q427; have q30 : ((ji22) : Int) ≤ ((l0.length : Int) : Int) := od_; obtain ⟨i030, hi030, _, hsz30, _⟩ := info_parts info45; have hroom30 : l0.length ≤ c0 := HC0.out; have hC30 : Kd.C k45 _ (some ad427) l0.length l0 := HR0.out; have q030 : (0 : Int) ≤ ((ji22) : Int) := od_; have hcut30 := cut_from (P := Try.prog) 25 45 .i64 Try.underlying25 hi030 2 hsz30 (some ad427) l0.length c0 (ji22) q030 q30; have hr30 := Kd.C_drop (m := ((ji22) : Int).toNat) (c := c0) hC30 (by omega) hroom30; obtain ⟨A30, hA30⟩ : ∃ Az_, Az_ = (if c0 = ((ji22) : Int).toNat then (some ad427) else ((some ad427) : Option Addr).map (·.add (((ji22) : Int).toNat * 2))) := ⟨_, rfl⟩; obtain ⟨c30, hc30⟩ : ∃ cz_, cz_ = c0 - ((ji22) : Int).toNat := ⟨_, rfl⟩; have hy30 : y440.length = l0.length - ((ji22) : Int).toNat := (by rw [Ny440.out, List.length_drop] <;> omega); rw [show (l0).drop ((ji22) : Int).toNat = y440 from Ny440.out.symm] at hr30; replace hr30 : Kd.C k45 _ A30 y440.length y440 := (by rw [hA30]; exact hr30); rw [← hy30, ← hA30, ← hc30] at hcut30; have HR443 := Aside0.mk hr30; have HC443 := Aside0.mk (show y440.length ≤ c30 from by rw [hy30, hc30]; exact Nat.sub_le_sub_right hroom30 _); clear hr30 hC30 hroom30 hi030 hsz30 hc30; have KY30 := Aside0.mk hy30; have KA30 := Aside0.mk hA30; clear hy30 hA30; replace q30 := eq_true q30) | ((with_reducible refine gate_builtin (b := .append) (xs := #[.tmp 36, .tmp 40]) rfl ?_); at_builtin; refine Kd.R_append_rows k45 (w0 := w) w.heap.size rfl (.tmp 36) (.tmp 40) 25 45 (.agg #[(.string ⟨#[]⟩), (.int .i64 0)]) 24 rfl Try.underlying25 info45 rfl (by decide) (by omega) v425 y424 y440 _ _ _ (fun _ => True) (fun _ => False) rfl rfl ?aO ?aR (fun _ _ h => h) (fun _ h => h.elim) ?aF ?aB ?aS ?aL ?_; (case aR => exact kc_ (Kd.C_below HR443.out HB.out)); (case aB => exact hb_); (case aF => exact (fun _ _ => trivial)); (case aO => exact (kr_ HO426)); (case aS => exact (below_size hb_)); (case aL => have := LMc25.out; omega); intro v445 w31 ho hb hg hat; rw [← Ny444.out] at ho; have n0_ := Aside0.mk (hb); have n1_ := Aside0.mk (ho); clear HB; clear HO426; have HB := n0_; have HO446 := n1_; clear n0_ n1_; clear ho hb hg hat))
         go_ret
         exact ⟨_, by first | rfl | (simp [errW_none, errW_some] <;> rfl) | (simp only [← hji22]; first | rfl | (simp [errW_none, errW_some] <;> rfl)) | (simp [*, errW_none, errW_some] <;> rfl), by (with_reducible repeat (first | apply Kd.R_alloc | apply Kd.R_drewN | apply Kd.R_drew)); exact HO446.out, hb_⟩
        ·rw [if_neg c25] at H
         exact absurd H (by simp)
       ·rw [if_neg c24] at H
        exact absurd H (by simp)
      ·rw [if_neg c23] at H
       exact absurd H (by simp)
    ·rw [if_neg c7] at H
     exact absurd H (by simp)
   ·rw [if_neg c6] at H
    exact absurd H (by simp)
  ·rw [if_neg c5] at H
   exact absurd H (by simp)
 ·rw [if_neg c4] at H
  exact absurd H (by simp)

/-! ### spec_CutPiece: function 40 -/
def spec_CutPiece.f (k : Nat) (l0 : List (S45)) (a1_0 : ByteArray) (a1_1 : Int) : Option ((List (S45)) × Int × Int) := (spec_l23Code.f k l0 a1_0 a1_1).bind fun t448 => (if t448 = 0 then ((spec_l23Best.f k l0 a1_0 a1_1).bind fun t449 => (if t449 < 0 then (some (([] : List (S45)), 0, 3)) else ((spec_l23Cut.f l0 t449 a1_1).bind fun t450 => (some (t450, t449, 0))))) else (some (([] : List (S45)), 0, t448)))
theorem spec_CutPiece.mono : ∀ a0 a1 a2 k, LeO (spec_CutPiece.f k a0 a1 a2) (spec_CutPiece.f (k + 1) a0 a1 a2) := by
 intro a0 a1 a2 k
 unfold spec_CutPiece.f
 repeat' first
   | (with_reducible exact spec_l23Best.mono _ _ _ _)
   | (with_reducible exact spec_l23Code.mono _ _ _ _)
   | (with_reducible exact LeO.refl _)
   | (with_reducible exact LeO.none _)
   | (with_reducible refine LeO.ite ?_ ?_)
   | (with_reducible refine LeO.bind ?_ (fun _ => ?_))
   | exact spec_l23Best.mono _ _ _ _
   | exact spec_l23Code.mono _ _ _ _
   | exact LeO.none _
   | refine LeO.ite ?_ ?_
   | refine LeO.bind ?_ (fun _ => ?_)
set_option maxHeartbeats 8000000 in
set_option maxRecDepth 100000 in
theorem spec_CutPiece.calls (k : Nat) (A0 : Option Addr) (c0 : Nat) (l0 : List (S45)) (a1_0 : ByteArray) (a1_1 : Int) (r1 : List (S45)) (r2 : Int) (r3 : Int) (w : World) (hr0 : Kd.C k45 w A0 l0.length l0) (hc0 : l0.length ≤ c0) (h : spec_CutPiece.f k l0 a1_0 a1_1 = some (r1, r2, r3)) :
  Calls Try.prog 40 #[.slice A0 l0.length c0, .agg #[.string a1_0, .int .i64 a1_1]] w fun e w' => ∃ v0_ : Value, e = .returned (.tuple #[v0_, .int .i64 r2, .int .i64 r3]) ∧ Kd.R k45 45 w' w.heap.size (fun _ => True) v0_ r1 ∧ Below w.heap.size w w' := by
 have hu55 := Try.underlying55
 have HR0 := Aside0.mk hr0
 have HC0 := Aside0.mk hc0
 clear hr0 hc0
 have HB := Aside0.mk (Below.refl w.heap.size w)
 have H : ((spec_l23Code.f k l0 a1_0 a1_1).bind fun t448 => (if t448 = 0 then ((spec_l23Best.f k l0 a1_0 a1_1).bind fun t449 => (if t449 < 0 then (some (([] : List (S45)), 0, 3)) else ((spec_l23Cut.f l0 t449 a1_1).bind fun t450 => (some (t450, t449, 0))))) else (some (([] : List (S45)), 0, t448)))) = some (r1, r2, r3) := h
 clear h
 replace H := Option.bind_eq_some_iff.mp H
 obtain ⟨t448, A30, H⟩ := H
 replace H : (if t448 = 0 then ((spec_l23Best.f k l0 a1_0 a1_1).bind fun t449 => (if t449 < 0 then (some (([] : List (S45)), 0, 3)) else ((spec_l23Cut.f l0 t449 a1_1).bind fun t450 => (some (t450, t449, 0))))) else (some (([] : List (S45)), 0, t448))) = some (r1, r2, r3) := H
 have A3 := Aside0.mk A30
 clear A30
 by_cases c4 : t448 = 0
 ·rw [if_pos c4] at H
  have c4b0 : (t448 == 0) = true := beq_iff_eq.mpr c4
  have c4b1 : (t448 != 0) = false := bne_eq_false_iff_eq.mpr c4
  clear c4
  replace H := Option.bind_eq_some_iff.mp H
  obtain ⟨t449, A50, H⟩ := H
  replace H : (if t449 < 0 then (some (([] : List (S45)), 0, 3)) else ((spec_l23Cut.f l0 t449 a1_1).bind fun t450 => (some (t450, t449, 0)))) = some (r1, r2, r3) := H
  have A5 := Aside0.mk A50
  clear A50
  by_cases c6 : t449 < 0
  ·rw [if_pos c6] at H
   have c6b0 : decide (t449 < 0) = true := decide_eq_true c6
   clear c6
   simp only [Option.some.injEq, Prod.mk.injEq] at H
   obtain ⟨rfl, rfl, rfl⟩ := H
   go_enter Try.func40, Try.ntmps40
   go_wp2_with (first | ((with_reducible refine gate_dst (N := 3) rfl ?_); refine box_event ?hg (N := 3) ?hd (cs := #[.string a1_0, .int .i64 a1_1]) (t := 55) ?hr ?_; (case hd => rfl); (case hg => rfl); (case hr => first | (go_simp; done) | (go_simp; rfl)); intro gb447 hg w7 hbox hb; have n0_ := Aside0.mk (below_step hb_ hb); have n1_ := Aside0.mk (hbox); have n2_ := Aside0.mk ((by rw [hg]; exact (below_size hb_) : w.heap.size ≤ gb447)); have n3_ := Aside0.mk ((by rw [hg]; exact (below_size hb_) : w.heap.size ≤ gb447)); clear HB; have HB := n0_; have BK447 := n1_; have GW447 := n2_; have GE447 := n3_; clear n0_ n1_ n2_ n3_; clear hb hbox hg) | ((with_reducible refine gate_callee (f := 68) rfl ?_); refine goesL_ (some 10) rfl rfl Try.func68 (by kernel_rfl) rfl #[.slice A0 l0.length c0, .pointer (some ⟨gb447, 0, none⟩)] rfl ln_ ?_; (with_reducible refine (spec_l23Code.calls k _ _ l0 _ a1_0 a1_1 t448 _ ?side1 ?side2 ?side3 ?side4 A3.out).mono ?_); (case side1 => exact kc_ (Kd.C_below HR0.out HB.out)); (case side2 => exact HC0.out); (case side3 => exact (blk_cell (cs := #[.string a1_0, .int .i64 a1_1]) (bk_ BK447) 0).trans rfl); (case side4 => exact (blk_cell (cs := #[.string a1_0, .int .i64 a1_1]) (bk_ BK447) 1).trans rfl); rintro e w8 ⟨rfl, hb⟩; refine ⟨_, rfl, ?_⟩; have n0_ := Aside0.mk (blk_below (g := gb447) (o := .cells #[.string a1_0, .int .i64 a1_1] 55 (0, 0)) (bk_ BK447) hb); have n1_ := Aside0.mk (below_step (hg_ GE447) hb); clear BK447; clear HB; have BK447 := n0_; have HB := n1_; clear n0_ n1_; (try clear hb); (try clear hb2); (try clear hk); (try clear hi)) | ((with_reducible refine gate_callee (f := 69) rfl ?_); refine goesL_ (some 15) rfl rfl Try.func69 (by kernel_rfl) rfl #[.slice A0 l0.length c0, .pointer (some ⟨gb447, 0, none⟩)] rfl ln_ ?_; (with_reducible refine (spec_l23Best.calls k _ _ l0 _ a1_0 a1_1 t449 _ ?side1 ?side2 ?side3 ?side4 A5.out).mono ?_); (case side1 => exact kc_ (Kd.C_below HR0.out HB.out)); (case side2 => exact HC0.out); (case side3 => exact (blk_cell (cs := #[.string a1_0, .int .i64 a1_1]) (bk_ BK447) 0).trans rfl); (case side4 => exact (blk_cell (cs := #[.string a1_0, .int .i64 a1_1]) (bk_ BK447) 1).trans rfl); rintro e w9 ⟨rfl, hb⟩; refine ⟨_, rfl, ?_⟩; have n0_ := Aside0.mk (blk_below (g := gb447) (o := .cells #[.string a1_0, .int .i64 a1_1] 55 (0, 0)) (bk_ BK447) hb); have n1_ := Aside0.mk (below_step (hg_ GE447) hb); clear BK447; clear HB; have BK447 := n0_; have HB := n1_; clear n0_ n1_; (try clear hb); (try clear hb2); (try clear hk); (try clear hi)))
   go_ret3
   exact ⟨_, ew_, by first | exact Kd.R_nil _ _ _ _ _ | exact Kd.N_nil _ _ _ _ _ | exact Kd.V_nil _ _ _ _ _ | exact Kd.Q_nil _ _ _ _ _ | exact Kd.S_nil _ _ _ _ _, (hg_ GE447)⟩
  ·rw [if_neg c6] at H
   have c6b0 : decide (t449 < 0) = false := decide_eq_false c6
   clear c6
   replace H := Option.bind_eq_some_iff.mp H
   obtain ⟨t450, A100, H⟩ := H
   replace H : (some (t450, t449, 0)) = some (r1, r2, r3) := H
   have A10 := Aside0.mk A100
   clear A100
   simp only [Option.some.injEq, Prod.mk.injEq] at H
   obtain ⟨rfl, rfl, rfl⟩ := H
   go_enter Try.func40, Try.ntmps40
   go_wp2_with (first | ((with_reducible refine gate_dst (N := 3) rfl ?_); refine box_event ?hg (N := 3) ?hd (cs := #[.string a1_0, .int .i64 a1_1]) (t := 55) ?hr ?_; (case hd => rfl); (case hg => rfl); (case hr => first | (go_simp; done) | (go_simp; rfl)); intro gb447 hg w11 hbox hb; have n0_ := Aside0.mk (below_step hb_ hb); have n1_ := Aside0.mk (hbox); have n2_ := Aside0.mk ((by rw [hg]; exact (below_size hb_) : w.heap.size ≤ gb447)); have n3_ := Aside0.mk ((by rw [hg]; exact (below_size hb_) : w.heap.size ≤ gb447)); clear HB; have HB := n0_; have BK447 := n1_; have GW447 := n2_; have GE447 := n3_; clear n0_ n1_ n2_ n3_; clear hb hbox hg) | ((with_reducible refine gate_callee (f := 68) rfl ?_); refine goesL_ (some 10) rfl rfl Try.func68 (by kernel_rfl) rfl #[.slice A0 l0.length c0, .pointer (some ⟨gb447, 0, none⟩)] rfl ln_ ?_; (with_reducible refine (spec_l23Code.calls k _ _ l0 _ a1_0 a1_1 t448 _ ?side1 ?side2 ?side3 ?side4 A3.out).mono ?_); (case side1 => exact kc_ (Kd.C_below HR0.out HB.out)); (case side2 => exact HC0.out); (case side3 => exact (blk_cell (cs := #[.string a1_0, .int .i64 a1_1]) (bk_ BK447) 0).trans rfl); (case side4 => exact (blk_cell (cs := #[.string a1_0, .int .i64 a1_1]) (bk_ BK447) 1).trans rfl); rintro e w12 ⟨rfl, hb⟩; refine ⟨_, rfl, ?_⟩; have n0_ := Aside0.mk (blk_below (g := gb447) (o := .cells #[.string a1_0, .int .i64 a1_1] 55 (0, 0)) (bk_ BK447) hb); have n1_ := Aside0.mk (below_step (hg_ GE447) hb); clear BK447; clear HB; have BK447 := n0_; have HB := n1_; clear n0_ n1_; (try clear hb); (try clear hb2); (try clear hk); (try clear hi)) | ((with_reducible refine gate_callee (f := 69) rfl ?_); refine goesL_ (some 15) rfl rfl Try.func69 (by kernel_rfl) rfl #[.slice A0 l0.length c0, .pointer (some ⟨gb447, 0, none⟩)] rfl ln_ ?_; (with_reducible refine (spec_l23Best.calls k _ _ l0 _ a1_0 a1_1 t449 _ ?side1 ?side2 ?side3 ?side4 A5.out).mono ?_); (case side1 => exact kc_ (Kd.C_below HR0.out HB.out)); (case side2 => exact HC0.out); (case side3 => exact (blk_cell (cs := #[.string a1_0, .int .i64 a1_1]) (bk_ BK447) 0).trans rfl); (case side4 => exact (blk_cell (cs := #[.string a1_0, .int .i64 a1_1]) (bk_ BK447) 1).trans rfl); rintro e w13 ⟨rfl, hb⟩; refine ⟨_, rfl, ?_⟩; have n0_ := Aside0.mk (blk_below (g := gb447) (o := .cells #[.string a1_0, .int .i64 a1_1] 55 (0, 0)) (bk_ BK447) hb); have n1_ := Aside0.mk (below_step (hg_ GE447) hb); clear BK447; clear HB; have BK447 := n0_; have HB := n1_; clear n0_ n1_; (try clear hb); (try clear hb2); (try clear hk); (try clear hi); have hcz14_0 : w13.cell? ⟨gb447, 0, none⟩ = some (.string a1_0) := (blk_cell BK447.out 0).trans rfl; have hcz14_1 : w13.cell? ⟨gb447, 1, none⟩ = some (.int .i64 a1_1) := (blk_cell BK447.out 1).trans rfl; have hfz14_0 := blk_frozen BK447.out 0; have hfz14_1 := blk_frozen BK447.out 1) | ((with_reducible refine gate_callee (f := 71) rfl ?_); refine goesL_ (some 22) rfl rfl Try.func71 (by kernel_rfl) rfl #[.slice A0 l0.length c0, .int .i64 t449, .int .i64 a1_1] rfl ln_ ?_; (with_reducible refine (spec_l23Cut.calls _ _ l0 t449 a1_1 t450 _ ?side1 ?side2 A10.out).mono ?_); (case side1 => exact kc_ (Kd.C_below HR0.out HB.out)); (case side2 => exact HC0.out); rintro e w15 ⟨v451, rfl, ho0, hb⟩; refine ⟨_, rfl, ?_⟩; have n0_ := Aside0.mk (Kd.R_lower ho0 (below_size (hg_ GE447))); have n1_ := Aside0.mk (blk_below (g := gb447) (o := .cells #[.string a1_0, .int .i64 a1_1] 55 (0, 0)) (bk_ BK447) hb); have n2_ := Aside0.mk (below_step (hg_ GE447) hb); clear BK447; clear HB; have HO452 := n0_; have BK447 := n1_; have HB := n2_; clear n0_ n1_ n2_; (try clear hb); (try clear hb2); (try clear hk); (try clear hi); (try clear ho0)))
   go_ret3
   exact ⟨_, ew_, by (with_reducible repeat (first | apply Kd.R_alloc | apply Kd.R_drewN | apply Kd.R_drew)); exact HO452.out, (hg_ GE447)⟩
 ·rw [if_neg c4] at H
  have c4b0 : (t448 == 0) = false := beq_eq_false_iff_ne.mpr c4
  have c4b1 : (t448 != 0) = true := bne_iff_ne.mpr c4
  simp only [Option.some.injEq, Prod.mk.injEq] at H
  obtain ⟨rfl, rfl, rfl⟩ := H
  go_enter Try.func40, Try.ntmps40
  go_wp2_with (first | ((with_reducible refine gate_dst (N := 3) rfl ?_); refine box_event ?hg (N := 3) ?hd (cs := #[.string a1_0, .int .i64 a1_1]) (t := 55) ?hr ?_; (case hd => rfl); (case hg => rfl); (case hr => first | (go_simp; done) | (go_simp; rfl)); intro gb447 hg w16 hbox hb; have n0_ := Aside0.mk (below_step hb_ hb); have n1_ := Aside0.mk (hbox); have n2_ := Aside0.mk ((by rw [hg]; exact (below_size hb_) : w.heap.size ≤ gb447)); have n3_ := Aside0.mk ((by rw [hg]; exact (below_size hb_) : w.heap.size ≤ gb447)); clear HB; have HB := n0_; have BK447 := n1_; have GW447 := n2_; have GE447 := n3_; clear n0_ n1_ n2_ n3_; clear hb hbox hg) | ((with_reducible refine gate_callee (f := 68) rfl ?_); refine goesL_ (some 10) rfl rfl Try.func68 (by kernel_rfl) rfl #[.slice A0 l0.length c0, .pointer (some ⟨gb447, 0, none⟩)] rfl ln_ ?_; (with_reducible refine (spec_l23Code.calls k _ _ l0 _ a1_0 a1_1 t448 _ ?side1 ?side2 ?side3 ?side4 A3.out).mono ?_); (case side1 => exact kc_ (Kd.C_below HR0.out HB.out)); (case side2 => exact HC0.out); (case side3 => exact (blk_cell (cs := #[.string a1_0, .int .i64 a1_1]) (bk_ BK447) 0).trans rfl); (case side4 => exact (blk_cell (cs := #[.string a1_0, .int .i64 a1_1]) (bk_ BK447) 1).trans rfl); rintro e w17 ⟨rfl, hb⟩; refine ⟨_, rfl, ?_⟩; have n0_ := Aside0.mk (blk_below (g := gb447) (o := .cells #[.string a1_0, .int .i64 a1_1] 55 (0, 0)) (bk_ BK447) hb); have n1_ := Aside0.mk (below_step (hg_ GE447) hb); clear BK447; clear HB; have BK447 := n0_; have HB := n1_; clear n0_ n1_; (try clear hb); (try clear hb2); (try clear hk); (try clear hi)))
  go_ret3
  exact ⟨_, ew_, by first | exact Kd.R_nil _ _ _ _ _ | exact Kd.N_nil _ _ _ _ _ | exact Kd.V_nil _ _ _ _ _ | exact Kd.Q_nil _ _ _ _ _ | exact Kd.S_nil _ _ _ _ _, (hg_ GE447)⟩

/-! ### impl_CutPiece: function 41 -/
def impl_CutPiece.f (k : Nat) (l0 : List (S45)) (a1_0 : ByteArray) (a1_1 : Int) : Option ((List (S45)) × Int × Int) := (impl_BestCoil.f k l0 a1_0 a1_1).bind fun bt454 => (if bt454.2 = 0 then ((some (([] : List (S45)) : List (S45))).bind fun y456 => (if y456.length + l0.length < 5864062014805 then ((some (y456 ++ l0 : List (S45))).bind fun y459 => (if 0 ≤ bt454.1 then (if bt454.1 < (y459.length : Int) then ((some (y459.set (bt454.1 : Int).toNat (⟨(rd_T45 y459 bt454.1).f0, wrap64 (((rd_T45 y459 bt454.1).f1) - a1_1)⟩ : S45) : List (S45))).bind fun y463 => (if (wrap64 (((rd_T45 y459 bt454.1).f1) - a1_1)) = 0 then (if bt454.1 ≤ (y459.length : Int) then (if 0 ≤ (wrap64 (bt454.1 + 1)) then (if (wrap64 (bt454.1 + 1)) ≤ (y459.length : Int) then (some ((y463.eraseIdx (bt454.1 : Int).toNat), bt454.1, 0)) else (none)) else (none)) else (none)) else (some (y463, bt454.1, 0)))) else (none)) else (none))) else (none))) else (some (([] : List (S45)), 0, bt454.2)))
theorem impl_CutPiece.mono : ∀ a0 a1 a2 k, LeO (impl_CutPiece.f k a0 a1 a2) (impl_CutPiece.f (k + 1) a0 a1 a2) := by
 intro a0 a1 a2 k
 unfold impl_CutPiece.f
 repeat' first
   | (with_reducible exact impl_BestCoil.mono _ _ _ _)
   | (with_reducible exact LeO.refl _)
   | (with_reducible exact LeO.none _)
   | (with_reducible refine LeO.ite ?_ ?_)
   | (with_reducible refine LeO.bind ?_ (fun _ => ?_))
   | exact impl_BestCoil.mono _ _ _ _
   | exact LeO.none _
   | refine LeO.ite ?_ ?_
   | refine LeO.bind ?_ (fun _ => ?_)
def impl_CutPiece.T5 : Bool × List (List Nat × List Nat) := (true, [([], []), ([], []), ([0, 1], [0, 1]), ([2], [2]), ([3], [3]), ([], []), ([5], [5]), ([4, 6], [4, 6]), ([0, 1, 0, 1, 2, 3, 4, 5, 6, 7], [0, 1]), ([8, 0, 1, 2, 3, 4, 5, 6, 7], [8]), ([9, 7, 0, 1, 2, 3, 4, 5, 6, 7], [7, 9])])
def impl_CutPiece.B5 : List Nat := [0, 0, 3, 7, 15, 0, 32, 127, 255, 511, 1023]
theorem impl_CutPiece.tab5 : rtab .any (opsOf Try.f41 5) = impl_CutPiece.T5 := by kernel_rfl
theorem impl_CutPiece.bits5 : waitsOk impl_CutPiece.T5.2 impl_CutPiece.B5 = true := by kernel_rfl
def impl_CutPiece.T7 : Bool × List (List Nat × List Nat) := (true, [([], []), ([], []), ([0, 1], [0, 1]), ([], []), ([], []), ([4], [4]), ([3, 5], [3, 5]), ([2, 6], [2, 6]), ([7, 7, 0, 1, 2, 3, 4, 5, 6, 7], [0, 3, 7])])
def impl_CutPiece.B7 : List Nat := [0, 0, 3, 0, 0, 16, 56, 127, 255]
theorem impl_CutPiece.tab7 : rtab .any (opsOf Try.f41 7) = impl_CutPiece.T7 := by kernel_rfl
theorem impl_CutPiece.bits7 : waitsOk impl_CutPiece.T7.2 impl_CutPiece.B7 = true := by kernel_rfl
set_option maxHeartbeats 8000000 in
set_option maxRecDepth 100000 in
theorem impl_CutPiece.calls (k : Nat) (A0 : Option Addr) (c0 : Nat) (l0 : List (S45)) (a1_0 : ByteArray) (a1_1 : Int) (r1 : List (S45)) (r2 : Int) (r3 : Int) (w : World) (hr0 : Kd.C k45 w A0 l0.length l0) (hc0 : l0.length ≤ c0) (h : impl_CutPiece.f k l0 a1_0 a1_1 = some (r1, r2, r3)) :
  Calls Try.prog 41 #[.slice A0 l0.length c0, .agg #[.string a1_0, .int .i64 a1_1]] w fun e w' => ∃ v0_ : Value, e = .returned (.tuple #[v0_, .int .i64 r2, .int .i64 r3]) ∧ Kd.R k45 45 w' w.heap.size (fun _ => True) v0_ r1 ∧ Below w.heap.size w w' := by
 have hu55 := Try.underlying55
 have HR0 := Aside0.mk hr0
 have HC0 := Aside0.mk hc0
 clear hr0 hc0
 have HB := Aside0.mk (Below.refl w.heap.size w)
 have H : ((impl_BestCoil.f k l0 a1_0 a1_1).bind fun bt454 => (if bt454.2 = 0 then ((some (([] : List (S45)) : List (S45))).bind fun y456 => (if y456.length + l0.length < 5864062014805 then ((some (y456 ++ l0 : List (S45))).bind fun y459 => (if 0 ≤ bt454.1 then (if bt454.1 < (y459.length : Int) then ((some (y459.set (bt454.1 : Int).toNat (⟨(rd_T45 y459 bt454.1).f0, wrap64 (((rd_T45 y459 bt454.1).f1) - a1_1)⟩ : S45) : List (S45))).bind fun y463 => (if (wrap64 (((rd_T45 y459 bt454.1).f1) - a1_1)) = 0 then (if bt454.1 ≤ (y459.length : Int) then (if 0 ≤ (wrap64 (bt454.1 + 1)) then (if (wrap64 (bt454.1 + 1)) ≤ (y459.length : Int) then (some ((y463.eraseIdx (bt454.1 : Int).toNat), bt454.1, 0)) else (none)) else (none)) else (none)) else (some (y463, bt454.1, 0)))) else (none)) else (none))) else (none))) else (some (([] : List (S45)), 0, bt454.2)))) = some (r1, r2, r3) := h
 clear h
 replace H := Option.bind_eq_some_iff.mp H
 obtain ⟨⟨t454, t455⟩, A30, H⟩ := H
 replace H : (if t455 = 0 then ((some (([] : List (S45)) : List (S45))).bind fun y456 => (if y456.length + l0.length < 5864062014805 then ((some (y456 ++ l0 : List (S45))).bind fun y459 => (if 0 ≤ t454 then (if t454 < (y459.length : Int) then ((some (y459.set (t454 : Int).toNat (⟨(rd_T45 y459 t454).f0, wrap64 (((rd_T45 y459 t454).f1) - a1_1)⟩ : S45) : List (S45))).bind fun y463 => (if (wrap64 (((rd_T45 y459 t454).f1) - a1_1)) = 0 then (if t454 ≤ (y459.length : Int) then (if 0 ≤ (wrap64 (t454 + 1)) then (if (wrap64 (t454 + 1)) ≤ (y459.length : Int) then (some ((y463.eraseIdx (t454 : Int).toNat), t454, 0)) else (none)) else (none)) else (none)) else (some (y463, t454, 0)))) else (none)) else (none))) else (none))) else (some (([] : List (S45)), 0, t455))) = some (r1, r2, r3) := H
 have A3 := Aside0.mk A30
 clear A30
 by_cases c4 : t455 = 0
 ·rw [if_pos c4] at H
  have c4b0 : (t455 == 0) = true := beq_iff_eq.mpr c4
  have c4b1 : (t455 != 0) = false := bne_eq_false_iff_eq.mpr c4
  clear c4
  obtain ⟨y456, hy456⟩ : ∃ y_ : List (S45), y_ = (([] : List (S45))) := ⟨_, rfl⟩
  replace H : (if y456.length + l0.length < 5864062014805 then ((some (y456 ++ l0 : List (S45))).bind fun y459 => (if 0 ≤ t454 then (if t454 < (y459.length : Int) then ((some (y459.set (t454 : Int).toNat (⟨(rd_T45 y459 t454).f0, wrap64 (((rd_T45 y459 t454).f1) - a1_1)⟩ : S45) : List (S45))).bind fun y463 => (if (wrap64 (((rd_T45 y459 t454).f1) - a1_1)) = 0 then (if t454 ≤ (y459.length : Int) then (if 0 ≤ (wrap64 (t454 + 1)) then (if (wrap64 (t454 + 1)) ≤ (y459.length : Int) then (some ((y463.eraseIdx (t454 : Int).toNat), t454, 0)) else (none)) else (none)) else (none)) else (some (y463, t454, 0)))) else (none)) else (none))) else (none)) = some (r1, r2, r3) := by first | (rw [hy456]; with_reducible exact H) | (have H2_ := (Option.bind_some _ _).symm.trans H; rw [hy456]; with_reducible exact H2_) | (have H2_ := (Option.bind_some _ _).symm.trans H; with_reducible exact H2_) | with_reducible exact H | (rw [hy456]; exact H) | exact H
  have Ny456 := Aside0.mk hy456
  clear hy456
  by_cases c5 : y456.length + l0.length < 5864062014805
  ·rw [if_pos c5] at H
   have LMc5 := Aside0.mk c5
   clear c5
   obtain ⟨y459, hy459⟩ : ∃ y_ : List (S45), y_ = (y456 ++ l0) := ⟨_, rfl⟩
   replace H : (if 0 ≤ t454 then (if t454 < (y459.length : Int) then ((some (y459.set (t454 : Int).toNat (⟨(rd_T45 y459 t454).f0, wrap64 (((rd_T45 y459 t454).f1) - a1_1)⟩ : S45) : List (S45))).bind fun y463 => (if (wrap64 (((rd_T45 y459 t454).f1) - a1_1)) = 0 then (if t454 ≤ (y459.length : Int) then (if 0 ≤ (wrap64 (t454 + 1)) then (if (wrap64 (t454 + 1)) ≤ (y459.length : Int) then (some ((y463.eraseIdx (t454 : Int).toNat), t454, 0)) else (none)) else (none)) else (none)) else (some (y463, t454, 0)))) else (none)) else (none)) = some (r1, r2, r3) := by first | (rw [hy459]; with_reducible exact H) | (have H2_ := (Option.bind_some _ _).symm.trans H; rw [hy459]; with_reducible exact H2_) | (have H2_ := (Option.bind_some _ _).symm.trans H; with_reducible exact H2_) | with_reducible exact H | (rw [hy459]; exact H) | exact H
   have Ny459 := Aside0.mk hy459
   clear hy459
   by_cases c6 : 0 ≤ t454
   ·rw [if_pos c6] at H
    have c6b0 : decide (0 ≤ t454) = true := decide_eq_true c6
    clear c6
    by_cases c7 : t454 < (y459.length : Int)
    ·rw [if_pos c7] at H
     have c7b0 : decide (t454 < (y459.length : Int)) = true := decide_eq_true c7
     clear c7
     obtain ⟨y463, hy463⟩ : ∃ y_ : List (S45), y_ = (y459.set (t454 : Int).toNat (⟨(rd_T45 y459 t454).f0, wrap64 (((rd_T45 y459 t454).f1) - a1_1)⟩ : S45)) := ⟨_, rfl⟩
     replace H : (if (wrap64 (((rd_T45 y459 t454).f1) - a1_1)) = 0 then (if t454 ≤ (y459.length : Int) then (if 0 ≤ (wrap64 (t454 + 1)) then (if (wrap64 (t454 + 1)) ≤ (y459.length : Int) then (some ((y463.eraseIdx (t454 : Int).toNat), t454, 0)) else (none)) else (none)) else (none)) else (some (y463, t454, 0))) = some (r1, r2, r3) := by first | (rw [hy463]; with_reducible exact H) | (have H2_ := (Option.bind_some _ _).symm.trans H; rw [hy463]; with_reducible exact H2_) | (have H2_ := (Option.bind_some _ _).symm.trans H; with_reducible exact H2_) | with_reducible exact H | (rw [hy463]; exact H) | exact H
     have Ny463 := Aside0.mk hy463
     clear hy463
     by_cases c10 : (wrap64 (((rd_T45 y459 t454).f1) - a1_1)) = 0
     ·rw [if_pos c10] at H
      have c10b0 : ((wrap64 (((rd_T45 y459 t454).f1) - a1_1)) == 0) = true := beq_iff_eq.mpr c10
      have c10b1 : ((wrap64 (((rd_T45 y459 t454).f1) - a1_1)) != 0) = false := bne_eq_false_iff_eq.mpr c10
      clear c10
      have c11b0 := eq_true (od_ : 0 ≤ t454)
      by_cases c12 : t454 ≤ (y459.length : Int)
      ·rw [if_pos c12] at H
       have c12b0 := eq_true c12
       have c12b1 : decide (t454 ≤ (y459.length : Int)) = true := decide_eq_true c12
       clear c12
       obtain ⟨y465, hy465⟩ : ∃ y_ : List (S45), y_ = (y463.take (t454 : Int).toNat) := ⟨_, rfl⟩
       replace H : (if 0 ≤ (wrap64 (t454 + 1)) then (if (wrap64 (t454 + 1)) ≤ (y459.length : Int) then (some ((y463.eraseIdx (t454 : Int).toNat), t454, 0)) else (none)) else (none)) = some (r1, r2, r3) := by first | (rw [hy465]; with_reducible exact H) | (have H2_ := (Option.bind_some _ _).symm.trans H; rw [hy465]; with_reducible exact H2_) | (have H2_ := (Option.bind_some _ _).symm.trans H; with_reducible exact H2_) | with_reducible exact H | (rw [hy465]; exact H) | exact H
       have Ny465 := Aside0.mk hy465
       clear hy465
       obtain ⟨ji13, hji13⟩ : ∃ j_ : Int, (wrap64 (t454 + 1)) = j_ := ⟨_, rfl⟩
       replace H : (if 0 ≤ (ji13) then (if (ji13) ≤ (y459.length : Int) then (some ((y463.eraseIdx (t454 : Int).toNat), t454, 0)) else (none)) else (none)) = some (r1, r2, r3) := by first | (rw [hji13] at H; exact H) | (simp only [hji13] at H ⊢; exact H)
       (try rw [hji13] at A3)
       have hji13w : (IntKind.i64.wrap (t454 + 1)) = ji13 := (i64_w _).trans hji13
       by_cases c14 : 0 ≤ (ji13)
       ·rw [if_pos c14] at H
        have c14b0 := eq_true c14
        have c14b1 : decide (0 ≤ (ji13)) = true := decide_eq_true c14
        clear c14
        by_cases c15 : (ji13) ≤ (y459.length : Int)
        ·rw [if_pos c15] at H
         have c15b0 := eq_true c15
         have c15b1 : decide ((ji13) ≤ (y459.length : Int)) = true := decide_eq_true c15
         clear c15
         obtain ⟨y469, hy469⟩ : ∃ y_ : List (S45), y_ = (y463.drop ((ji13) : Int).toNat) := ⟨_, rfl⟩
         replace H : (some ((y463.eraseIdx (t454 : Int).toNat), t454, 0)) = some (r1, r2, r3) := by first | (rw [hy469]; with_reducible exact H) | (have H2_ := (Option.bind_some _ _).symm.trans H; rw [hy469]; with_reducible exact H2_) | (have H2_ := (Option.bind_some _ _).symm.trans H; with_reducible exact H2_) | with_reducible exact H | (rw [hy469]; exact H) | exact H
         have Ny469 := Aside0.mk hy469
         clear hy469
         obtain ⟨y473, hy473⟩ : ∃ y_ : List (S45), y_ = (y463.eraseIdx (t454 : Int).toNat) := ⟨_, rfl⟩
         replace H : (some (y473, t454, 0)) = some (r1, r2, r3) := by first | (rw [hy473]; with_reducible exact H) | (have H2_ := (Option.bind_some _ _).symm.trans H; rw [hy473]; with_reducible exact H2_) | (have H2_ := (Option.bind_some _ _).symm.trans H; with_reducible exact H2_) | with_reducible exact H | (rw [hy473]; exact H) | exact H
         have Ny473 := Aside0.mk hy473
         clear hy473
         simp only [Option.some.injEq, Prod.mk.injEq] at H
         obtain ⟨rfl, rfl, rfl⟩ := H
         go_enter Try.func41, Try.ntmps41
         try go_wp2_with (first | ((with_reducible refine gate_dst (N := 3) rfl ?_); refine box_event ?hg (N := 3) ?hd (cs := #[.string a1_0, .int .i64 a1_1]) (t := 55) ?hr ?_; (case hd => rfl); (case hg => rfl); (case hr => first | (go_simp; done) | (go_simp; rfl)); intro gb453 hg w16 hbox hb; have n0_ := Aside0.mk (below_step hb_ hb); have n1_ := Aside0.mk (hbox); have n2_ := Aside0.mk ((by rw [hg]; exact (below_size hb_) : w.heap.size ≤ gb453)); have n3_ := Aside0.mk ((by rw [hg]; exact (below_size hb_) : w.heap.size ≤ gb453)); clear HB; have HB := n0_; have BK453 := n1_; have GW453 := n2_; have GE453 := n3_; clear n0_ n1_ n2_ n3_; clear hb hbox hg; have hcz17_0 : w16.cell? ⟨gb453, 0, none⟩ = some (.string a1_0) := (blk_cell BK453.out 0).trans rfl; have hcz17_1 : w16.cell? ⟨gb453, 1, none⟩ = some (.int .i64 a1_1) := (blk_cell BK453.out 1).trans rfl; have hfz17_0 := blk_frozen BK453.out 0; have hfz17_1 := blk_frozen BK453.out 1) | ((with_reducible refine gate_callee (f := 39) rfl ?_); refine goesL_ (some 13) rfl rfl Try.func39 (by kernel_rfl) rfl #[.slice A0 l0.length c0, .agg #[.string a1_0, .int .i64 a1_1]] rfl ln_ ?_; (with_reducible refine (impl_BestCoil.calls k _ _ l0 a1_0 a1_1 t454 t455 _ ?side1 ?side2 A3.out).mono ?_); (case side1 => exact kc_ (Kd.C_below HR0.out HB.out)); (case side2 => exact HC0.out); rintro e w18 ⟨rfl, hb⟩; refine ⟨_, rfl, ?_⟩; have n0_ := Aside0.mk (blk_below (g := gb453) (o := .cells #[.string a1_0, .int .i64 a1_1] 55 (0, 0)) (bk_ BK453) hb); have n1_ := Aside0.mk (below_step (hg_ GE453) hb); clear BK453; clear HB; have BK453 := n0_; have HB := n1_; clear n0_ n1_; (try clear hb); (try clear hb2); (try clear hk); (try clear hi)) | ((with_reducible refine gate_dst (N := 19) rfl ?_); refine Kd.R_lit k45 _ 45 ?hg (N := 19) ?hd (xs := ([] : List (S45))) (inner := []) (ok := fun _ => True) (okp := fun _ => True) ?hr ?hp (fun _ hk => hk) trivial (Below.refl _ _) (Nat.le_refl _) (by simp) ?_; (case hd => rfl); (case hg => rfl); (case hr => first | (go_simp; done) | (go_simp; rfl)); (case hp => exact (Reps.none _ _)); intro v457 w19 ho20 hb hg_ hnew_; clear hg_ hnew_; (first | rw [← Ny456.out] at ho20 | (simp only [Int.reduceToNat] at ho20; rw [← Ny456.out] at ho20)); have n0_ := Aside0.mk (Kd.R_lower ho20 (below_size (hg_ GE453))); have n1_ := Aside0.mk (blk_below (g := gb453) (o := .cells #[.string a1_0, .int .i64 a1_1] 55 (0, 0)) (bk_ BK453) hb); have n2_ := Aside0.mk (below_step (hg_ GE453) hb); clear BK453; clear HB; have HO458 := n0_; have BK453 := n1_; have HB := n2_; clear n0_ n1_ n2_; clear hb ho20) | ((with_reducible refine gate_builtin (b := .append) (xs := #[.tmp 19, .tmp 20]) rfl ?_); at_builtin; refine Kd.R_append_rows k45 (w0 := w) w.heap.size rfl (.tmp 19) (.tmp 20) 25 45 (.agg #[(.string ⟨#[]⟩), (.int .i64 0)]) 24 rfl Try.underlying25 info45 rfl (by decide) (by omega) v457 y456 l0 _ _ _ (fun _ => True) (fun _ => False) rfl rfl ?aO ?aR (fun _ _ h => h) (fun _ h => h.elim) ?aF ?aB ?aS ?aL ?_; (case aR => exact kc_ (Kd.C_below HR0.out HB.out)); (case aB => exact (hg_ GE453)); (case aF => exact (fun _ _ => trivial)); (case aO => exact (kr_ HO458)); (case aS => exact (below_size (hg_ GE453))); (case aL => have := LMc5.out; omega); intro v460 w21 ho hb hg hat; rw [← Ny459.out] at ho; have n0_ := Aside0.mk (blk_grown (g := gb453) (o := .cells #[.string a1_0, .int .i64 a1_1] 55 (0, 0)) (bk_ BK453) hg (Kd.R_ne HO458.out BK453.out (by decide))); have n1_ := Aside0.mk (hb); have n2_ := Aside0.mk (ho); clear BK453; clear HB; clear HO458; have BK453 := n0_; have HB := n1_; have HO461 := n2_; clear n0_ n1_ n2_; clear ho hb hg hat))
         have n0_ := Aside0.mk (Kd.R_drew HO461.out)
         have n1_ := Aside0.mk (blk_drew BK453.out)
         have n2_ := Aside0.mk (below_drew1 HB.out)
         clear HO461
         clear BK453
         clear HB
         have HO461 := n0_
         have BK453 := n1_
         have HB := n2_
         clear n0_ n1_ n2_
         obtain ⟨Ao23, co23, eo23⟩ := Kd.R_slice HO461.out
         (first | subst eo23 | (injection eo23 with f1_ f2_ f3_; have f4_ := f1_.symm; have f5_ := f3_.symm; clear f1_ f2_ f3_; subst f4_; subst f5_))
         have p462 : 0 ≤ (t454 : Int) := od_
         have q462 : t454 < (y459.length : Int) := od_
         obtain ⟨ad462, e462, hx462_0, hx462_1⟩ := at_T45 (Kd.R_reads' HO461.out).2.2 t454 p462 q462
         cases e462
         replace p462 := eq_true p462
         replace q462 := eq_true q462
         have p8 : 0 ≤ (t454 : Int) := od_
         have q8 : (t454 : Int) < ((y459.length : Int) : Int) := od_
         obtain ⟨go8, co8, eo8, gb8, gl8, cl8, HG8⟩ := Kd.R_form HO461.out (by omega)
         (first | cases eo8 | (injection eo8 with ea_ en_ ec_; (first | subst ea_ | (injection ea_ with ea_; subst ea_)); subst ec_; clear en_))
         have GB8 := Aside0.mk gb8
         have GG8 := Aside0.mk HG8
         clear gb8 gl8 HG8
         (first | simp only [add_plain] at hx462_0 | skip)
         (first | simp only [add_plain] at hx462_1 | skip)
         obtain ⟨ce8, hcl8, hM8, hcc8, hfr8⟩ := Kd.R_elem HO461.out z45 (t454 : Int) p8 q8
         obtain rfl := k45_openM hM8
         have hx8_0 : World.cell? _ ⟨go8, (t454 : Int).toNat * 2, none⟩ = some (.string ((rd_T45 y459 t454).f0)) := hcc8 0 _ rfl
         have hx8_1 : World.cell? _ ⟨go8, (t454 : Int).toNat * 2 + 1, none⟩ = some (.int .i64 ((rd_T45 y459 t454).f1)) := hcc8 1 _ rfl
         have hf8_0 : World.frozen? _ ⟨go8, (t454 : Int).toNat * 2, none⟩ = false := hfr8 0
         have hf8_1 : World.frozen? _ ⟨go8, (t454 : Int).toNat * 2 + 1, none⟩ = false := hfr8 1
         clear hcl8 hcc8 hfr8 hM8
         replace p8 := eq_true p8
         replace q8 := eq_true q8
         obtain ⟨ce24, hcl24, hM24, hcc24, hfr24⟩ := Kd.R_elem HO461.out z45 (t454 : Int) (od_) (by have h_ : (t454 : Int) < ((y459.length : Int) : Int) := od_; first | exact h_ | (have e_ := (Kd.R_reads' HO461.out).1; omega) | simpa using h_)
         obtain rfl := k45_openM hM24
         have HP24 := (Kd.R_seg HO461.out (t454 : Int) (od_) (by have h_ : (t454 : Int) < ((y459.length : Int) : Int) := od_; first | exact h_ | (have e_ := (Kd.R_reads' HO461.out).1; omega) | simpa using h_) (seg := [.int .i64 (wrap64 (((rd_T45 y459 t454).f1) - a1_1))]) (j := 1) hcl24 hcc24 (show 2 ≤ 2 from by decide) (x' := (⟨(rd_T45 y459 t454).f0, wrap64 (((rd_T45 y459 t454).f1) - a1_1)⟩ : S45)) (k45_mkM _ _ _ (⟨(rd_T45 y459 t454).f0, wrap64 (((rd_T45 y459 t454).f1) - a1_1)⟩ : S45) ) (fun _ hk => hk)).1
         rw [← Ny463.out] at HP24
         have HQ24 := Aside0.mk HP24
         clear hcl24 hcc24 hfr24 hM24 HP24
         refine start_ (n := 11) (S := fun w' => w'.cell? ⟨gb453, 0, none⟩ = some (.string a1_0) ∧ w'.cell? ⟨gb453, 1, none⟩ = some (.int .i64 a1_1) ∧ w'.cell? ⟨go8, ((t454).toNat * 2), none⟩ = some (.string ((rd_T45 y459 t454).f0)) ∧ w'.cell? ⟨go8, ((t454).toNat * 2) + 1, none⟩ = some (.int .i64 ((rd_T45 y459 t454).f1))) (ds := [10]) #[F_,F_,F_,F_,F_,F_,F_,F_,F_,F_,F_] (by kernel_rfl) rfl rfl ⟨(blk_cell BK453.out 0).trans rfl, (blk_cell BK453.out 1).trans rfl, hx462_0, hx462_1⟩ (fun hHeld => ?_); refine with_tabW impl_CutPiece.tab5 impl_CutPiece.bits5 (fun HT_ HW_ => ?_)
         generalize w21.drew = w22 at HO461 BK453 HB GG8 HQ24 hf8_0 hf8_1 hx462_0 hx462_1 hx8_0 hx8_1 hHeld ⊢
         refine pu (i := 0) (N := some 22) #[T_,F_,F_,F_,F_,F_,F_,F_,F_,F_,F_] HT_ ?_
         refine pu (i := 1) (N := some 23) #[T_,T_,F_,F_,F_,F_,F_,F_,F_,F_,F_] HT_ ?_
         refine pu (i := 2) (N := some 24) #[T_,T_,T_,F_,F_,F_,F_,F_,F_,F_,F_] HT_ ?_
         refine pu (i := 3) (N := some 25) #[T_,T_,T_,T_,F_,F_,F_,F_,F_,F_,F_] HT_ ?_
         refine pu (i := 5) (N := some 27) #[T_,T_,T_,T_,F_,T_,F_,F_,F_,F_,F_] HT_ ?_
         refine take_ (i := 4) (N := some 26) (v := ?_) (a' := ?_) #[T_,T_,T_,T_,T_,T_,F_,F_,F_,F_,F_] rfl rfl (take_ofW HT_.out HW_.out (by kernel_rfl)) (fun _ _ _ h => h) (Or.inl ⟨by rfl, ?_⟩) hHeld ?_ ?_
         rotate_left
         ·rintro w' ⟨s0, s1, s2, s3⟩
          go_simp
          with_reducible rfl
         rotate_left
         ·simp only [Act.put, sT_, s0_, sS_, i64_w, i32_w]
          rfl
         refine take_ (i := 6) (N := some 28) (v := ?_) (a' := ?_) #[T_,T_,T_,T_,T_,T_,T_,F_,F_,F_,F_] rfl rfl (take_ofW HT_.out HW_.out (by kernel_rfl)) (fun _ _ _ h => h) (Or.inl ⟨by rfl, ?_⟩) hHeld ?_ ?_
         rotate_left
         ·rintro w' ⟨s0, s1, s2, s3⟩
          go_simp
          with_reducible rfl
         rotate_left
         ·simp only [Act.put, sT_, s0_, sS_, i64_w, i32_w]
          rfl
         refine pu (i := 7) (N := some 29) #[T_,T_,T_,T_,T_,T_,T_,T_,F_,F_,F_] HT_ ?_
         refine pu (i := 8) (N := some 30) #[T_,T_,T_,T_,T_,T_,T_,T_,T_,F_,F_] HT_ ?_
         refine pu (i := 9) (N := some 31) #[T_,T_,T_,T_,T_,T_,T_,T_,T_,T_,F_] HT_ ?_
         refine last_ (i := 10) (N := none) #[T_,T_,T_,T_,T_,T_,T_,T_,T_,T_,T_] rfl rfl (one_of HT_.out (by kernel_rfl)) (by decide) (fun K hK => ?_)
         refine skip_ (w1 := ?_) (by rfl) rfl ?_ ?_
         rotate_left
         ·go_simp
          rfl
         refine hK.out _ _ ?_
         clear hK K
         refine done_ (done_of HT_.out (by kernel_rfl)) ?_
         have p9 : 0 ≤ (t454 : Int) := od_
         have q9 : (t454 : Int) < ((y459.length : Int) : Int) := od_
         replace p9 := eq_true p9
         replace q9 := eq_true q9
         try go_wp2
         have n0_ : Aside0 (Kd.R k45 45 (w22.setCell ⟨go8, (t454 : Int).toNat * 2 + 1, none⟩ (.int .i64 (wrap64 (((rd_T45 y459 t454).f1) - a1_1)))) w.heap.size (fun _ => True) (.slice (some ⟨go8, 0, none⟩) y459.length co23) y463) := ⟨by (with_reducible repeat (first | apply Kd.R_alloc | apply Kd.R_drewN | apply Kd.R_drew)); exact HQ24.out⟩
         have n1_ : Aside0 ((w22.setCell ⟨go8, (t454 : Int).toNat * 2 + 1, none⟩ (.int .i64 (wrap64 (((rd_T45 y459 t454).f1) - a1_1)))).heap[gb453]? = some (.cells #[.string a1_0, .int .i64 a1_1] 55 (0, 0))) := ⟨by (with_reducible repeat (first | refine blk_drewN ?_ _ | refine blk_drew ?_ | refine blk_alloc ?_ _)); refine blk_far ?_ (by have h_ := Kd.R_ne HO461.out BK453.out (by decide); intro e_; exact h_ (by rw [e_]; rfl)) _; (with_reducible repeat (first | refine blk_drewN ?_ _ | refine blk_drew ?_ | refine blk_alloc ?_ _)); exact BK453.out⟩
         have n2_ : Aside0 (Below w.heap.size w (w22.setCell ⟨go8, (t454 : Int).toNat * 2 + 1, none⟩ (.int .i64 (wrap64 (((rd_T45 y459 t454).f1) - a1_1))))) := ⟨(hg2_ GB8 GE453)⟩
         (try clear HO461)
         (try clear BK453)
         (try clear HB)
         generalize (w22.setCell ⟨go8, (t454 : Int).toNat * 2 + 1, none⟩ (.int .i64 (wrap64 (((rd_T45 y459 t454).f1) - a1_1)))) = w25 at n0_ n1_ n2_ ⊢
         have HO461 := n0_
         have BK453 := n1_
         have HB := n2_
         clear n0_ n1_ n2_
         have n0_ := Aside0.mk (Kd.R_drew HO461.out)
         have n1_ := Aside0.mk (blk_drew BK453.out)
         have n2_ := Aside0.mk (below_drew1 HB.out)
         clear HO461
         clear BK453
         clear HB
         have HO461 := n0_
         have BK453 := n1_
         have HB := n2_
         clear n0_ n1_ n2_
         have hlx27 := (Kd.R_reads' HO461.out).1
         have q27 : (t454 : Int) ≤ ((y459.length : Int) : Int) := od_
         obtain ⟨i027, hi027, _, hsz27, _⟩ := info_parts info45
         have hroom27 : y459.length ≤ co23 := (Kd.R_reads' HO461.out).2.1
         have hroomc27 : y463.length ≤ co23 := (by rw [← hlx27]; exact hroom27)
         have hC27 : Kd.C k45 _ (some ⟨go8, 0, none⟩) y463.length y463 := (Kd.R_reads' HO461.out).2.2
         have hcut27 := cut_to (P := Try.prog) 25 45 .i64 Try.underlying25 hi027 (some ⟨go8, 0, none⟩) y459.length co23 t454 (od_) q27 hroom27
         have hr27 := Kd.C_take (m := (t454 : Int).toNat) hC27 (by omega)
         have hy27 : y465.length = (t454 : Int).toNat := (by rw [Ny465.out, List.length_take]; omega)
         rw [← Ny465.out] at hr27
         rw [← hy27] at hcut27
         have HR468 := Aside0.mk hr27
         have HC468 := Aside0.mk (show y465.length ≤ co23 from by omega)
         clear hr27 hC27 hroom27 hi027 hsz27 hroomc27
         have KY27 := Aside0.mk hy27
         clear hy27
         have KE27 := Aside0.mk hlx27
         have KL27 := Aside0.mk (show (t454 : Int).toNat ≤ y463.length from by omega)
         clear hlx27
         replace q27 := eq_true q27
         have hlx28 := (Kd.R_reads' HO461.out).1
         have q28 : ((ji13) : Int) ≤ ((y459.length : Int) : Int) := od_
         obtain ⟨i028, hi028, _, hsz28, _⟩ := info_parts info45
         have hroom28 : y459.length ≤ co23 := (Kd.R_reads' HO461.out).2.1
         have hroomc28 : y463.length ≤ co23 := (by rw [← hlx28]; exact hroom28)
         have hC28 : Kd.C k45 _ (some ⟨go8, 0, none⟩) y463.length y463 := (Kd.R_reads' HO461.out).2.2
         have q028 : (0 : Int) ≤ ((ji13) : Int) := od_
         have hcut28 := cut_from (P := Try.prog) 25 45 .i64 Try.underlying25 hi028 2 hsz28 (some ⟨go8, 0, none⟩) y459.length co23 (ji13) q028 q28
         have hr28 := Kd.C_drop (m := ((ji13) : Int).toNat) (c := co23) hC28 (by omega) hroomc28
         obtain ⟨A28, hA28⟩ : ∃ Az_, Az_ = (if co23 = ((ji13) : Int).toNat then (some ⟨go8, 0, none⟩) else ((some ⟨go8, 0, none⟩) : Option Addr).map (·.add (((ji13) : Int).toNat * 2))) := ⟨_, rfl⟩
         obtain ⟨c28, hc28⟩ : ∃ cz_, cz_ = co23 - ((ji13) : Int).toNat := ⟨_, rfl⟩
         have hy28 : y469.length = y459.length - ((ji13) : Int).toNat := (by rw [Ny469.out, List.length_drop] <;> omega)
         rw [show (y463).drop ((ji13) : Int).toNat = y469 from Ny469.out.symm] at hr28
         replace hr28 : Kd.C k45 _ A28 y469.length y469 := (by rw [hA28]; exact hr28)
         rw [← hy28, ← hA28, ← hc28] at hcut28
         have HR472 := Aside0.mk hr28
         have HC472 := Aside0.mk (show y469.length ≤ c28 from by rw [hy28, hc28]; exact Nat.sub_le_sub_right hroom28 _)
         clear hr28 hC28 hroom28 hi028 hsz28 hc28 hroomc28
         have KY28 := Aside0.mk hy28
         have KA28 := Aside0.mk hA28
         clear hy28 hA28
         have KE28 := Aside0.mk hlx28
         have KL28 := Aside0.mk (show ((ji13) : Int).toNat ≤ y463.length from by omega)
         clear hlx28
         replace q28 := eq_true q28
         refine start_ (n := 9) (S := fun w' => True) (ds := []) #[F_,F_,F_,F_,F_,F_,F_,F_,F_] (by kernel_rfl) rfl rfl trivial (fun hHeld => ?_); refine with_tabW impl_CutPiece.tab7 impl_CutPiece.bits7 (fun HT_ HW_ => ?_)
         generalize w25.drew = w26 at HO461 BK453 HB HQ24 HR468 HR472 hHeld ⊢
         refine pu (i := 0) (N := some 38) #[T_,F_,F_,F_,F_,F_,F_,F_,F_] HT_ ?_
         refine pu (i := 1) (N := some 39) #[T_,T_,F_,F_,F_,F_,F_,F_,F_] HT_ ?_
         refine pu (i := 2) (N := some 40) #[T_,T_,T_,F_,F_,F_,F_,F_,F_] HT_ ?_
         refine pu (i := 3) (N := some 41) #[T_,T_,T_,T_,F_,F_,F_,F_,F_] HT_ ?_
         refine pu (i := 4) (N := some 42) #[T_,T_,T_,T_,T_,F_,F_,F_,F_] HT_ ?_
         refine pu (i := 5) (N := some 43) #[T_,T_,T_,T_,T_,T_,F_,F_,F_] HT_ ?_
         refine pu (i := 6) (N := some 44) #[T_,T_,T_,T_,T_,T_,T_,F_,F_] HT_ ?_
         refine one_ (i := 7) (N := some 45) #[T_,T_,T_,T_,T_,T_,T_,T_,F_] rfl rfl (one_of HT_.out (by kernel_rfl)) (by decide) (fun K hK => ?_)
         have hj_ : 0 ≤ (t454 : Int) := od_
         have hl_ : (ji13 : Int) ≤ (y459.length : Int) := od_
         have hh_ : (t454 : Int) ≤ (y459.length : Int) := od_
         have hb_ := (Kd.R_reads' HO461.out).2.2.2.1
         have h0_ : (0 : Int) ≤ (ji13 : Int) := od_
         have hy1_ := KY27.out
         have hk_ : (ji13 : Int).toNat = y465.length + 1 := (by have hw_ : (ji13 : Int) = t454 + 1 := (by have h00_ := h0_; (try have hz456_ := congrArg List.length Ny456.out); (try rw [List.length_set] at hz456_); (try have hz459_ := congrArg List.length Ny459.out); (try rw [List.length_set] at hz459_); (try have hz463_ := congrArg List.length Ny463.out); (try rw [List.length_set] at hz463_); (try have hz465_ := congrArg List.length Ny465.out); (try rw [List.length_set] at hz465_); (try have hz469_ := congrArg List.length Ny469.out); (try rw [List.length_set] at hz469_); (try have hz473_ := congrArg List.length Ny473.out); (try rw [List.length_set] at hz473_); rw [← hji13] at h00_ ⊢; unfold wrap64 at h00_ ⊢; omega); rw [hw_]; omega)
         refine Kd.R_delete_step k45 (w0 := w) w.heap.size (by rfl) (.tmp 40) (.tmp 44) 25 45 rfl Try.underlying25 (by kernel_rfl) (g := go8) (n := y459.length) (c := co23) (k := y465.length) rfl rfl ?hA ?hm (kr_ HO461) ?hk (hg_ GE453) (below_size (hg_ GE453)) ?_
         (case hA => have ha_ := KA28.out; rw [hk_] at ha_; exact ha_)
         (case hm => have ha_ := KY28.out; omega)
         (case hk => omega)
         intro w29 ho hb hg
         clear hj_ hl_ hh_ hb_ hk_ h0_
         rw [hy1_, ← Ny473.out] at ho
         clear hy1_
         have hn_ : y459.length - 1 = y473.length := (by have := (Kd.R_reads' ho).1; omega)
         rw [hn_] at ho ⊢
         clear hn_
         have n0_ := Aside0.mk (blk_grown (g := gb453) (o := .cells #[.string a1_0, .int .i64 a1_1] 55 (0, 0)) (bk_ BK453) hg (Kd.R_ne HO461.out BK453.out (by decide)))
         have n1_ := Aside0.mk (ho)
         have n2_ := Aside0.mk (hb)
         clear BK453
         clear HO461
         clear HB
         have BK453 := n0_
         have HO461 := n1_
         have HB := n2_
         clear n0_ n1_ n2_
         clear ho hb hg
         refine hK.out _ _ trivial (fun hHeld => ?_)
         clear hK K
         refine norm_ (a' := ?_) ?_ ?_
         rotate_left
         ·show Act.put _ (some 45) _ = _
          simp only [Act.put, sT_, s0_, sS_, i64_w, i32_w]
          rfl
         refine pu (i := 8) (N := some 9) #[T_,T_,T_,T_,T_,T_,T_,T_,T_] HT_ ?_
         refine done_ (done_of HT_.out (by kernel_rfl)) ?_
         try go_wp2
         go_ret3
         exact ⟨_, by first | rfl | (simp [errW_none, errW_some] <;> rfl) | (simp only [← hji13]; first | rfl | (simp [errW_none, errW_some] <;> rfl)) | (simp [*, errW_none, errW_some] <;> rfl), by (with_reducible repeat (first | apply Kd.R_alloc | apply Kd.R_drewN | apply Kd.R_drew)); exact HO461.out, (hg_ GE453)⟩
        ·rw [if_neg c15] at H
         exact absurd H (by simp)
       ·rw [if_neg c14] at H
        exact absurd H (by simp)
      ·rw [if_neg c12] at H
       exact absurd H (by simp)
     ·rw [if_neg c10] at H
      have c10b0 : ((wrap64 (((rd_T45 y459 t454).f1) - a1_1)) == 0) = false := beq_eq_false_iff_ne.mpr c10
      have c10b1 : ((wrap64 (((rd_T45 y459 t454).f1) - a1_1)) != 0) = true := bne_iff_ne.mpr c10
      simp only [Option.some.injEq, Prod.mk.injEq] at H
      obtain ⟨rfl, rfl, rfl⟩ := H
      go_enter Try.func41, Try.ntmps41
      try go_wp2_with (first | ((with_reducible refine gate_dst (N := 3) rfl ?_); refine box_event ?hg (N := 3) ?hd (cs := #[.string a1_0, .int .i64 a1_1]) (t := 55) ?hr ?_; (case hd => rfl); (case hg => rfl); (case hr => first | (go_simp; done) | (go_simp; rfl)); intro gb453 hg w31 hbox hb; have n0_ := Aside0.mk (below_step hb_ hb); have n1_ := Aside0.mk (hbox); have n2_ := Aside0.mk ((by rw [hg]; exact (below_size hb_) : w.heap.size ≤ gb453)); have n3_ := Aside0.mk ((by rw [hg]; exact (below_size hb_) : w.heap.size ≤ gb453)); clear HB; have HB := n0_; have BK453 := n1_; have GW453 := n2_; have GE453 := n3_; clear n0_ n1_ n2_ n3_; clear hb hbox hg; have hcz32_0 : w31.cell? ⟨gb453, 0, none⟩ = some (.string a1_0) := (blk_cell BK453.out 0).trans rfl; have hcz32_1 : w31.cell? ⟨gb453, 1, none⟩ = some (.int .i64 a1_1) := (blk_cell BK453.out 1).trans rfl; have hfz32_0 := blk_frozen BK453.out 0; have hfz32_1 := blk_frozen BK453.out 1) | ((with_reducible refine gate_callee (f := 39) rfl ?_); refine goesL_ (some 13) rfl rfl Try.func39 (by kernel_rfl) rfl #[.slice A0 l0.length c0, .agg #[.string a1_0, .int .i64 a1_1]] rfl ln_ ?_; (with_reducible refine (impl_BestCoil.calls k _ _ l0 a1_0 a1_1 t454 t455 _ ?side1 ?side2 A3.out).mono ?_); (case side1 => exact kc_ (Kd.C_below HR0.out HB.out)); (case side2 => exact HC0.out); rintro e w33 ⟨rfl, hb⟩; refine ⟨_, rfl, ?_⟩; have n0_ := Aside0.mk (blk_below (g := gb453) (o := .cells #[.string a1_0, .int .i64 a1_1] 55 (0, 0)) (bk_ BK453) hb); have n1_ := Aside0.mk (below_step (hg_ GE453) hb); clear BK453; clear HB; have BK453 := n0_; have HB := n1_; clear n0_ n1_; (try clear hb); (try clear hb2); (try clear hk); (try clear hi)) | ((with_reducible refine gate_dst (N := 19) rfl ?_); refine Kd.R_lit k45 _ 45 ?hg (N := 19) ?hd (xs := ([] : List (S45))) (inner := []) (ok := fun _ => True) (okp := fun _ => True) ?hr ?hp (fun _ hk => hk) trivial (Below.refl _ _) (Nat.le_refl _) (by simp) ?_; (case hd => rfl); (case hg => rfl); (case hr => first | (go_simp; done) | (go_simp; rfl)); (case hp => exact (Reps.none _ _)); intro v457 w34 ho35 hb hg_ hnew_; clear hg_ hnew_; (first | rw [← Ny456.out] at ho35 | (simp only [Int.reduceToNat] at ho35; rw [← Ny456.out] at ho35)); have n0_ := Aside0.mk (Kd.R_lower ho35 (below_size (hg_ GE453))); have n1_ := Aside0.mk (blk_below (g := gb453) (o := .cells #[.string a1_0, .int .i64 a1_1] 55 (0, 0)) (bk_ BK453) hb); have n2_ := Aside0.mk (below_step (hg_ GE453) hb); clear BK453; clear HB; have HO458 := n0_; have BK453 := n1_; have HB := n2_; clear n0_ n1_ n2_; clear hb ho35) | ((with_reducible refine gate_builtin (b := .append) (xs := #[.tmp 19, .tmp 20]) rfl ?_); at_builtin; refine Kd.R_append_rows k45 (w0 := w) w.heap.size rfl (.tmp 19) (.tmp 20) 25 45 (.agg #[(.string ⟨#[]⟩), (.int .i64 0)]) 24 rfl Try.underlying25 info45 rfl (by decide) (by omega) v457 y456 l0 _ _ _ (fun _ => True) (fun _ => False) rfl rfl ?aO ?aR (fun _ _ h => h) (fun _ h => h.elim) ?aF ?aB ?aS ?aL ?_; (case aR => exact kc_ (Kd.C_below HR0.out HB.out)); (case aB => exact (hg_ GE453)); (case aF => exact (fun _ _ => trivial)); (case aO => exact (kr_ HO458)); (case aS => exact (below_size (hg_ GE453))); (case aL => have := LMc5.out; omega); intro v460 w36 ho hb hg hat; rw [← Ny459.out] at ho; have n0_ := Aside0.mk (blk_grown (g := gb453) (o := .cells #[.string a1_0, .int .i64 a1_1] 55 (0, 0)) (bk_ BK453) hg (Kd.R_ne HO458.out BK453.out (by decide))); have n1_ := Aside0.mk (hb); have n2_ := Aside0.mk (ho); clear BK453; clear HB; clear HO458; have BK453 := n0_; have HB := n1_; have HO461 := n2_; clear n0_ n1_ n2_; clear ho hb hg hat))
      have n0_ := Aside0.mk (Kd.R_drew HO461.out)
      have n1_ := Aside0.mk (blk_drew BK453.out)
      have n2_ := Aside0.mk (below_drew1 HB.out)
      clear HO461
      clear BK453
      clear HB
      have HO461 := n0_
      have BK453 := n1_
      have HB := n2_
      clear n0_ n1_ n2_
      obtain ⟨Ao38, co38, eo38⟩ := Kd.R_slice HO461.out
      (first | subst eo38 | (injection eo38 with f1_ f2_ f3_; have f4_ := f1_.symm; have f5_ := f3_.symm; clear f1_ f2_ f3_; subst f4_; subst f5_))
      have p462 : 0 ≤ (t454 : Int) := od_
      have q462 : t454 < (y459.length : Int) := od_
      obtain ⟨ad462, e462, hx462_0, hx462_1⟩ := at_T45 (Kd.R_reads' HO461.out).2.2 t454 p462 q462
      cases e462
      replace p462 := eq_true p462
      replace q462 := eq_true q462
      have p8 : 0 ≤ (t454 : Int) := od_
      have q8 : (t454 : Int) < ((y459.length : Int) : Int) := od_
      obtain ⟨go8, co8, eo8, gb8, gl8, cl8, HG8⟩ := Kd.R_form HO461.out (by omega)
      (first | cases eo8 | (injection eo8 with ea_ en_ ec_; (first | subst ea_ | (injection ea_ with ea_; subst ea_)); subst ec_; clear en_))
      have GB8 := Aside0.mk gb8
      have GG8 := Aside0.mk HG8
      clear gb8 gl8 HG8
      (first | simp only [add_plain] at hx462_0 | skip)
      (first | simp only [add_plain] at hx462_1 | skip)
      obtain ⟨ce8, hcl8, hM8, hcc8, hfr8⟩ := Kd.R_elem HO461.out z45 (t454 : Int) p8 q8
      obtain rfl := k45_openM hM8
      have hx8_0 : World.cell? _ ⟨go8, (t454 : Int).toNat * 2, none⟩ = some (.string ((rd_T45 y459 t454).f0)) := hcc8 0 _ rfl
      have hx8_1 : World.cell? _ ⟨go8, (t454 : Int).toNat * 2 + 1, none⟩ = some (.int .i64 ((rd_T45 y459 t454).f1)) := hcc8 1 _ rfl
      have hf8_0 : World.frozen? _ ⟨go8, (t454 : Int).toNat * 2, none⟩ = false := hfr8 0
      have hf8_1 : World.frozen? _ ⟨go8, (t454 : Int).toNat * 2 + 1, none⟩ = false := hfr8 1
      clear hcl8 hcc8 hfr8 hM8
      replace p8 := eq_true p8
      replace q8 := eq_true q8
      obtain ⟨ce39, hcl39, hM39, hcc39, hfr39⟩ := Kd.R_elem HO461.out z45 (t454 : Int) (od_) (by have h_ : (t454 : Int) < ((y459.length : Int) : Int) := od_; first | exact h_ | (have e_ := (Kd.R_reads' HO461.out).1; omega) | simpa using h_)
      obtain rfl := k45_openM hM39
      have HP39 := (Kd.R_seg HO461.out (t454 : Int) (od_) (by have h_ : (t454 : Int) < ((y459.length : Int) : Int) := od_; first | exact h_ | (have e_ := (Kd.R_reads' HO461.out).1; omega) | simpa using h_) (seg := [.int .i64 (wrap64 (((rd_T45 y459 t454).f1) - a1_1))]) (j := 1) hcl39 hcc39 (show 2 ≤ 2 from by decide) (x' := (⟨(rd_T45 y459 t454).f0, wrap64 (((rd_T45 y459 t454).f1) - a1_1)⟩ : S45)) (k45_mkM _ _ _ (⟨(rd_T45 y459 t454).f0, wrap64 (((rd_T45 y459 t454).f1) - a1_1)⟩ : S45) ) (fun _ hk => hk)).1
      rw [← Ny463.out] at HP39
      have HQ39 := Aside0.mk HP39
      clear hcl39 hcc39 hfr39 hM39 HP39
      refine start_ (n := 11) (S := fun w' => w'.cell? ⟨gb453, 0, none⟩ = some (.string a1_0) ∧ w'.cell? ⟨gb453, 1, none⟩ = some (.int .i64 a1_1) ∧ w'.cell? ⟨go8, ((t454).toNat * 2), none⟩ = some (.string ((rd_T45 y459 t454).f0)) ∧ w'.cell? ⟨go8, ((t454).toNat * 2) + 1, none⟩ = some (.int .i64 ((rd_T45 y459 t454).f1))) (ds := [10]) #[F_,F_,F_,F_,F_,F_,F_,F_,F_,F_,F_] (by kernel_rfl) rfl rfl ⟨(blk_cell BK453.out 0).trans rfl, (blk_cell BK453.out 1).trans rfl, hx462_0, hx462_1⟩ (fun hHeld => ?_); refine with_tabW impl_CutPiece.tab5 impl_CutPiece.bits5 (fun HT_ HW_ => ?_)
      generalize w36.drew = w37 at HO461 BK453 HB GG8 HQ39 hf8_0 hf8_1 hx462_0 hx462_1 hx8_0 hx8_1 hHeld ⊢
      refine pu (i := 0) (N := some 22) #[T_,F_,F_,F_,F_,F_,F_,F_,F_,F_,F_] HT_ ?_
      refine pu (i := 1) (N := some 23) #[T_,T_,F_,F_,F_,F_,F_,F_,F_,F_,F_] HT_ ?_
      refine pu (i := 2) (N := some 24) #[T_,T_,T_,F_,F_,F_,F_,F_,F_,F_,F_] HT_ ?_
      refine pu (i := 3) (N := some 25) #[T_,T_,T_,T_,F_,F_,F_,F_,F_,F_,F_] HT_ ?_
      refine pu (i := 5) (N := some 27) #[T_,T_,T_,T_,F_,T_,F_,F_,F_,F_,F_] HT_ ?_
      refine take_ (i := 4) (N := some 26) (v := ?_) (a' := ?_) #[T_,T_,T_,T_,T_,T_,F_,F_,F_,F_,F_] rfl rfl (take_ofW HT_.out HW_.out (by kernel_rfl)) (fun _ _ _ h => h) (Or.inl ⟨by rfl, ?_⟩) hHeld ?_ ?_
      rotate_left
      ·rintro w' ⟨s0, s1, s2, s3⟩
       go_simp
       with_reducible rfl
      rotate_left
      ·simp only [Act.put, sT_, s0_, sS_, i64_w, i32_w]
       rfl
      refine take_ (i := 6) (N := some 28) (v := ?_) (a' := ?_) #[T_,T_,T_,T_,T_,T_,T_,F_,F_,F_,F_] rfl rfl (take_ofW HT_.out HW_.out (by kernel_rfl)) (fun _ _ _ h => h) (Or.inl ⟨by rfl, ?_⟩) hHeld ?_ ?_
      rotate_left
      ·rintro w' ⟨s0, s1, s2, s3⟩
       go_simp
       with_reducible rfl
      rotate_left
      ·simp only [Act.put, sT_, s0_, sS_, i64_w, i32_w]
       rfl
      refine pu (i := 7) (N := some 29) #[T_,T_,T_,T_,T_,T_,T_,T_,F_,F_,F_] HT_ ?_
      refine pu (i := 8) (N := some 30) #[T_,T_,T_,T_,T_,T_,T_,T_,T_,F_,F_] HT_ ?_
      refine pu (i := 9) (N := some 31) #[T_,T_,T_,T_,T_,T_,T_,T_,T_,T_,F_] HT_ ?_
      refine last_ (i := 10) (N := none) #[T_,T_,T_,T_,T_,T_,T_,T_,T_,T_,T_] rfl rfl (one_of HT_.out (by kernel_rfl)) (by decide) (fun K hK => ?_)
      refine skip_ (w1 := ?_) (by rfl) rfl ?_ ?_
      rotate_left
      ·go_simp
       rfl
      refine hK.out _ _ ?_
      clear hK K
      refine done_ (done_of HT_.out (by kernel_rfl)) ?_
      have p9 : 0 ≤ (t454 : Int) := od_
      have q9 : (t454 : Int) < ((y459.length : Int) : Int) := od_
      replace p9 := eq_true p9
      replace q9 := eq_true q9
      try go_wp2
      go_ret3
      exact ⟨_, ew_, by (with_reducible repeat (first | apply Kd.R_alloc | apply Kd.R_drewN | apply Kd.R_drew)); exact HQ39.out, (hg2_ GB8 GE453)⟩
    ·rw [if_neg c7] at H
     exact absurd H (by simp)
   ·rw [if_neg c6] at H
    exact absurd H (by simp)
  ·rw [if_neg c5] at H
   exact absurd H (by simp)
 ·rw [if_neg c4] at H
  have c4b0 : (t455 == 0) = false := beq_eq_false_iff_ne.mpr c4
  have c4b1 : (t455 != 0) = true := bne_iff_ne.mpr c4
  simp only [Option.some.injEq, Prod.mk.injEq] at H
  obtain ⟨rfl, rfl, rfl⟩ := H
  go_enter Try.func41, Try.ntmps41
  go_wp2_with (first | ((with_reducible refine gate_dst (N := 3) rfl ?_); refine box_event ?hg (N := 3) ?hd (cs := #[.string a1_0, .int .i64 a1_1]) (t := 55) ?hr ?_; (case hd => rfl); (case hg => rfl); (case hr => first | (go_simp; done) | (go_simp; rfl)); intro gb453 hg w40 hbox hb; have n0_ := Aside0.mk (below_step hb_ hb); have n1_ := Aside0.mk (hbox); have n2_ := Aside0.mk ((by rw [hg]; exact (below_size hb_) : w.heap.size ≤ gb453)); have n3_ := Aside0.mk ((by rw [hg]; exact (below_size hb_) : w.heap.size ≤ gb453)); clear HB; have HB := n0_; have BK453 := n1_; have GW453 := n2_; have GE453 := n3_; clear n0_ n1_ n2_ n3_; clear hb hbox hg; have hcz41_0 : w40.cell? ⟨gb453, 0, none⟩ = some (.string a1_0) := (blk_cell BK453.out 0).trans rfl; have hcz41_1 : w40.cell? ⟨gb453, 1, none⟩ = some (.int .i64 a1_1) := (blk_cell BK453.out 1).trans rfl; have hfz41_0 := blk_frozen BK453.out 0; have hfz41_1 := blk_frozen BK453.out 1) | ((with_reducible refine gate_callee (f := 39) rfl ?_); refine goesL_ (some 13) rfl rfl Try.func39 (by kernel_rfl) rfl #[.slice A0 l0.length c0, .agg #[.string a1_0, .int .i64 a1_1]] rfl ln_ ?_; (with_reducible refine (impl_BestCoil.calls k _ _ l0 a1_0 a1_1 t454 t455 _ ?side1 ?side2 A3.out).mono ?_); (case side1 => exact kc_ (Kd.C_below HR0.out HB.out)); (case side2 => exact HC0.out); rintro e w42 ⟨rfl, hb⟩; refine ⟨_, rfl, ?_⟩; have n0_ := Aside0.mk (blk_below (g := gb453) (o := .cells #[.string a1_0, .int .i64 a1_1] 55 (0, 0)) (bk_ BK453) hb); have n1_ := Aside0.mk (below_step (hg_ GE453) hb); clear BK453; clear HB; have BK453 := n0_; have HB := n1_; clear n0_ n1_; (try clear hb); (try clear hb2); (try clear hk); (try clear hi)))
  go_ret3
  exact ⟨_, ew_, by first | exact Kd.R_nil _ _ _ _ _ | exact Kd.N_nil _ _ _ _ _ | exact Kd.V_nil _ _ _ _ _ | exact Kd.Q_nil _ _ _ _ _ | exact Kd.S_nil _ _ _ _ _, (hg_ GE453)⟩

/-! ### laws_FnExactCutPiece: function 10 -/
mutual
def laws_FnExactCutPiece.j0 : Nat → List (S41) → List (S45) → Int → Int → List (S45) → List (S45) → Int → Int → Bool → ByteArray → Int → Option (Bool)
 | 0, _, _, _, _, _, _, _, _, _, _, _ => none
 | k + 1, x0, x6, x7, x8, x9, x10, x11, x12, x61, x477000, x477001 => if x61 = true then (some false) else ((laws_toCoilS.f k x0).bind fun t500 => ((laws_eqCoilS.f k x9 t500).bind fun t503 => (if t503 = true then ((laws_markCoilS.f k x9 1).bind fun bt504 => (if bt504.1 < 0 then (laws_FnExactCutPiece.j1 k x0 x6 x7 x8 x10 true x477000 x477001) else ((laws_eqCoilS.f k x10 x6).bind fun t506 => (if t506 = true then (if x11 = x7 then (laws_FnExactCutPiece.j1 k x0 x6 x7 x8 x10 (x12 != x8) x477000 x477001) else (laws_FnExactCutPiece.j1 k x0 x6 x7 x8 x10 true x477000 x477001)) else (laws_FnExactCutPiece.j1 k x0 x6 x7 x8 x10 true x477000 x477001))))) else (some false))))
def laws_FnExactCutPiece.j1 : Nat → List (S41) → List (S45) → Int → Int → List (S45) → Bool → ByteArray → Int → Option (Bool)
 | 0, _, _, _, _, _, _, _, _ => none
 | k + 1, x0, x6, x7, x8, x10, x87, x477000, x477001 => if x87 = true then (some false) else ((laws_markCoilS.f k x10 1).bind fun bt507 => ((laws_heldCoilS.f k bt507.2 1).bind fun t509 => (if t509 < 0 then (some false) else (if t509 = bt507.1 then ((laws_toCoilS.f k x0).bind fun t510 => ((laws_toWant.f x477000 x477001).bind fun bt513 => ((impl_CutPiece.f k t510 bt513.1 bt513.2).bind fun bt515 => ((laws_eqCoilS.f k bt515.1 x6).bind fun t520 => (if t520 = true then (if bt515.2.1 = x7 then (laws_FnExactCutPiece.j2 k bt507.2 bt507.1 (bt515.2.2 != x8)) else (laws_FnExactCutPiece.j2 k bt507.2 bt507.1 true)) else (laws_FnExactCutPiece.j2 k bt507.2 bt507.1 true)))))) else (some false)))))
def laws_FnExactCutPiece.j2 : Nat → List (S45) → Int → Bool → Option (Bool)
 | 0, _, _, _ => none
 | k + 1, x10, x14, x121 => if x121 = true then (some false) else ((laws_heldCoilS.f k x10 1).bind fun t521 => (if t521 < 0 then (some false) else (if t521 = x14 then (some true) else (some false))))
end
def laws_FnExactCutPiece.f (k : Nat) (l0 : List (S41)) (a1_0 : ByteArray) (a1_1 : Int) : Option (Bool) := (laws_szCoilS.f k l0 1048576).bind fun t477 => (if t477 < 0 then (some true) else ((laws_szWant.f a1_0 a1_1 t477).bind fun t478 => (if t478 < 0 then (some true) else ((laws_toCoilS.f k l0).bind fun t479 => ((laws_toWant.f a1_0 a1_1).bind fun bt482 => ((spec_CutPiece.f k t479 bt482.1 bt482.2).bind fun bt484 => ((laws_toCoilS.f k l0).bind fun t489 => ((laws_toWant.f a1_0 a1_1).bind fun bt492 => ((impl_CutPiece.f k t489 bt492.1 bt492.2).bind fun bt494 => ((laws_eqCoilS.f k bt494.1 bt484.1).bind fun t499 => (if t499 = true then (if bt494.2.1 = bt484.2.1 then (laws_FnExactCutPiece.j0 k l0 bt484.1 bt484.2.1 bt484.2.2 t489 bt494.1 bt494.2.1 bt494.2.2 (bt494.2.2 != bt484.2.2) a1_0 a1_1) else (laws_FnExactCutPiece.j0 k l0 bt484.1 bt484.2.1 bt484.2.2 t489 bt494.1 bt494.2.1 bt494.2.2 true a1_0 a1_1)) else (laws_FnExactCutPiece.j0 k l0 bt484.1 bt484.2.1 bt484.2.2 t489 bt494.1 bt494.2.1 bt494.2.2 true a1_0 a1_1))))))))))))
theorem laws_FnExactCutPiece.mono_l : ∀ k, (∀ y0 y1 y2 y3 y4 y5 y6 y7 y8 y9 y10, LeO (laws_FnExactCutPiece.j0 k y0 y1 y2 y3 y4 y5 y6 y7 y8 y9 y10) (laws_FnExactCutPiece.j0 (k + 1) y0 y1 y2 y3 y4 y5 y6 y7 y8 y9 y10)) ∧ (∀ y0 y1 y2 y3 y4 y5 y6 y7, LeO (laws_FnExactCutPiece.j1 k y0 y1 y2 y3 y4 y5 y6 y7) (laws_FnExactCutPiece.j1 (k + 1) y0 y1 y2 y3 y4 y5 y6 y7)) ∧ (∀ y0 y1 y2, LeO (laws_FnExactCutPiece.j2 k y0 y1 y2) (laws_FnExactCutPiece.j2 (k + 1) y0 y1 y2))
 | 0 => ⟨fun _ _ _ _ _ _ _ _ _ _ _ r h => by simp [laws_FnExactCutPiece.j0] at h, fun _ _ _ _ _ _ _ _ r h => by simp [laws_FnExactCutPiece.j1] at h, fun _ _ _ r h => by simp [laws_FnExactCutPiece.j2] at h⟩
 | k + 1 => by
  obtain ⟨ih0, ih1, ih2⟩ := laws_FnExactCutPiece.mono_l k
  refine ⟨?_, ?_, ?_⟩
  ·intro y0 y1 y2 y3 y4 y5 y6 y7 y8 y9 y10
   unfold laws_FnExactCutPiece.j0
   repeat' first
   | (with_reducible exact ih0 _ _ _ _ _ _ _ _ _ _ _)
   | (with_reducible exact ih1 _ _ _ _ _ _ _ _)
   | (with_reducible exact ih2 _ _ _)
   | (with_reducible exact impl_CutPiece.mono _ _ _ _)
   | (with_reducible exact laws_eqCoilS.mono _ _ _)
   | (with_reducible exact laws_heldCoilS.mono _ _ _)
   | (with_reducible exact laws_markCoilS.mono _ _ _)
   | (with_reducible exact laws_szCoilS.mono _ _ _)
   | (with_reducible exact laws_toCoilS.mono _ _)
   | (with_reducible exact spec_CutPiece.mono _ _ _ _)
   | (with_reducible exact LeO.refl _)
   | (with_reducible exact LeO.none _)
   | (with_reducible refine LeO.ite ?_ ?_)
   | (with_reducible refine LeO.bind ?_ (fun _ => ?_))
   | exact ih0 _ _ _ _ _ _ _ _ _ _ _
   | exact ih1 _ _ _ _ _ _ _ _
   | exact ih2 _ _ _
   | exact impl_CutPiece.mono _ _ _ _
   | exact laws_eqCoilS.mono _ _ _
   | exact laws_heldCoilS.mono _ _ _
   | exact laws_markCoilS.mono _ _ _
   | exact laws_szCoilS.mono _ _ _
   | exact laws_toCoilS.mono _ _
   | exact spec_CutPiece.mono _ _ _ _
   | exact LeO.none _
   | refine LeO.ite ?_ ?_
   | refine LeO.bind ?_ (fun _ => ?_)
  ·intro y0 y1 y2 y3 y4 y5 y6 y7
   unfold laws_FnExactCutPiece.j1
   repeat' first
   | (with_reducible exact ih0 _ _ _ _ _ _ _ _ _ _ _)
   | (with_reducible exact ih1 _ _ _ _ _ _ _ _)
   | (with_reducible exact ih2 _ _ _)
   | (with_reducible exact impl_CutPiece.mono _ _ _ _)
   | (with_reducible exact laws_eqCoilS.mono _ _ _)
   | (with_reducible exact laws_heldCoilS.mono _ _ _)
   | (with_reducible exact laws_markCoilS.mono _ _ _)
   | (with_reducible exact laws_szCoilS.mono _ _ _)
   | (with_reducible exact laws_toCoilS.mono _ _)
   | (with_reducible exact spec_CutPiece.mono _ _ _ _)
   | (with_reducible exact LeO.refl _)
   | (with_reducible exact LeO.none _)
   | (with_reducible refine LeO.ite ?_ ?_)
   | (with_reducible refine LeO.bind ?_ (fun _ => ?_))
   | exact ih0 _ _ _ _ _ _ _ _ _ _ _
   | exact ih1 _ _ _ _ _ _ _ _
   | exact ih2 _ _ _
   | exact impl_CutPiece.mono _ _ _ _
   | exact laws_eqCoilS.mono _ _ _
   | exact laws_heldCoilS.mono _ _ _
   | exact laws_markCoilS.mono _ _ _
   | exact laws_szCoilS.mono _ _ _
   | exact laws_toCoilS.mono _ _
   | exact spec_CutPiece.mono _ _ _ _
   | exact LeO.none _
   | refine LeO.ite ?_ ?_
   | refine LeO.bind ?_ (fun _ => ?_)
  ·intro y0 y1 y2
   unfold laws_FnExactCutPiece.j2
   repeat' first
   | (with_reducible exact ih0 _ _ _ _ _ _ _ _ _ _ _)
   | (with_reducible exact ih1 _ _ _ _ _ _ _ _)
   | (with_reducible exact ih2 _ _ _)
   | (with_reducible exact impl_CutPiece.mono _ _ _ _)
   | (with_reducible exact laws_eqCoilS.mono _ _ _)
   | (with_reducible exact laws_heldCoilS.mono _ _ _)
   | (with_reducible exact laws_markCoilS.mono _ _ _)
   | (with_reducible exact laws_szCoilS.mono _ _ _)
   | (with_reducible exact laws_toCoilS.mono _ _)
   | (with_reducible exact spec_CutPiece.mono _ _ _ _)
   | (with_reducible exact LeO.refl _)
   | (with_reducible exact LeO.none _)
   | (with_reducible refine LeO.ite ?_ ?_)
   | (with_reducible refine LeO.bind ?_ (fun _ => ?_))
   | exact ih0 _ _ _ _ _ _ _ _ _ _ _
   | exact ih1 _ _ _ _ _ _ _ _
   | exact ih2 _ _ _
   | exact impl_CutPiece.mono _ _ _ _
   | exact laws_eqCoilS.mono _ _ _
   | exact laws_heldCoilS.mono _ _ _
   | exact laws_markCoilS.mono _ _ _
   | exact laws_szCoilS.mono _ _ _
   | exact laws_toCoilS.mono _ _
   | exact spec_CutPiece.mono _ _ _ _
   | exact LeO.none _
   | refine LeO.ite ?_ ?_
   | refine LeO.bind ?_ (fun _ => ?_)
theorem laws_FnExactCutPiece.mono : ∀ a0 a1 a2 k, LeO (laws_FnExactCutPiece.f k a0 a1 a2) (laws_FnExactCutPiece.f (k + 1) a0 a1 a2) := by
 intro a0 a1 a2 k
 obtain ⟨ih0, ih1, ih2⟩ := laws_FnExactCutPiece.mono_l k
 unfold laws_FnExactCutPiece.f
 repeat' first
   | (with_reducible exact ih0 _ _ _ _ _ _ _ _ _ _ _)
   | (with_reducible exact ih1 _ _ _ _ _ _ _ _)
   | (with_reducible exact ih2 _ _ _)
   | (with_reducible exact impl_CutPiece.mono _ _ _ _)
   | (with_reducible exact laws_eqCoilS.mono _ _ _)
   | (with_reducible exact laws_heldCoilS.mono _ _ _)
   | (with_reducible exact laws_markCoilS.mono _ _ _)
   | (with_reducible exact laws_szCoilS.mono _ _ _)
   | (with_reducible exact laws_toCoilS.mono _ _)
   | (with_reducible exact spec_CutPiece.mono _ _ _ _)
   | (with_reducible exact LeO.refl _)
   | (with_reducible exact LeO.none _)
   | (with_reducible refine LeO.ite ?_ ?_)
   | (with_reducible refine LeO.bind ?_ (fun _ => ?_))
   | exact ih0 _ _ _ _ _ _ _ _ _ _ _
   | exact ih1 _ _ _ _ _ _ _ _
   | exact ih2 _ _ _
   | exact impl_CutPiece.mono _ _ _ _
   | exact laws_eqCoilS.mono _ _ _
   | exact laws_heldCoilS.mono _ _ _
   | exact laws_markCoilS.mono _ _ _
   | exact laws_szCoilS.mono _ _ _
   | exact laws_toCoilS.mono _ _
   | exact spec_CutPiece.mono _ _ _ _
   | exact LeO.none _
   | refine LeO.ite ?_ ?_
   | refine LeO.bind ?_ (fun _ => ?_)
def laws_FnExactCutPiece.T8 : Bool × List (List Nat × List Nat) := (true, [([], []), ([0], [0]), ([], []), ([2, 1], [2]), ([1, 3, 3], [1, 3]), ([4], [4]), ([5], [5]), ([5], [5]), ([5], [5]), ([6, 4, 0, 1, 2, 3, 4, 5, 6], [6]), ([7, 9, 0, 1, 2, 3, 4, 5, 6, 7, 9], [7]), ([8, 10, 0, 1, 2, 3, 4, 5, 6, 7, 8, 9, 10], [8])])
def laws_FnExactCutPiece.B8 : List Nat := [0, 1, 0, 7, 15, 31, 63, 63, 63, 127, 767, 2047]
theorem laws_FnExactCutPiece.tab8 : rtab .any (opsOf Try.f10 8) = laws_FnExactCutPiece.T8 := by kernel_rfl
theorem laws_FnExactCutPiece.bits8 : waitsOk laws_FnExactCutPiece.T8.2 laws_FnExactCutPiece.B8 = true := by kernel_rfl
def laws_FnExactCutPiece.T27 : Bool × List (List Nat × List Nat) := (true, [([], []), ([0], [0]), ([], []), ([2, 1], [2]), ([1, 3, 3], [1, 3]), ([4], [4]), ([5], [5]), ([5], [5]), ([5], [5]), ([6, 4, 0, 1, 2, 3, 4, 5, 6], [6]), ([7, 9, 0, 1, 2, 3, 4, 5, 6, 7, 9], [7]), ([8, 10, 0, 1, 2, 3, 4, 5, 6, 7, 8, 9, 10], [8])])
def laws_FnExactCutPiece.B27 : List Nat := [0, 1, 0, 7, 15, 31, 63, 63, 63, 127, 767, 2047]
theorem laws_FnExactCutPiece.tab27 : rtab .any (opsOf Try.f10 27) = laws_FnExactCutPiece.T27 := by kernel_rfl
theorem laws_FnExactCutPiece.bits27 : waitsOk laws_FnExactCutPiece.T27.2 laws_FnExactCutPiece.B27 = true := by kernel_rfl
set_option maxHeartbeats 8000000 in
set_option maxRecDepth 100000 in
theorem laws_FnExactCutPiece.calls (k : Nat) (A0 : Option Addr) (c0 : Nat) (l0 : List (S41)) (a1_0 : ByteArray) (a1_1 : Int) (r : Bool) (w : World) (hr0 : Kd.C k41 w A0 l0.length l0) (hc0 : l0.length ≤ c0) (h : laws_FnExactCutPiece.f k l0 a1_0 a1_1 = some r) :
  Calls Try.prog 10 #[.slice A0 l0.length c0, .agg #[.string a1_0, .int .i64 a1_1]] w fun e w' => e = .returned (.bool r) ∧ Below w.heap.size w w' := by
 have hu52 := Try.underlying52
 have HR0 := Aside0.mk hr0
 have HC0 := Aside0.mk hc0
 clear hr0 hc0
 have HB := Aside0.mk (Below.refl w.heap.size w)
 have H : ((laws_szCoilS.f k l0 1048576).bind fun t477 => (if t477 < 0 then (some true) else ((laws_szWant.f a1_0 a1_1 t477).bind fun t478 => (if t478 < 0 then (some true) else ((laws_toCoilS.f k l0).bind fun t479 => ((laws_toWant.f a1_0 a1_1).bind fun bt482 => ((spec_CutPiece.f k t479 bt482.1 bt482.2).bind fun bt484 => ((laws_toCoilS.f k l0).bind fun t489 => ((laws_toWant.f a1_0 a1_1).bind fun bt492 => ((impl_CutPiece.f k t489 bt492.1 bt492.2).bind fun bt494 => ((laws_eqCoilS.f k bt494.1 bt484.1).bind fun t499 => (if t499 = true then (if bt494.2.1 = bt484.2.1 then (laws_FnExactCutPiece.j0 k l0 bt484.1 bt484.2.1 bt484.2.2 t489 bt494.1 bt494.2.1 bt494.2.2 (bt494.2.2 != bt484.2.2) a1_0 a1_1) else (laws_FnExactCutPiece.j0 k l0 bt484.1 bt484.2.1 bt484.2.2 t489 bt494.1 bt494.2.1 bt494.2.2 true a1_0 a1_1)) else (laws_FnExactCutPiece.j0 k l0 bt484.1 bt484.2.1 bt484.2.2 t489 bt494.1 bt494.2.1 bt494.2.2 true a1_0 a1_1))))))))))))) = some r := h
 clear h
 replace H := Option.bind_eq_some_iff.mp H
 obtain ⟨t477, A30, H⟩ := H
 replace H : (if t477 < 0 then (some true) else ((laws_szWant.f a1_0 a1_1 t477).bind fun t478 => (if t478 < 0 then (some true) else ((laws_toCoilS.f k l0).bind fun t479 => ((laws_toWant.f a1_0 a1_1).bind fun bt482 => ((spec_CutPiece.f k t479 bt482.1 bt482.2).bind fun bt484 => ((laws_toCoilS.f k l0).bind fun t489 => ((laws_toWant.f a1_0 a1_1).bind fun bt492 => ((impl_CutPiece.f k t489 bt492.1 bt492.2).bind fun bt494 => ((laws_eqCoilS.f k bt494.1 bt484.1).bind fun t499 => (if t499 = true then (if bt494.2.1 = bt484.2.1 then (laws_FnExactCutPiece.j0 k l0 bt484.1 bt484.2.1 bt484.2.2 t489 bt494.1 bt494.2.1 bt494.2.2 (bt494.2.2 != bt484.2.2) a1_0 a1_1) else (laws_FnExactCutPiece.j0 k l0 bt484.1 bt484.2.1 bt484.2.2 t489 bt494.1 bt494.2.1 bt494.2.2 true a1_0 a1_1)) else (laws_FnExactCutPiece.j0 k l0 bt484.1 bt484.2.1 bt484.2.2 t489 bt494.1 bt494.2.1 bt494.2.2 true a1_0 a1_1)))))))))))) = some r := H
 have A3 := Aside0.mk A30
 clear A30
 by_cases c4 : t477 < 0
 ·rw [if_pos c4] at H
  have c4b0 : decide (t477 < 0) = true := decide_eq_true c4
  clear c4
  obtain rfl := Option.some.inj H
  go_enter Try.func10, Try.ntmps10
  go_wp2_with (first | ((with_reducible refine gate_dst (N := 3) rfl ?_); refine box_event ?hg (N := 3) ?hd (cs := #[.string a1_0, .int .i64 a1_1]) (t := 52) ?hr ?_; (case hd => rfl); (case hg => rfl); (case hr => first | (go_simp; done) | (go_simp; rfl)); intro gb476 hg w5 hbox hb; have n0_ := Aside0.mk (below_step hb_ hb); have n1_ := Aside0.mk (hbox); have n2_ := Aside0.mk ((by rw [hg]; exact (below_size hb_) : w.heap.size ≤ gb476)); have n3_ := Aside0.mk ((by rw [hg]; exact (below_size hb_) : w.heap.size ≤ gb476)); clear HB; have HB := n0_; have BK476 := n1_; have GW476 := n2_; have GE476 := n3_; clear n0_ n1_ n2_ n3_; clear hb hbox hg) | ((with_reducible refine gate_callee (f := 14) rfl ?_); refine goesL_ (some 21) rfl rfl Try.func14 (by kernel_rfl) rfl #[.slice A0 l0.length c0, .int .i64 1048576] rfl ln_ ?_; (with_reducible refine (laws_szCoilS.calls k _ _ l0 1048576 t477 _ ?side1 ?side2 A3.out).mono ?_); (case side1 => exact kc_ (Kd.C_below HR0.out HB.out)); (case side2 => exact HC0.out); rintro e w6 ⟨rfl, hb⟩; refine ⟨_, rfl, ?_⟩; have n0_ := Aside0.mk (blk_below (g := gb476) (o := .cells #[.string a1_0, .int .i64 a1_1] 52 (0, 0)) (bk_ BK476) hb); have n1_ := Aside0.mk (below_step (hg_ GE476) hb); clear BK476; clear HB; have BK476 := n0_; have HB := n1_; clear n0_ n1_; (try clear hb); (try clear hb2); (try clear hk); (try clear hi)))
  go_ret
  exact ⟨ew_, (hg_ GE476)⟩
 ·rw [if_neg c4] at H
  have c4b0 : decide (t477 < 0) = false := decide_eq_false c4
  clear c4
  replace H := Option.bind_eq_some_iff.mp H
  obtain ⟨t478, A70, H⟩ := H
  replace H : (if t478 < 0 then (some true) else ((laws_toCoilS.f k l0).bind fun t479 => ((laws_toWant.f a1_0 a1_1).bind fun bt482 => ((spec_CutPiece.f k t479 bt482.1 bt482.2).bind fun bt484 => ((laws_toCoilS.f k l0).bind fun t489 => ((laws_toWant.f a1_0 a1_1).bind fun bt492 => ((impl_CutPiece.f k t489 bt492.1 bt492.2).bind fun bt494 => ((laws_eqCoilS.f k bt494.1 bt484.1).bind fun t499 => (if t499 = true then (if bt494.2.1 = bt484.2.1 then (laws_FnExactCutPiece.j0 k l0 bt484.1 bt484.2.1 bt484.2.2 t489 bt494.1 bt494.2.1 bt494.2.2 (bt494.2.2 != bt484.2.2) a1_0 a1_1) else (laws_FnExactCutPiece.j0 k l0 bt484.1 bt484.2.1 bt484.2.2 t489 bt494.1 bt494.2.1 bt494.2.2 true a1_0 a1_1)) else (laws_FnExactCutPiece.j0 k l0 bt484.1 bt484.2.1 bt484.2.2 t489 bt494.1 bt494.2.1 bt494.2.2 true a1_0 a1_1)))))))))) = some r := H
  have A7 := Aside0.mk A70
  clear A70
  by_cases c8 : t478 < 0
  ·rw [if_pos c8] at H
   have c8b0 : decide (t478 < 0) = true := decide_eq_true c8
   clear c8
   obtain rfl := Option.some.inj H
   go_enter Try.func10, Try.ntmps10
   go_wp2_with (first | ((with_reducible refine gate_dst (N := 3) rfl ?_); refine box_event ?hg (N := 3) ?hd (cs := #[.string a1_0, .int .i64 a1_1]) (t := 52) ?hr ?_; (case hd => rfl); (case hg => rfl); (case hr => first | (go_simp; done) | (go_simp; rfl)); intro gb476 hg w9 hbox hb; have n0_ := Aside0.mk (below_step hb_ hb); have n1_ := Aside0.mk (hbox); have n2_ := Aside0.mk ((by rw [hg]; exact (below_size hb_) : w.heap.size ≤ gb476)); have n3_ := Aside0.mk ((by rw [hg]; exact (below_size hb_) : w.heap.size ≤ gb476)); clear HB; have HB := n0_; have BK476 := n1_; have GW476 := n2_; have GE476 := n3_; clear n0_ n1_ n2_ n3_; clear hb hbox hg) | ((with_reducible refine gate_callee (f := 14) rfl ?_); refine goesL_ (some 21) rfl rfl Try.func14 (by kernel_rfl) rfl #[.slice A0 l0.length c0, .int .i64 1048576] rfl ln_ ?_; (with_reducible refine (laws_szCoilS.calls k _ _ l0 1048576 t477 _ ?side1 ?side2 A3.out).mono ?_); (case side1 => exact kc_ (Kd.C_below HR0.out HB.out)); (case side2 => exact HC0.out); rintro e w10 ⟨rfl, hb⟩; refine ⟨_, rfl, ?_⟩; have n0_ := Aside0.mk (blk_below (g := gb476) (o := .cells #[.string a1_0, .int .i64 a1_1] 52 (0, 0)) (bk_ BK476) hb); have n1_ := Aside0.mk (below_step (hg_ GE476) hb); clear BK476; clear HB; have BK476 := n0_; have HB := n1_; clear n0_ n1_; (try clear hb); (try clear hb2); (try clear hk); (try clear hi); have hcz11_0 : w10.cell? ⟨gb476, 0, none⟩ = some (.string a1_0) := (blk_cell BK476.out 0).trans rfl; have hcz11_1 : w10.cell? ⟨gb476, 1, none⟩ = some (.int .i64 a1_1) := (blk_cell BK476.out 1).trans rfl; have hfz11_0 := blk_frozen BK476.out 0; have hfz11_1 := blk_frozen BK476.out 1) | ((with_reducible refine gate_callee (f := 36) rfl ?_); refine goesL_ (some 26) rfl rfl Try.func36 (by kernel_rfl) rfl #[.agg #[.string a1_0, .int .i64 a1_1], .int .i64 t477] rfl ln_ ?_; (with_reducible refine (laws_szWant.calls a1_0 a1_1 t477 t478 _ A7.out).mono ?_); rintro e w12 ⟨rfl, hb⟩; refine ⟨_, rfl, ?_⟩; have n0_ := Aside0.mk (blk_below (g := gb476) (o := .cells #[.string a1_0, .int .i64 a1_1] 52 (0, 0)) (bk_ BK476) hb); have n1_ := Aside0.mk (below_step (hg_ GE476) hb); clear BK476; clear HB; have BK476 := n0_; have HB := n1_; clear n0_ n1_; (try clear hb); (try clear hb2); (try clear hk); (try clear hi)))
   go_ret
   exact ⟨ew_, (hg_ GE476)⟩
  ·rw [if_neg c8] at H
   have c8b0 : decide (t478 < 0) = false := decide_eq_false c8
   clear c8
   replace H := Option.bind_eq_some_iff.mp H
   obtain ⟨t479, A130, H⟩ := H
   replace H : ((laws_toWant.f a1_0 a1_1).bind fun bt482 => ((spec_CutPiece.f k t479 bt482.1 bt482.2).bind fun bt484 => ((laws_toCoilS.f k l0).bind fun t489 => ((laws_toWant.f a1_0 a1_1).bind fun bt492 => ((impl_CutPiece.f k t489 bt492.1 bt492.2).bind fun bt494 => ((laws_eqCoilS.f k bt494.1 bt484.1).bind fun t499 => (if t499 = true then (if bt494.2.1 = bt484.2.1 then (laws_FnExactCutPiece.j0 k l0 bt484.1 bt484.2.1 bt484.2.2 t489 bt494.1 bt494.2.1 bt494.2.2 (bt494.2.2 != bt484.2.2) a1_0 a1_1) else (laws_FnExactCutPiece.j0 k l0 bt484.1 bt484.2.1 bt484.2.2 t489 bt494.1 bt494.2.1 bt494.2.2 true a1_0 a1_1)) else (laws_FnExactCutPiece.j0 k l0 bt484.1 bt484.2.1 bt484.2.2 t489 bt494.1 bt494.2.1 bt494.2.2 true a1_0 a1_1)))))))) = some r := H
   have A13 := Aside0.mk A130
   clear A130
   replace H := Option.bind_eq_some_iff.mp H
   obtain ⟨⟨t482, t483⟩, A140, H⟩ := H
   replace H : ((spec_CutPiece.f k t479 t482 t483).bind fun bt484 => ((laws_toCoilS.f k l0).bind fun t489 => ((laws_toWant.f a1_0 a1_1).bind fun bt492 => ((impl_CutPiece.f k t489 bt492.1 bt492.2).bind fun bt494 => ((laws_eqCoilS.f k bt494.1 bt484.1).bind fun t499 => (if t499 = true then (if bt494.2.1 = bt484.2.1 then (laws_FnExactCutPiece.j0 k l0 bt484.1 bt484.2.1 bt484.2.2 t489 bt494.1 bt494.2.1 bt494.2.2 (bt494.2.2 != bt484.2.2) a1_0 a1_1) else (laws_FnExactCutPiece.j0 k l0 bt484.1 bt484.2.1 bt484.2.2 t489 bt494.1 bt494.2.1 bt494.2.2 true a1_0 a1_1)) else (laws_FnExactCutPiece.j0 k l0 bt484.1 bt484.2.1 bt484.2.2 t489 bt494.1 bt494.2.1 bt494.2.2 true a1_0 a1_1))))))) = some r := H
   have A14 := Aside0.mk A140
   clear A140
   replace H := Option.bind_eq_some_iff.mp H
   obtain ⟨⟨t484, t487, t488⟩, A150, H⟩ := H
   replace H : ((laws_toCoilS.f k l0).bind fun t489 => ((laws_toWant.f a1_0 a1_1).bind fun bt492 => ((impl_CutPiece.f k t489 bt492.1 bt492.2).bind fun bt494 => ((laws_eqCoilS.f k bt494.1 t484).bind fun t499 => (if t499 = true then (if bt494.2.1 = t487 then (laws_FnExactCutPiece.j0 k l0 t484 t487 t488 t489 bt494.1 bt494.2.1 bt494.2.2 (bt494.2.2 != t488) a1_0 a1_1) else (laws_FnExactCutPiece.j0 k l0 t484 t487 t488 t489 bt494.1 bt494.2.1 bt494.2.2 true a1_0 a1_1)) else (laws_FnExactCutPiece.j0 k l0 t484 t487 t488 t489 bt494.1 bt494.2.1 bt494.2.2 true a1_0 a1_1)))))) = some r := H
   have A15 := Aside0.mk A150
   clear A150
   replace H := Option.bind_eq_some_iff.mp H
   obtain ⟨t489, A160, H⟩ := H
   replace H : ((laws_toWant.f a1_0 a1_1).bind fun bt492 => ((impl_CutPiece.f k t489 bt492.1 bt492.2).bind fun bt494 => ((laws_eqCoilS.f k bt494.1 t484).bind fun t499 => (if t499 = true then (if bt494.2.1 = t487 then (laws_FnExactCutPiece.j0 k l0 t484 t487 t488 t489 bt494.1 bt494.2.1 bt494.2.2 (bt494.2.2 != t488) a1_0 a1_1) else (laws_FnExactCutPiece.j0 k l0 t484 t487 t488 t489 bt494.1 bt494.2.1 bt494.2.2 true a1_0 a1_1)) else (laws_FnExactCutPiece.j0 k l0 t484 t487 t488 t489 bt494.1 bt494.2.1 bt494.2.2 true a1_0 a1_1))))) = some r := H
   have A16 := Aside0.mk A160
   clear A160
   replace H := Option.bind_eq_some_iff.mp H
   obtain ⟨⟨t492, t493⟩, A170, H⟩ := H
   replace H : ((impl_CutPiece.f k t489 t492 t493).bind fun bt494 => ((laws_eqCoilS.f k bt494.1 t484).bind fun t499 => (if t499 = true then (if bt494.2.1 = t487 then (laws_FnExactCutPiece.j0 k l0 t484 t487 t488 t489 bt494.1 bt494.2.1 bt494.2.2 (bt494.2.2 != t488) a1_0 a1_1) else (laws_FnExactCutPiece.j0 k l0 t484 t487 t488 t489 bt494.1 bt494.2.1 bt494.2.2 true a1_0 a1_1)) else (laws_FnExactCutPiece.j0 k l0 t484 t487 t488 t489 bt494.1 bt494.2.1 bt494.2.2 true a1_0 a1_1)))) = some r := H
   have A17 := Aside0.mk A170
   clear A170
   replace H := Option.bind_eq_some_iff.mp H
   obtain ⟨⟨t494, t497, t498⟩, A180, H⟩ := H
   replace H : ((laws_eqCoilS.f k t494 t484).bind fun t499 => (if t499 = true then (if t497 = t487 then (laws_FnExactCutPiece.j0 k l0 t484 t487 t488 t489 t494 t497 t498 (t498 != t488) a1_0 a1_1) else (laws_FnExactCutPiece.j0 k l0 t484 t487 t488 t489 t494 t497 t498 true a1_0 a1_1)) else (laws_FnExactCutPiece.j0 k l0 t484 t487 t488 t489 t494 t497 t498 true a1_0 a1_1))) = some r := H
   have A18 := Aside0.mk A180
   clear A180
   have HC19 := Aside0.mk H
   clear H
   go_enter Try.func10, Try.ntmps10
   try go_wp2_with (first | ((with_reducible refine gate_dst (N := 3) rfl ?_); refine box_event ?hg (N := 3) ?hd (cs := #[.string a1_0, .int .i64 a1_1]) (t := 52) ?hr ?_; (case hd => rfl); (case hg => rfl); (case hr => first | (go_simp; done) | (go_simp; rfl)); intro gb476 hg w20 hbox hb; have n0_ := Aside0.mk (below_step hb_ hb); have n1_ := Aside0.mk (hbox); have n2_ := Aside0.mk ((by rw [hg]; exact (below_size hb_) : w.heap.size ≤ gb476)); have n3_ := Aside0.mk ((by rw [hg]; exact (below_size hb_) : w.heap.size ≤ gb476)); clear HB; have HB := n0_; have BK476 := n1_; have GW476 := n2_; have GE476 := n3_; clear n0_ n1_ n2_ n3_; clear hb hbox hg) | ((with_reducible refine gate_callee (f := 14) rfl ?_); refine goesL_ (some 21) rfl rfl Try.func14 (by kernel_rfl) rfl #[.slice A0 l0.length c0, .int .i64 1048576] rfl ln_ ?_; (with_reducible refine (laws_szCoilS.calls k _ _ l0 1048576 t477 _ ?side1 ?side2 A3.out).mono ?_); (case side1 => exact kc_ (Kd.C_below HR0.out HB.out)); (case side2 => exact HC0.out); rintro e w21 ⟨rfl, hb⟩; refine ⟨_, rfl, ?_⟩; have n0_ := Aside0.mk (blk_below (g := gb476) (o := .cells #[.string a1_0, .int .i64 a1_1] 52 (0, 0)) (bk_ BK476) hb); have n1_ := Aside0.mk (below_step (hg_ GE476) hb); clear BK476; clear HB; have BK476 := n0_; have HB := n1_; clear n0_ n1_; (try clear hb); (try clear hb2); (try clear hk); (try clear hi); have hcz22_0 : w21.cell? ⟨gb476, 0, none⟩ = some (.string a1_0) := (blk_cell BK476.out 0).trans rfl; have hcz22_1 : w21.cell? ⟨gb476, 1, none⟩ = some (.int .i64 a1_1) := (blk_cell BK476.out 1).trans rfl; have hfz22_0 := blk_frozen BK476.out 0; have hfz22_1 := blk_frozen BK476.out 1) | ((with_reducible refine gate_callee (f := 36) rfl ?_); refine goesL_ (some 26) rfl rfl Try.func36 (by kernel_rfl) rfl #[.agg #[.string a1_0, .int .i64 a1_1], .int .i64 t477] rfl ln_ ?_; (with_reducible refine (laws_szWant.calls a1_0 a1_1 t477 t478 _ A7.out).mono ?_); rintro e w23 ⟨rfl, hb⟩; refine ⟨_, rfl, ?_⟩; have n0_ := Aside0.mk (blk_below (g := gb476) (o := .cells #[.string a1_0, .int .i64 a1_1] 52 (0, 0)) (bk_ BK476) hb); have n1_ := Aside0.mk (below_step (hg_ GE476) hb); clear BK476; clear HB; have BK476 := n0_; have HB := n1_; clear n0_ n1_; (try clear hb); (try clear hb2); (try clear hk); (try clear hi)))
   have n0_ := Aside0.mk (blk_drew BK476.out)
   have n1_ := Aside0.mk (below_drew1 HB.out)
   clear BK476
   clear HB
   have BK476 := n0_
   have HB := n1_
   clear n0_ n1_
   refine start_ (n := 12) (S := fun w' => w'.cell? ⟨gb476, 0, none⟩ = some (.string a1_0) ∧ w'.cell? ⟨gb476, 1, none⟩ = some (.int .i64 a1_1)) (ds := []) #[F_,F_,F_,F_,F_,F_,F_,F_,F_,F_,F_,F_] (by kernel_rfl) rfl rfl ⟨(blk_cell BK476.out 0).trans rfl, (blk_cell BK476.out 1).trans rfl⟩ (fun hHeld => ?_); refine with_tabW laws_FnExactCutPiece.tab8 laws_FnExactCutPiece.bits8 (fun HT_ HW_ => ?_)
   generalize w23.drew = w24 at BK476 HB hHeld ⊢
   refine pu (i := 0) (N := some 30) #[T_,F_,F_,F_,F_,F_,F_,F_,F_,F_,F_,F_] HT_ ?_
   refine take_ (i := 2) (N := some 32) (v := ?_) (a' := ?_) #[T_,F_,T_,F_,F_,F_,F_,F_,F_,F_,F_,F_] rfl rfl (take_ofW HT_.out HW_.out (by kernel_rfl)) (fun _ _ _ h => h) (Or.inl ⟨by rfl, ?_⟩) hHeld ?_ ?_
   rotate_left
   ·rintro w' ⟨s0, s1⟩
    go_simp
    with_reducible rfl
   rotate_left
   ·simp only [Act.put, sT_, s0_, sS_, i64_w, i32_w]
    rfl
   refine one_ (i := 1) (N := some 31) #[T_,T_,T_,F_,F_,F_,F_,F_,F_,F_,F_,F_] rfl rfl (one_of HT_.out (by kernel_rfl)) (by decide) (fun K hK => ?_)
   refine goes_ Try.func16 (by kernel_rfl) rfl #[.slice A0 l0.length c0] (by rfl) rfl rfl ln_ ?_
   with_reducible refine (laws_toCoilS.calls k _ _ l0 t479 _ ?side1 ?side2 A13.out).mono ?_
   (case side1 => exact kc_ (Kd.C_below HR0.out HB.out))
   (case side2 => exact HC0.out)
   rintro e w25 ⟨v480, rfl, ho0, hb⟩
   refine ⟨_, rfl, ?_⟩
   have n0_ := Aside0.mk (Kd.R_lower ho0 (below_size (hg_ GE476)))
   have n1_ := Aside0.mk (blk_below (g := gb476) (o := .cells #[.string a1_0, .int .i64 a1_1] 52 (0, 0)) (bk_ BK476) hb)
   have n2_ := Aside0.mk (below_step (hg_ GE476) hb)
   clear BK476
   clear HB
   have HO481 := n0_
   have BK476 := n1_
   have HB := n2_
   clear n0_ n1_ n2_
   (try clear hb)
   (try clear hb2)
   (try clear hk)
   (try clear hi)
   (try clear ho0)
   refine hK.out _ _ ⟨(blk_cell BK476.out 0).trans rfl, (blk_cell BK476.out 1).trans rfl⟩ (fun hHeld => ?_)
   clear hK K
   refine norm_ (a' := ?_) ?_ ?_
   rotate_left
   ·show Act.put _ (some 31) _ = _
    simp only [Act.put, sT_, s0_, sS_, i64_w, i32_w]
    rfl
   refine one_ (i := 3) (N := some 33) #[T_,T_,T_,T_,F_,F_,F_,F_,F_,F_,F_,F_] rfl rfl (one_of HT_.out (by kernel_rfl)) (by decide) (fun K hK => ?_)
   refine goes_ Try.func38 (by kernel_rfl) rfl #[.agg #[.string a1_0, .int .i64 a1_1]] (by rfl) rfl rfl ln_ ?_
   with_reducible refine (laws_toWant.calls a1_0 a1_1 t482 t483 _ A14.out).mono ?_
   rintro e w26 ⟨rfl, hb⟩
   refine ⟨_, rfl, ?_⟩
   have n0_ := Aside0.mk (Kd.R_below (kr_ HO481) hb)
   have n1_ := Aside0.mk (blk_below (g := gb476) (o := .cells #[.string a1_0, .int .i64 a1_1] 52 (0, 0)) (bk_ BK476) hb)
   have n2_ := Aside0.mk (below_step (hg_ GE476) hb)
   clear HO481
   clear BK476
   clear HB
   have HO481 := n0_
   have BK476 := n1_
   have HB := n2_
   clear n0_ n1_ n2_
   (try clear hb)
   (try clear hb2)
   (try clear hk)
   (try clear hi)
   obtain ⟨Ao27, co27, eo27⟩ := Kd.R_slice HO481.out
   (first | subst eo27 | (injection eo27 with f1_ f2_ f3_; have f4_ := f1_.symm; have f5_ := f3_.symm; clear f1_ f2_ f3_; subst f4_; subst f5_))
   refine hK.out _ _ ⟨(blk_cell BK476.out 0).trans rfl, (blk_cell BK476.out 1).trans rfl⟩ (fun hHeld => ?_)
   clear hK K
   refine norm_ (a' := ?_) ?_ ?_
   rotate_left
   ·show Act.put _ (some 33) _ = _
    simp only [Act.put, sT_, s0_, sS_, i64_w, i32_w]
    rfl
   refine one_ (i := 4) (N := some 34) #[T_,T_,T_,T_,T_,F_,F_,F_,F_,F_,F_,F_] rfl rfl (one_of HT_.out (by kernel_rfl)) (by decide) (fun K hK => ?_)
   refine goes_ Try.func40 (by kernel_rfl) rfl #[.slice Ao27 t479.length co27, .agg #[.string t482, .int .i64 t483]] (by rfl) rfl rfl ln_ ?_
   with_reducible refine (spec_CutPiece.calls k _ _ t479 t482 t483 t484 t487 t488 _ ?side1 ?side2 A15.out).mono ?_
   (case side1 => repeat (first | exact (Kd.R_reads' HO481.out).2.2 | (with_reducible refine Kd.C_alloc ?_ _) | (with_reducible refine Kd.C_drewN ?_ _) | (with_reducible refine Kd.C_drew ?_)))
   (case side2 => exact (Kd.R_reads' HO481.out).2.1)
   rintro e w28 ⟨v485, rfl, ho0, hb⟩
   refine ⟨_, rfl, ?_⟩
   have n0_ := Aside0.mk (Kd.R_elder' (kr_ HO481) (Kd.R_base ho0) hb)
   have n1_ := Aside0.mk (Kd.R_lower (Kd.R_new' ho0 (Kd.R_lt (kr_ HO481))) (below_size (hg_ GE476)))
   have n2_ := Aside0.mk (blk_below (g := gb476) (o := .cells #[.string a1_0, .int .i64 a1_1] 52 (0, 0)) (bk_ BK476) hb)
   have n3_ := Aside0.mk (below_step (hg_ GE476) hb)
   clear HO481
   clear BK476
   clear HB
   have HO481 := n0_
   have HO486 := n1_
   have BK476 := n2_
   have HB := n3_
   clear n0_ n1_ n2_ n3_
   (try clear hb)
   (try clear hb2)
   (try clear hk)
   (try clear hi)
   (try clear ho0)
   refine hK.out _ _ ⟨(blk_cell BK476.out 0).trans rfl, (blk_cell BK476.out 1).trans rfl⟩ (fun hHeld => ?_)
   clear hK K
   refine norm_ (a' := ?_) ?_ ?_
   rotate_left
   ·show Act.put _ (some 34) _ = _
    simp only [Act.put, sT_, s0_, sS_, i64_w, i32_w]
    rfl
   refine pu (i := 5) (N := some 29) #[T_,T_,T_,T_,T_,T_,F_,F_,F_,F_,F_,F_] HT_ ?_
   refine pu (i := 6) (N := some 35) #[T_,T_,T_,T_,T_,T_,T_,F_,F_,F_,F_,F_] HT_ ?_
   refine pu (i := 7) (N := some 36) #[T_,T_,T_,T_,T_,T_,T_,T_,F_,F_,F_,F_] HT_ ?_
   refine pu (i := 8) (N := some 37) #[T_,T_,T_,T_,T_,T_,T_,T_,T_,F_,F_,F_] HT_ ?_
   refine pu (i := 9) (N := some 6) #[T_,T_,T_,T_,T_,T_,T_,T_,T_,T_,F_,F_] HT_ ?_
   refine pu (i := 10) (N := some 7) #[T_,T_,T_,T_,T_,T_,T_,T_,T_,T_,T_,F_] HT_ ?_
   refine pu (i := 11) (N := some 8) #[T_,T_,T_,T_,T_,T_,T_,T_,T_,T_,T_,T_] HT_ ?_
   refine done_ (done_of HT_.out (by kernel_rfl)) ?_
   go_upto_region 11 with (first | ((with_reducible refine gate_callee (f := 16) rfl ?_); refine goesL_ (some 39) rfl rfl Try.func16 (by kernel_rfl) rfl #[.slice A0 l0.length c0] rfl ln_ ?_; (with_reducible refine (laws_toCoilS.calls k _ _ l0 t489 _ ?side1 ?side2 A16.out).mono ?_); (case side1 => exact kc_ (Kd.C_below HR0.out HB.out)); (case side2 => exact HC0.out); rintro e w29 ⟨v490, rfl, ho0, hb⟩; refine ⟨_, rfl, ?_⟩; have n0_ := Aside0.mk (Kd.R_elder' (kr_ HO481) (Kd.R_base ho0) hb); have n1_ := Aside0.mk (Kd.R_elder' (kr_ HO486) (Kd.R_base ho0) hb); have n2_ := Aside0.mk (Kd.R_lower (Kd.R_new' (Kd.R_new' ho0 (Kd.R_lt (kr_ HO481))) (Kd.R_lt (kr_ HO486))) (below_size (hg_ GE476))); have n3_ := Aside0.mk (blk_below (g := gb476) (o := .cells #[.string a1_0, .int .i64 a1_1] 52 (0, 0)) (bk_ BK476) hb); have n4_ := Aside0.mk (below_step (hg_ GE476) hb); clear HO481; clear HO486; clear BK476; clear HB; have HO481 := n0_; have HO486 := n1_; have HO491 := n2_; have BK476 := n3_; have HB := n4_; clear n0_ n1_ n2_ n3_ n4_; (try clear hb); (try clear hb2); (try clear hk); (try clear hi); (try clear ho0); have hcz30_0 : w29.cell? ⟨gb476, 0, none⟩ = some (.string a1_0) := (blk_cell BK476.out 0).trans rfl; have hcz30_1 : w29.cell? ⟨gb476, 1, none⟩ = some (.int .i64 a1_1) := (blk_cell BK476.out 1).trans rfl; have hfz30_0 := blk_frozen BK476.out 0; have hfz30_1 := blk_frozen BK476.out 1) | ((with_reducible refine gate_callee (f := 38) rfl ?_); refine goesL_ (some 43) rfl rfl Try.func38 (by kernel_rfl) rfl #[.agg #[.string a1_0, .int .i64 a1_1]] rfl ln_ ?_; (with_reducible refine (laws_toWant.calls a1_0 a1_1 t492 t493 _ A17.out).mono ?_); rintro e w31 ⟨rfl, hb⟩; refine ⟨_, rfl, ?_⟩; have n0_ := Aside0.mk (Kd.R_below (kr_ HO481) hb); have n1_ := Aside0.mk (Kd.R_below (kr_ HO486) hb); have n2_ := Aside0.mk (Kd.R_below (kr_ HO491) hb); have n3_ := Aside0.mk (blk_below (g := gb476) (o := .cells #[.string a1_0, .int .i64 a1_1] 52 (0, 0)) (bk_ BK476) hb); have n4_ := Aside0.mk (below_step (hg_ GE476) hb); clear HO481; clear HO486; clear HO491; clear BK476; clear HB; have HO481 := n0_; have HO486 := n1_; have HO491 := n2_; have BK476 := n3_; have HB := n4_; clear n0_ n1_ n2_ n3_ n4_; (try clear hb); (try clear hb2); (try clear hk); (try clear hi); obtain ⟨Ao32, co32, eo32⟩ := Kd.R_slice HO491.out; subst eo32) | ((with_reducible refine gate_callee (f := 41) rfl ?_); refine goesL_ (some 44) rfl rfl Try.func41 (by kernel_rfl) rfl #[.slice Ao32 t489.length co32, .agg #[.string t492, .int .i64 t493]] rfl ln_ ?_; (with_reducible refine (impl_CutPiece.calls k _ _ t489 t492 t493 t494 t497 t498 _ ?side1 ?side2 A18.out).mono ?_); (case side1 => repeat (first | exact (Kd.R_reads' HO491.out).2.2 | (with_reducible refine Kd.C_alloc ?_ _) | (with_reducible refine Kd.C_drewN ?_ _) | (with_reducible refine Kd.C_drew ?_))); (case side2 => exact (Kd.R_reads' HO491.out).2.1); rintro e w33 ⟨v495, rfl, ho0, hb⟩; refine ⟨_, rfl, ?_⟩; have n0_ := Aside0.mk (Kd.R_elder' (kr_ HO481) (Kd.R_base ho0) hb); have n1_ := Aside0.mk (Kd.R_elder' (kr_ HO486) (Kd.R_base ho0) hb); have n2_ := Aside0.mk (Kd.R_elder' (kr_ HO491) (Kd.R_base ho0) hb); have n3_ := Aside0.mk (Kd.R_lower (Kd.R_new' (Kd.R_new' (Kd.R_new' ho0 (Kd.R_lt (kr_ HO481))) (Kd.R_lt (kr_ HO486))) (Kd.R_lt (kr_ HO491))) (below_size (hg_ GE476))); have n4_ := Aside0.mk (blk_below (g := gb476) (o := .cells #[.string a1_0, .int .i64 a1_1] 52 (0, 0)) (bk_ BK476) hb); have n5_ := Aside0.mk (below_step (hg_ GE476) hb); clear HO481; clear HO486; clear HO491; clear BK476; clear HB; have HO481 := n0_; have HO486 := n1_; have HO491 := n2_; have HO496 := n3_; have BK476 := n4_; have HB := n5_; clear n0_ n1_ n2_ n3_ n4_ n5_; (try clear hb); (try clear hb2); (try clear hk); (try clear hi); (try clear ho0)))
   (try simp only [Act.put, List.setIfInBounds_toArray, List.set_cons_zero, List.set_cons_succ])
   go_cut [61] (fun v61 wc => ∃ (kq : Nat) (x61_18 : Bool), v61 = .bool x61_18 ∧ Aside0 (laws_FnExactCutPiece.j0 kq l0 t484 t487 t488 t489 t494 t497 t498 x61_18 a1_0 a1_1 = some r) ∧ Aside0 (kq ≤ k) ∧ Aside0 (Kd.R k45 45 wc w.heap.size (fun k_ => some k_ ≠ ((.slice Ao32 t489.length co32) : Value).ownBlock ∧ some k_ ≠ (v495 : Value).ownBlock) v485 t484) ∧ Aside0 (Kd.R k45 45 wc w.heap.size (fun k_ => some k_ ≠ (v485 : Value).ownBlock ∧ some k_ ≠ (v495 : Value).ownBlock) (.slice Ao32 t489.length co32) t489) ∧ Aside0 (Kd.R k45 45 wc w.heap.size (fun k_ => some k_ ≠ (v485 : Value).ownBlock ∧ some k_ ≠ ((.slice Ao32 t489.length co32) : Value).ownBlock) v495 t494) ∧ Aside0 (wc.heap[gb476]? = some (.cells #[.string a1_0, .int .i64 a1_1] 52 (0, 0))) ∧ Aside0 (Below w.heap.size w wc))
   case first =>
    have H := HC19.out
    clear HC19
    replace H := Option.bind_eq_some_iff.mp H
    obtain ⟨t499, A340, H⟩ := H
    replace H : (if t499 = true then (if t497 = t487 then (laws_FnExactCutPiece.j0 k l0 t484 t487 t488 t489 t494 t497 t498 (t498 != t488) a1_0 a1_1) else (laws_FnExactCutPiece.j0 k l0 t484 t487 t488 t489 t494 t497 t498 true a1_0 a1_1)) else (laws_FnExactCutPiece.j0 k l0 t484 t487 t488 t489 t494 t497 t498 true a1_0 a1_1)) = some r := H
    have A34 := Aside0.mk A340
    clear A340
    by_cases c35 : t499 = true
    ·subst c35
     have H1 : (if t497 = t487 then (laws_FnExactCutPiece.j0 k l0 t484 t487 t488 t489 t494 t497 t498 (t498 != t488) a1_0 a1_1) else (laws_FnExactCutPiece.j0 k l0 t484 t487 t488 t489 t494 t497 t498 true a1_0 a1_1)) = some r := by rw [if_pos rfl] at H; exact H
     clear H
     have H := H1
     clear H1
     by_cases c36 : t497 = t487
     ·rw [if_pos c36] at H
      have c36b0 : (t497 == t487) = true := beq_iff_eq.mpr c36
      have c36b1 : (t497 != t487) = false := bne_eq_false_iff_eq.mpr c36
      clear c36
      (first | rw [c36b0] | (simp only [i64_w, i32_w]; rw [c36b0]) | skip)
      have H' := Aside0.mk H
      clear H
      obtain ⟨Ao37, co37, eo37⟩ := Kd.R_slice HO496.out
      subst eo37
      obtain ⟨Ao38, co38, eo38⟩ := Kd.R_slice HO486.out
      subst eo38
      go_wp2_with (first | ((with_reducible refine gate_callee (f := 18) rfl ?_); refine goesL_ (some 50) rfl rfl Try.func18 (by kernel_rfl) rfl #[.slice Ao37 t494.length co37, .slice Ao38 t484.length co38] rfl ln_ ?_; (with_reducible refine (laws_eqCoilS.calls k _ _ t494 _ _ t484 true _ ?side1 ?side2 ?side3 ?side4 A34.out).mono ?_); (case side1 => repeat (first | exact (Kd.R_reads' HO496.out).2.2 | (with_reducible refine Kd.C_alloc ?_ _) | (with_reducible refine Kd.C_drewN ?_ _) | (with_reducible refine Kd.C_drew ?_))); (case side2 => exact (Kd.R_reads' HO496.out).2.1); (case side3 => repeat (first | exact (Kd.R_reads' HO486.out).2.2 | (with_reducible refine Kd.C_alloc ?_ _) | (with_reducible refine Kd.C_drewN ?_ _) | (with_reducible refine Kd.C_drew ?_))); (case side4 => exact (Kd.R_reads' HO486.out).2.1); rintro e w39 ⟨rfl, hb⟩; refine ⟨_, rfl, ?_⟩; have n0_ := Aside0.mk (Kd.R_below (kr_ HO481) hb); have n1_ := Aside0.mk (Kd.R_below (kr_ HO486) hb); have n2_ := Aside0.mk (Kd.R_below (kr_ HO491) hb); have n3_ := Aside0.mk (Kd.R_below (kr_ HO496) hb); have n4_ := Aside0.mk (blk_below (g := gb476) (o := .cells #[.string a1_0, .int .i64 a1_1] 52 (0, 0)) (bk_ BK476) hb); have n5_ := Aside0.mk (below_step (hg_ GE476) hb); clear HO481; clear HO486; clear HO491; clear HO496; clear BK476; clear HB; have HO481 := n0_; have HO486 := n1_; have HO491 := n2_; have HO496 := n3_; have BK476 := n4_; have HB := n5_; clear n0_ n1_ n2_ n3_ n4_ n5_; (try clear hb); (try clear hb2); (try clear hk); (try clear hi)))
      go_meet
      case rel => exact ⟨_, ((t498 != t488)), (by first | rfl | (simp; done) | (simp [*]; done)), H', ⟨by first | omega | exact Nat.le_refl _⟩, ⟨by (with_reducible repeat (first | apply Kd.R_alloc | apply Kd.R_drewN | apply Kd.R_drew)); exact Kd.R_mono HO486.out (fun _ hk => ⟨hk.1.2, hk.2⟩)⟩, ⟨by (with_reducible repeat (first | apply Kd.R_alloc | apply Kd.R_drewN | apply Kd.R_drew)); exact Kd.R_mono HO491.out (fun _ hk => ⟨hk.1.2, hk.2⟩)⟩, ⟨by (with_reducible repeat (first | apply Kd.R_alloc | apply Kd.R_drewN | apply Kd.R_drew)); exact Kd.R_mono HO496.out (fun _ hk => ⟨hk.1.2, hk.2⟩)⟩, ⟨by (with_reducible repeat (first | refine blk_drewN ?_ _ | refine blk_drew ?_ | refine blk_alloc ?_ _)); exact BK476.out⟩, ⟨(hg_ GE476)⟩⟩
     ·rw [if_neg c36] at H
      have c36b0 : (t497 == t487) = false := beq_eq_false_iff_ne.mpr c36
      have c36b1 : (t497 != t487) = true := bne_iff_ne.mpr c36
      (first | rw [c36b0] | (simp only [i64_w, i32_w]; rw [c36b0]) | skip)
      have H' := Aside0.mk H
      clear H
      obtain ⟨Ao40, co40, eo40⟩ := Kd.R_slice HO496.out
      subst eo40
      obtain ⟨Ao41, co41, eo41⟩ := Kd.R_slice HO486.out
      subst eo41
      go_wp2_with (first | ((with_reducible refine gate_callee (f := 18) rfl ?_); refine goesL_ (some 50) rfl rfl Try.func18 (by kernel_rfl) rfl #[.slice Ao40 t494.length co40, .slice Ao41 t484.length co41] rfl ln_ ?_; (with_reducible refine (laws_eqCoilS.calls k _ _ t494 _ _ t484 true _ ?side1 ?side2 ?side3 ?side4 A34.out).mono ?_); (case side1 => repeat (first | exact (Kd.R_reads' HO496.out).2.2 | (with_reducible refine Kd.C_alloc ?_ _) | (with_reducible refine Kd.C_drewN ?_ _) | (with_reducible refine Kd.C_drew ?_))); (case side2 => exact (Kd.R_reads' HO496.out).2.1); (case side3 => repeat (first | exact (Kd.R_reads' HO486.out).2.2 | (with_reducible refine Kd.C_alloc ?_ _) | (with_reducible refine Kd.C_drewN ?_ _) | (with_reducible refine Kd.C_drew ?_))); (case side4 => exact (Kd.R_reads' HO486.out).2.1); rintro e w42 ⟨rfl, hb⟩; refine ⟨_, rfl, ?_⟩; have n0_ := Aside0.mk (Kd.R_below (kr_ HO481) hb); have n1_ := Aside0.mk (Kd.R_below (kr_ HO486) hb); have n2_ := Aside0.mk (Kd.R_below (kr_ HO491) hb); have n3_ := Aside0.mk (Kd.R_below (kr_ HO496) hb); have n4_ := Aside0.mk (blk_below (g := gb476) (o := .cells #[.string a1_0, .int .i64 a1_1] 52 (0, 0)) (bk_ BK476) hb); have n5_ := Aside0.mk (below_step (hg_ GE476) hb); clear HO481; clear HO486; clear HO491; clear HO496; clear BK476; clear HB; have HO481 := n0_; have HO486 := n1_; have HO491 := n2_; have HO496 := n3_; have BK476 := n4_; have HB := n5_; clear n0_ n1_ n2_ n3_ n4_ n5_; (try clear hb); (try clear hb2); (try clear hk); (try clear hi)))
      go_meet
      case rel => exact ⟨_, (true), (by first | rfl | (simp; done) | (simp [*]; done)), H', ⟨by first | omega | exact Nat.le_refl _⟩, ⟨by (with_reducible repeat (first | apply Kd.R_alloc | apply Kd.R_drewN | apply Kd.R_drew)); exact Kd.R_mono HO486.out (fun _ hk => ⟨hk.1.2, hk.2⟩)⟩, ⟨by (with_reducible repeat (first | apply Kd.R_alloc | apply Kd.R_drewN | apply Kd.R_drew)); exact Kd.R_mono HO491.out (fun _ hk => ⟨hk.1.2, hk.2⟩)⟩, ⟨by (with_reducible repeat (first | apply Kd.R_alloc | apply Kd.R_drewN | apply Kd.R_drew)); exact Kd.R_mono HO496.out (fun _ hk => ⟨hk.1.2, hk.2⟩)⟩, ⟨by (with_reducible repeat (first | refine blk_drewN ?_ _ | refine blk_drew ?_ | refine blk_alloc ?_ _)); exact BK476.out⟩, ⟨(hg_ GE476)⟩⟩
    ·replace c35 := Bool.eq_false_iff.mpr c35
     subst c35
     have H1 : (laws_FnExactCutPiece.j0 k l0 t484 t487 t488 t489 t494 t497 t498 true a1_0 a1_1) = some r := by rw [if_neg (show ¬ (false = true) by decide)] at H; exact H
     clear H
     have H := H1
     clear H1
     have H' := Aside0.mk H
     clear H
     obtain ⟨Ao43, co43, eo43⟩ := Kd.R_slice HO496.out
     subst eo43
     obtain ⟨Ao44, co44, eo44⟩ := Kd.R_slice HO486.out
     subst eo44
     go_wp2_with (first | ((with_reducible refine gate_callee (f := 18) rfl ?_); refine goesL_ (some 50) rfl rfl Try.func18 (by kernel_rfl) rfl #[.slice Ao43 t494.length co43, .slice Ao44 t484.length co44] rfl ln_ ?_; (with_reducible refine (laws_eqCoilS.calls k _ _ t494 _ _ t484 false _ ?side1 ?side2 ?side3 ?side4 A34.out).mono ?_); (case side1 => repeat (first | exact (Kd.R_reads' HO496.out).2.2 | (with_reducible refine Kd.C_alloc ?_ _) | (with_reducible refine Kd.C_drewN ?_ _) | (with_reducible refine Kd.C_drew ?_))); (case side2 => exact (Kd.R_reads' HO496.out).2.1); (case side3 => repeat (first | exact (Kd.R_reads' HO486.out).2.2 | (with_reducible refine Kd.C_alloc ?_ _) | (with_reducible refine Kd.C_drewN ?_ _) | (with_reducible refine Kd.C_drew ?_))); (case side4 => exact (Kd.R_reads' HO486.out).2.1); rintro e w45 ⟨rfl, hb⟩; refine ⟨_, rfl, ?_⟩; have n0_ := Aside0.mk (Kd.R_below (kr_ HO481) hb); have n1_ := Aside0.mk (Kd.R_below (kr_ HO486) hb); have n2_ := Aside0.mk (Kd.R_below (kr_ HO491) hb); have n3_ := Aside0.mk (Kd.R_below (kr_ HO496) hb); have n4_ := Aside0.mk (blk_below (g := gb476) (o := .cells #[.string a1_0, .int .i64 a1_1] 52 (0, 0)) (bk_ BK476) hb); have n5_ := Aside0.mk (below_step (hg_ GE476) hb); clear HO481; clear HO486; clear HO491; clear HO496; clear BK476; clear HB; have HO481 := n0_; have HO486 := n1_; have HO491 := n2_; have HO496 := n3_; have BK476 := n4_; have HB := n5_; clear n0_ n1_ n2_ n3_ n4_ n5_; (try clear hb); (try clear hb2); (try clear hk); (try clear hi)))
     go_meet
     case rel => exact ⟨_, (true), (by first | rfl | (simp; done) | (simp [*]; done)), H', ⟨by first | omega | exact Nat.le_refl _⟩, ⟨by (with_reducible repeat (first | apply Kd.R_alloc | apply Kd.R_drewN | apply Kd.R_drew)); exact Kd.R_mono HO486.out (fun _ hk => ⟨hk.1.2, hk.2⟩)⟩, ⟨by (with_reducible repeat (first | apply Kd.R_alloc | apply Kd.R_drewN | apply Kd.R_drew)); exact Kd.R_mono HO491.out (fun _ hk => ⟨hk.1.2, hk.2⟩)⟩, ⟨by (with_reducible repeat (first | apply Kd.R_alloc | apply Kd.R_drewN | apply Kd.R_drew)); exact Kd.R_mono HO496.out (fun _ hk => ⟨hk.1.2, hk.2⟩)⟩, ⟨by (with_reducible repeat (first | refine blk_drewN ?_ _ | refine blk_drew ?_ | refine blk_alloc ?_ _)); exact BK476.out⟩, ⟨(hg_ GE476)⟩⟩
   case rest =>
    clear HC19
    try clear c1
    try clear p2
    try clear c3
    try clear c4
    try clear c4b0
    try clear c8
    try clear c8b0
    try clear c10
    try clear c14
    try clear c16
    try clear c18
    try clear c35
    try clear c36
    try clear c36b0
    try clear c36b1
    try clear c38
    try clear c40
    try clear c41
    try clear hcz11_0
    try clear hcz11_1
    try clear hcz22_0
    try clear hcz22_1
    try clear hcz30_0
    try clear hcz30_1
    try clear hfz11_0
    try clear hfz11_1
    try clear hfz22_0
    try clear hfz22_1
    try clear hfz30_0
    try clear hfz30_1
    obtain ⟨kq, x61_18, rfl, HA, HJ18, HO_6, HO_9, HO_10, BK476, HB⟩ := hcut
    cases kq with
    | zero => exact absurd HA.out (by simp [laws_FnExactCutPiece.j0])
    | succ kj18 =>
     have H := HA.out
     clear HA
     simp only [laws_FnExactCutPiece.j0] at H
     by_cases c46 : x61_18 = true
     ·subst c46
      have H1 : (some false) = some r := by rw [if_pos rfl] at H; exact H
      clear H
      have H := H1
      clear H1
      obtain rfl := Option.some.inj H
      go_wp2
      go_ret
      exact ⟨ew_, (hg_ GE476)⟩
     ·replace c46 := Bool.eq_false_iff.mpr c46
      subst c46
      have H1 : ((laws_toCoilS.f kj18 l0).bind fun t500 => ((laws_eqCoilS.f kj18 t489 t500).bind fun t503 => (if t503 = true then ((laws_markCoilS.f kj18 t489 1).bind fun bt504 => (if bt504.1 < 0 then (laws_FnExactCutPiece.j1 kj18 l0 t484 t487 t488 t494 true a1_0 a1_1) else ((laws_eqCoilS.f kj18 t494 t484).bind fun t506 => (if t506 = true then (if t497 = t487 then (laws_FnExactCutPiece.j1 kj18 l0 t484 t487 t488 t494 (t498 != t488) a1_0 a1_1) else (laws_FnExactCutPiece.j1 kj18 l0 t484 t487 t488 t494 true a1_0 a1_1)) else (laws_FnExactCutPiece.j1 kj18 l0 t484 t487 t488 t494 true a1_0 a1_1))))) else (some false)))) = some r := by rw [if_neg (show ¬ (false = true) by decide)] at H; exact H
      clear H
      have H := H1
      clear H1
      replace H := Option.bind_eq_some_iff.mp H
      obtain ⟨t500, A470, H⟩ := H
      replace H : ((laws_eqCoilS.f kj18 t489 t500).bind fun t503 => (if t503 = true then ((laws_markCoilS.f kj18 t489 1).bind fun bt504 => (if bt504.1 < 0 then (laws_FnExactCutPiece.j1 kj18 l0 t484 t487 t488 t494 true a1_0 a1_1) else ((laws_eqCoilS.f kj18 t494 t484).bind fun t506 => (if t506 = true then (if t497 = t487 then (laws_FnExactCutPiece.j1 kj18 l0 t484 t487 t488 t494 (t498 != t488) a1_0 a1_1) else (laws_FnExactCutPiece.j1 kj18 l0 t484 t487 t488 t494 true a1_0 a1_1)) else (laws_FnExactCutPiece.j1 kj18 l0 t484 t487 t488 t494 true a1_0 a1_1))))) else (some false))) = some r := H
      have A47 := Aside0.mk A470
      clear A470
      replace H := Option.bind_eq_some_iff.mp H
      obtain ⟨t503, A480, H⟩ := H
      replace H : (if t503 = true then ((laws_markCoilS.f kj18 t489 1).bind fun bt504 => (if bt504.1 < 0 then (laws_FnExactCutPiece.j1 kj18 l0 t484 t487 t488 t494 true a1_0 a1_1) else ((laws_eqCoilS.f kj18 t494 t484).bind fun t506 => (if t506 = true then (if t497 = t487 then (laws_FnExactCutPiece.j1 kj18 l0 t484 t487 t488 t494 (t498 != t488) a1_0 a1_1) else (laws_FnExactCutPiece.j1 kj18 l0 t484 t487 t488 t494 true a1_0 a1_1)) else (laws_FnExactCutPiece.j1 kj18 l0 t484 t487 t488 t494 true a1_0 a1_1))))) else (some false)) = some r := H
      have A48 := Aside0.mk A480
      clear A480
      by_cases c49 : t503 = true
      ·subst c49
       have H1 : ((laws_markCoilS.f kj18 t489 1).bind fun bt504 => (if bt504.1 < 0 then (laws_FnExactCutPiece.j1 kj18 l0 t484 t487 t488 t494 true a1_0 a1_1) else ((laws_eqCoilS.f kj18 t494 t484).bind fun t506 => (if t506 = true then (if t497 = t487 then (laws_FnExactCutPiece.j1 kj18 l0 t484 t487 t488 t494 (t498 != t488) a1_0 a1_1) else (laws_FnExactCutPiece.j1 kj18 l0 t484 t487 t488 t494 true a1_0 a1_1)) else (laws_FnExactCutPiece.j1 kj18 l0 t484 t487 t488 t494 true a1_0 a1_1))))) = some r := by rw [if_pos rfl] at H; exact H
       clear H
       have H := H1
       clear H1
       replace H := Option.bind_eq_some_iff.mp H
       obtain ⟨⟨t504, t505⟩, A500, H⟩ := H
       replace H : (if t504 < 0 then (laws_FnExactCutPiece.j1 kj18 l0 t484 t487 t488 t494 true a1_0 a1_1) else ((laws_eqCoilS.f kj18 t494 t484).bind fun t506 => (if t506 = true then (if t497 = t487 then (laws_FnExactCutPiece.j1 kj18 l0 t484 t487 t488 t494 (t498 != t488) a1_0 a1_1) else (laws_FnExactCutPiece.j1 kj18 l0 t484 t487 t488 t494 true a1_0 a1_1)) else (laws_FnExactCutPiece.j1 kj18 l0 t484 t487 t488 t494 true a1_0 a1_1)))) = some r := H
       have A50 := Aside0.mk A500
       clear A500
       have HC51 := Aside0.mk H
       clear H
       go_upto_region 17 with (first | ((with_reducible refine gate_callee (f := 16) rfl ?_); refine goesL_ (some 64) rfl rfl Try.func16 (by kernel_rfl) rfl #[.slice A0 l0.length c0] rfl ln_ ?_; (with_reducible refine (laws_toCoilS.calls kj18 _ _ l0 t500 _ ?side1 ?side2 A47.out).mono ?_); (case side1 => exact kc_ (Kd.C_below HR0.out HB.out)); (case side2 => exact HC0.out); rintro e w52 ⟨v501, rfl, ho0, hb⟩; refine ⟨_, rfl, ?_⟩; have n0_ := Aside0.mk (Kd.R_elder' (kr_ HO_6) (Kd.R_base ho0) hb); have n1_ := Aside0.mk (Kd.R_elder' (kr_ HO_9) (Kd.R_base ho0) hb); have n2_ := Aside0.mk (Kd.R_elder' (kr_ HO_10) (Kd.R_base ho0) hb); have n3_ := Aside0.mk (Kd.R_lower (Kd.R_new' (Kd.R_new' (Kd.R_new' ho0 (Kd.R_lt (kr_ HO_6))) (Kd.R_lt (kr_ HO_9))) (Kd.R_lt (kr_ HO_10))) (below_size (hg_ GE476))); have n4_ := Aside0.mk (blk_below (g := gb476) (o := .cells #[.string a1_0, .int .i64 a1_1] 52 (0, 0)) (bk_ BK476) hb); have n5_ := Aside0.mk (below_step (hg_ GE476) hb); clear HO_6; clear HO_9; clear HO_10; clear BK476; clear HB; have HO_6 := n0_; have HO_9 := n1_; have HO_10 := n2_; have HO502 := n3_; have BK476 := n4_; have HB := n5_; clear n0_ n1_ n2_ n3_ n4_ n5_; (try clear hb); (try clear hb2); (try clear hk); (try clear hi); (try clear ho0); obtain ⟨Ao53, co53, eo53⟩ := Kd.R_slice HO502.out; subst eo53) | ((with_reducible refine gate_callee (f := 18) rfl ?_); refine goesL_ (some 65) rfl rfl Try.func18 (by kernel_rfl) rfl #[.slice Ao32 t489.length co32, .slice Ao53 t500.length co53] rfl ln_ ?_; (with_reducible refine (laws_eqCoilS.calls kj18 _ _ t489 _ _ t500 true _ ?side1 ?side2 ?side3 ?side4 A48.out).mono ?_); (case side1 => repeat (first | exact (Kd.R_reads' HO_9.out).2.2 | (with_reducible refine Kd.C_alloc ?_ _) | (with_reducible refine Kd.C_drewN ?_ _) | (with_reducible refine Kd.C_drew ?_))); (case side2 => exact (Kd.R_reads' HO_9.out).2.1); (case side3 => repeat (first | exact (Kd.R_reads' HO502.out).2.2 | (with_reducible refine Kd.C_alloc ?_ _) | (with_reducible refine Kd.C_drewN ?_ _) | (with_reducible refine Kd.C_drew ?_))); (case side4 => exact (Kd.R_reads' HO502.out).2.1); rintro e w54 ⟨rfl, hb⟩; refine ⟨_, rfl, ?_⟩; have n0_ := Aside0.mk (Kd.R_below (kr_ HO_6) hb); have n1_ := Aside0.mk (Kd.R_below (kr_ HO_9) hb); have n2_ := Aside0.mk (Kd.R_below (kr_ HO_10) hb); have n3_ := Aside0.mk (Kd.R_below (kr_ HO502) hb); have n4_ := Aside0.mk (blk_below (g := gb476) (o := .cells #[.string a1_0, .int .i64 a1_1] 52 (0, 0)) (bk_ BK476) hb); have n5_ := Aside0.mk (below_step (hg_ GE476) hb); clear HO_6; clear HO_9; clear HO_10; clear HO502; clear BK476; clear HB; have HO_6 := n0_; have HO_9 := n1_; have HO_10 := n2_; have HO502 := n3_; have BK476 := n4_; have HB := n5_; clear n0_ n1_ n2_ n3_ n4_ n5_; (try clear hb); (try clear hb2); (try clear hk); (try clear hi)) | ((with_reducible refine gate_callee (f := 32) rfl ?_); refine goesL_ (some 69) rfl rfl Try.func32 (by kernel_rfl) rfl #[.slice Ao32 t489.length co32, .int .i64 1] rfl ln_ ?_; (with_reducible refine (laws_markCoilS.calls kj18 (fun k_ => some k_ = (.slice Ao32 t489.length co32 : Value).ownBlock) (.slice Ao32 t489.length co32) t489 1 t504 t505 w _ ?side1 ?side2 A50.out).mono ?_); (case side1 => repeat (first | (with_reducible first | exact HB.out | apply below_alloc | apply pw_below_drewN | apply below_drew1 | refine below_set ?_ GE476.out) | exact HB.out)); (case side2 => exact Kd.R_tight rfl HO_9.out); rintro e w55 ⟨rfl, hy0, hb, hkp⟩; refine ⟨_, rfl, ?_⟩; have n0_ := Aside0.mk (Kd.R_mono (ok' := fun k_ => some k_ ≠ (.slice Ao32 t489.length co32 : Value).ownBlock ∧ some k_ ≠ (v495 : Value).ownBlock ∧ some k_ ≠ (.slice Ao53 t500.length co53 : Value).ownBlock) (Kd.R_keptB (HO_6.out) hkp (fun k_ hk_ hs_ => (hk_.1.1) hs_)) (fun k_ hk_ => ⟨hk_.1.1.1, hk_.1.1.2, hk_.1.2⟩)); have n1_ := Aside0.mk (Kd.R_reok rfl hy0 (fun k_ e_ => HO_9.out.1 k_ e_)); have n2_ := Aside0.mk (Kd.R_mono (ok' := fun k_ => some k_ ≠ (v485 : Value).ownBlock ∧ some k_ ≠ (.slice Ao32 t489.length co32 : Value).ownBlock ∧ some k_ ≠ (.slice Ao53 t500.length co53 : Value).ownBlock) (Kd.R_keptB (HO_10.out) hkp (fun k_ hk_ hs_ => (hk_.1.2) hs_)) (fun k_ hk_ => ⟨hk_.1.1.1, hk_.1.1.2, hk_.1.2⟩)); have n3_ := Aside0.mk (blk_kept (bk_ BK476) hkp (fun hs_ => (fun e_ => (Kd.R_ne HO_9.out BK476.out (by decide)) e_) hs_)); have n4_ := Aside0.mk (Kd.R_mono (ok' := fun k_ => some k_ ≠ (v485 : Value).ownBlock ∧ some k_ ≠ (.slice Ao32 t489.length co32 : Value).ownBlock ∧ some k_ ≠ (v495 : Value).ownBlock) (Kd.R_keptB (HO502.out) hkp (fun k_ hk_ hs_ => (hk_.1.2) hs_)) (fun k_ hk_ => ⟨hk_.1.1.1.2, hk_.1.1.2, hk_.1.2⟩)); have n5_ := Aside0.mk (hb); clear HO_6; clear HO_9; clear HO_10; clear BK476; clear HO502; clear HB; have HO_6 := n0_; have HO_9 := n1_; have HO_10 := n2_; have BK476 := n3_; have HO502 := n4_; have HB := n5_; clear n0_ n1_ n2_ n3_ n4_ n5_; (try clear hb); (try clear hkp); (try clear hy0)))
       (try simp only [Act.put, List.setIfInBounds_toArray, List.set_cons_zero, List.set_cons_succ])
       go_cut [87] (fun v87 wc => ∃ (kq : Nat) (x87_50 : Bool), v87 = .bool x87_50 ∧ Aside0 (laws_FnExactCutPiece.j1 kq l0 t484 t487 t488 t494 x87_50 a1_0 a1_1 = some r) ∧ Aside0 (kq ≤ kj18) ∧ Aside0 (Kd.R k45 45 wc w.heap.size (fun k_ => some k_ ≠ (v495 : Value).ownBlock) v485 t484) ∧ Aside0 (Kd.R k45 45 wc w.heap.size (fun k_ => some k_ ≠ (v485 : Value).ownBlock) v495 t494) ∧ Aside0 (wc.heap[gb476]? = some (.cells #[.string a1_0, .int .i64 a1_1] 52 (0, 0))) ∧ Aside0 (Below w.heap.size w wc))
       case first =>
        have H := HC51.out
        clear HC51
        by_cases c56 : t504 < 0
        ·rw [if_pos c56] at H
         have c56b0 : decide (t504 < 0) = true := decide_eq_true c56
         clear c56
         (first | rw [c56b0] | (simp only [i64_w, i32_w]; rw [c56b0]) | skip)
         have H' := Aside0.mk H
         clear H
         go_wp2
         go_meet
         case rel => exact ⟨_, (true), (by first | rfl | (simp; done) | (simp [*]; done)), H', ⟨by have := HJ18.out; first | omega | exact Nat.le_refl _⟩, ⟨by (with_reducible repeat (first | apply Kd.R_alloc | apply Kd.R_drewN | apply Kd.R_drew)); exact Kd.R_mono HO_6.out (fun _ hk => hk.2.1)⟩, ⟨by (with_reducible repeat (first | apply Kd.R_alloc | apply Kd.R_drewN | apply Kd.R_drew)); exact Kd.R_mono HO_10.out (fun _ hk => hk.1)⟩, ⟨by (with_reducible repeat (first | refine blk_drewN ?_ _ | refine blk_drew ?_ | refine blk_alloc ?_ _)); exact BK476.out⟩, ⟨(hg_ GE476)⟩⟩
        ·rw [if_neg c56] at H
         have c56b0 : decide (t504 < 0) = false := decide_eq_false c56
         clear c56
         (first | rw [c56b0] | (simp only [i64_w, i32_w]; rw [c56b0]) | skip)
         replace H := Option.bind_eq_some_iff.mp H
         obtain ⟨t506, A570, H⟩ := H
         replace H : (if t506 = true then (if t497 = t487 then (laws_FnExactCutPiece.j1 kj18 l0 t484 t487 t488 t494 (t498 != t488) a1_0 a1_1) else (laws_FnExactCutPiece.j1 kj18 l0 t484 t487 t488 t494 true a1_0 a1_1)) else (laws_FnExactCutPiece.j1 kj18 l0 t484 t487 t488 t494 true a1_0 a1_1)) = some r := H
         have A57 := Aside0.mk A570
         clear A570
         by_cases c58 : t506 = true
         ·subst c58
          have H1 : (if t497 = t487 then (laws_FnExactCutPiece.j1 kj18 l0 t484 t487 t488 t494 (t498 != t488) a1_0 a1_1) else (laws_FnExactCutPiece.j1 kj18 l0 t484 t487 t488 t494 true a1_0 a1_1)) = some r := by rw [if_pos rfl] at H; exact H
          clear H
          have H := H1
          clear H1
          by_cases c59 : t497 = t487
          ·rw [if_pos c59] at H
           have c59b0 : (t497 == t487) = true := beq_iff_eq.mpr c59
           have c59b1 : (t497 != t487) = false := bne_eq_false_iff_eq.mpr c59
           clear c59
           have H' := Aside0.mk H
           clear H
           obtain ⟨Ao60, co60, eo60⟩ := Kd.R_slice HO_10.out
           subst eo60
           obtain ⟨Ao61, co61, eo61⟩ := Kd.R_slice HO_6.out
           subst eo61
           go_wp2_with (first | (go_at_call 18; (with_reducible refine (laws_eqCoilS.calls kj18 _ _ t494 _ _ t484 true _ ?side1 ?side2 ?side3 ?side4 A57.out).mono ?_); (case side1 => repeat (first | exact (Kd.R_reads' HO_10.out).2.2 | (with_reducible refine Kd.C_alloc ?_ _) | (with_reducible refine Kd.C_drewN ?_ _) | (with_reducible refine Kd.C_drew ?_))); (case side2 => exact (Kd.R_reads' HO_10.out).2.1); (case side3 => repeat (first | exact (Kd.R_reads' HO_6.out).2.2 | (with_reducible refine Kd.C_alloc ?_ _) | (with_reducible refine Kd.C_drewN ?_ _) | (with_reducible refine Kd.C_drew ?_))); (case side4 => exact (Kd.R_reads' HO_6.out).2.1); rintro e w62 ⟨rfl, hb⟩; have n0_ := Aside0.mk (Kd.R_below (kr_ HO_6) hb); have n1_ := Aside0.mk (Kd.R_below (kr_ HO_9) hb); have n2_ := Aside0.mk (Kd.R_below (kr_ HO_10) hb); have n3_ := Aside0.mk (Kd.R_below (kr_ HO502) hb); have n4_ := Aside0.mk (blk_below (g := gb476) (o := .cells #[.string a1_0, .int .i64 a1_1] 52 (0, 0)) (bk_ BK476) hb); have n5_ := Aside0.mk (below_step (hg_ GE476) hb); clear HO_6; clear HO_9; clear HO_10; clear HO502; clear BK476; clear HB; have HO_6 := n0_; have HO_9 := n1_; have HO_10 := n2_; have HO502 := n3_; have BK476 := n4_; have HB := n5_; clear n0_ n1_ n2_ n3_ n4_ n5_; (try clear hb); (try clear hb2); (try clear hk); (try clear hi)))
           go_meet
           case rel => exact ⟨_, ((t498 != t488)), (by first | rfl | (simp; done) | (simp [*]; done)), H', ⟨by have := HJ18.out; first | omega | exact Nat.le_refl _⟩, ⟨by (with_reducible repeat (first | apply Kd.R_alloc | apply Kd.R_drewN | apply Kd.R_drew)); exact Kd.R_mono HO_6.out (fun _ hk => hk.2.1)⟩, ⟨by (with_reducible repeat (first | apply Kd.R_alloc | apply Kd.R_drewN | apply Kd.R_drew)); exact Kd.R_mono HO_10.out (fun _ hk => hk.1)⟩, ⟨by (with_reducible repeat (first | refine blk_drewN ?_ _ | refine blk_drew ?_ | refine blk_alloc ?_ _)); exact BK476.out⟩, ⟨(hg_ GE476)⟩⟩
          ·rw [if_neg c59] at H
           have c59b0 : (t497 == t487) = false := beq_eq_false_iff_ne.mpr c59
           have c59b1 : (t497 != t487) = true := bne_iff_ne.mpr c59
           have H' := Aside0.mk H
           clear H
           obtain ⟨Ao63, co63, eo63⟩ := Kd.R_slice HO_10.out
           subst eo63
           obtain ⟨Ao64, co64, eo64⟩ := Kd.R_slice HO_6.out
           subst eo64
           go_wp2_with (first | (go_at_call 18; (with_reducible refine (laws_eqCoilS.calls kj18 _ _ t494 _ _ t484 true _ ?side1 ?side2 ?side3 ?side4 A57.out).mono ?_); (case side1 => repeat (first | exact (Kd.R_reads' HO_10.out).2.2 | (with_reducible refine Kd.C_alloc ?_ _) | (with_reducible refine Kd.C_drewN ?_ _) | (with_reducible refine Kd.C_drew ?_))); (case side2 => exact (Kd.R_reads' HO_10.out).2.1); (case side3 => repeat (first | exact (Kd.R_reads' HO_6.out).2.2 | (with_reducible refine Kd.C_alloc ?_ _) | (with_reducible refine Kd.C_drewN ?_ _) | (with_reducible refine Kd.C_drew ?_))); (case side4 => exact (Kd.R_reads' HO_6.out).2.1); rintro e w65 ⟨rfl, hb⟩; have n0_ := Aside0.mk (Kd.R_below (kr_ HO_6) hb); have n1_ := Aside0.mk (Kd.R_below (kr_ HO_9) hb); have n2_ := Aside0.mk (Kd.R_below (kr_ HO_10) hb); have n3_ := Aside0.mk (Kd.R_below (kr_ HO502) hb); have n4_ := Aside0.mk (blk_below (g := gb476) (o := .cells #[.string a1_0, .int .i64 a1_1] 52 (0, 0)) (bk_ BK476) hb); have n5_ := Aside0.mk (below_step (hg_ GE476) hb); clear HO_6; clear HO_9; clear HO_10; clear HO502; clear BK476; clear HB; have HO_6 := n0_; have HO_9 := n1_; have HO_10 := n2_; have HO502 := n3_; have BK476 := n4_; have HB := n5_; clear n0_ n1_ n2_ n3_ n4_ n5_; (try clear hb); (try clear hb2); (try clear hk); (try clear hi)))
           go_meet
           case rel => exact ⟨_, (true), (by first | rfl | (simp; done) | (simp [*]; done)), H', ⟨by have := HJ18.out; first | omega | exact Nat.le_refl _⟩, ⟨by (with_reducible repeat (first | apply Kd.R_alloc | apply Kd.R_drewN | apply Kd.R_drew)); exact Kd.R_mono HO_6.out (fun _ hk => hk.2.1)⟩, ⟨by (with_reducible repeat (first | apply Kd.R_alloc | apply Kd.R_drewN | apply Kd.R_drew)); exact Kd.R_mono HO_10.out (fun _ hk => hk.1)⟩, ⟨by (with_reducible repeat (first | refine blk_drewN ?_ _ | refine blk_drew ?_ | refine blk_alloc ?_ _)); exact BK476.out⟩, ⟨(hg_ GE476)⟩⟩
         ·replace c58 := Bool.eq_false_iff.mpr c58
          subst c58
          have H1 : (laws_FnExactCutPiece.j1 kj18 l0 t484 t487 t488 t494 true a1_0 a1_1) = some r := by rw [if_neg (show ¬ (false = true) by decide)] at H; exact H
          clear H
          have H := H1
          clear H1
          have H' := Aside0.mk H
          clear H
          obtain ⟨Ao66, co66, eo66⟩ := Kd.R_slice HO_10.out
          subst eo66
          obtain ⟨Ao67, co67, eo67⟩ := Kd.R_slice HO_6.out
          subst eo67
          go_wp2_with (first | (go_at_call 18; (with_reducible refine (laws_eqCoilS.calls kj18 _ _ t494 _ _ t484 false _ ?side1 ?side2 ?side3 ?side4 A57.out).mono ?_); (case side1 => repeat (first | exact (Kd.R_reads' HO_10.out).2.2 | (with_reducible refine Kd.C_alloc ?_ _) | (with_reducible refine Kd.C_drewN ?_ _) | (with_reducible refine Kd.C_drew ?_))); (case side2 => exact (Kd.R_reads' HO_10.out).2.1); (case side3 => repeat (first | exact (Kd.R_reads' HO_6.out).2.2 | (with_reducible refine Kd.C_alloc ?_ _) | (with_reducible refine Kd.C_drewN ?_ _) | (with_reducible refine Kd.C_drew ?_))); (case side4 => exact (Kd.R_reads' HO_6.out).2.1); rintro e w68 ⟨rfl, hb⟩; have n0_ := Aside0.mk (Kd.R_below (kr_ HO_6) hb); have n1_ := Aside0.mk (Kd.R_below (kr_ HO_9) hb); have n2_ := Aside0.mk (Kd.R_below (kr_ HO_10) hb); have n3_ := Aside0.mk (Kd.R_below (kr_ HO502) hb); have n4_ := Aside0.mk (blk_below (g := gb476) (o := .cells #[.string a1_0, .int .i64 a1_1] 52 (0, 0)) (bk_ BK476) hb); have n5_ := Aside0.mk (below_step (hg_ GE476) hb); clear HO_6; clear HO_9; clear HO_10; clear HO502; clear BK476; clear HB; have HO_6 := n0_; have HO_9 := n1_; have HO_10 := n2_; have HO502 := n3_; have BK476 := n4_; have HB := n5_; clear n0_ n1_ n2_ n3_ n4_ n5_; (try clear hb); (try clear hb2); (try clear hk); (try clear hi)))
          go_meet
          case rel => exact ⟨_, (true), (by first | rfl | (simp; done) | (simp [*]; done)), H', ⟨by have := HJ18.out; first | omega | exact Nat.le_refl _⟩, ⟨by (with_reducible repeat (first | apply Kd.R_alloc | apply Kd.R_drewN | apply Kd.R_drew)); exact Kd.R_mono HO_6.out (fun _ hk => hk.2.1)⟩, ⟨by (with_reducible repeat (first | apply Kd.R_alloc | apply Kd.R_drewN | apply Kd.R_drew)); exact Kd.R_mono HO_10.out (fun _ hk => hk.1)⟩, ⟨by (with_reducible repeat (first | refine blk_drewN ?_ _ | refine blk_drew ?_ | refine blk_alloc ?_ _)); exact BK476.out⟩, ⟨(hg_ GE476)⟩⟩
       case rest =>
        clear HC51
        try clear c1
        try clear p2
        try clear c3
        try clear c4
        try clear c4b0
        try clear c5
        try clear c8
        try clear c8b0
        try clear c10
        try clear c14
        try clear c16
        try clear c18
        try clear c32
        try clear c35
        try clear c36
        try clear c36b0
        try clear c36b1
        try clear c38
        try clear c40
        try clear c41
        try clear c46
        try clear c49
        try clear c56
        try clear c56b0
        try clear c58
        try clear c59
        try clear c59b0
        try clear c59b1
        try clear hcz11_0
        try clear hcz11_1
        try clear hcz22_0
        try clear hcz22_1
        try clear hcz30_0
        try clear hcz30_1
        try clear hfz11_0
        try clear hfz11_1
        try clear hfz22_0
        try clear hfz22_1
        try clear hfz30_0
        try clear hfz30_1
        try clear p2
        obtain ⟨kq, x87_50, rfl, HA, HJ50, HO_6, HO_10, BK476, HB⟩ := hcut
        cases kq with
        | zero => exact absurd HA.out (by simp [laws_FnExactCutPiece.j1])
        | succ kj50 =>
         have H := HA.out
         clear HA
         simp only [laws_FnExactCutPiece.j1] at H
         by_cases c69 : x87_50 = true
         ·subst c69
          have H1 : (some false) = some r := by rw [if_pos rfl] at H; exact H
          clear H
          have H := H1
          clear H1
          obtain rfl := Option.some.inj H
          go_wp2
          go_ret
          exact ⟨ew_, (hg_ GE476)⟩
         ·replace c69 := Bool.eq_false_iff.mpr c69
          subst c69
          have H1 : ((laws_markCoilS.f kj50 t494 1).bind fun bt507 => ((laws_heldCoilS.f kj50 bt507.2 1).bind fun t509 => (if t509 < 0 then (some false) else (if t509 = bt507.1 then ((laws_toCoilS.f kj50 l0).bind fun t510 => ((laws_toWant.f a1_0 a1_1).bind fun bt513 => ((impl_CutPiece.f kj50 t510 bt513.1 bt513.2).bind fun bt515 => ((laws_eqCoilS.f kj50 bt515.1 t484).bind fun t520 => (if t520 = true then (if bt515.2.1 = t487 then (laws_FnExactCutPiece.j2 kj50 bt507.2 bt507.1 (bt515.2.2 != t488)) else (laws_FnExactCutPiece.j2 kj50 bt507.2 bt507.1 true)) else (laws_FnExactCutPiece.j2 kj50 bt507.2 bt507.1 true)))))) else (some false))))) = some r := by rw [if_neg (show ¬ (false = true) by decide)] at H; exact H
          clear H
          have H := H1
          clear H1
          replace H := Option.bind_eq_some_iff.mp H
          obtain ⟨⟨t507, t508⟩, A700, H⟩ := H
          replace H : ((laws_heldCoilS.f kj50 t508 1).bind fun t509 => (if t509 < 0 then (some false) else (if t509 = t507 then ((laws_toCoilS.f kj50 l0).bind fun t510 => ((laws_toWant.f a1_0 a1_1).bind fun bt513 => ((impl_CutPiece.f kj50 t510 bt513.1 bt513.2).bind fun bt515 => ((laws_eqCoilS.f kj50 bt515.1 t484).bind fun t520 => (if t520 = true then (if bt515.2.1 = t487 then (laws_FnExactCutPiece.j2 kj50 t508 t507 (bt515.2.2 != t488)) else (laws_FnExactCutPiece.j2 kj50 t508 t507 true)) else (laws_FnExactCutPiece.j2 kj50 t508 t507 true)))))) else (some false)))) = some r := H
          have A70 := Aside0.mk A700
          clear A700
          replace H := Option.bind_eq_some_iff.mp H
          obtain ⟨t509, A710, H⟩ := H
          replace H : (if t509 < 0 then (some false) else (if t509 = t507 then ((laws_toCoilS.f kj50 l0).bind fun t510 => ((laws_toWant.f a1_0 a1_1).bind fun bt513 => ((impl_CutPiece.f kj50 t510 bt513.1 bt513.2).bind fun bt515 => ((laws_eqCoilS.f kj50 bt515.1 t484).bind fun t520 => (if t520 = true then (if bt515.2.1 = t487 then (laws_FnExactCutPiece.j2 kj50 t508 t507 (bt515.2.2 != t488)) else (laws_FnExactCutPiece.j2 kj50 t508 t507 true)) else (laws_FnExactCutPiece.j2 kj50 t508 t507 true)))))) else (some false))) = some r := H
          have A71 := Aside0.mk A710
          clear A710
          by_cases c72 : t509 < 0
          ·rw [if_pos c72] at H
           have c72b0 : decide (t509 < 0) = true := decide_eq_true c72
           clear c72
           obtain rfl := Option.some.inj H
           obtain ⟨Ao73, co73, eo73⟩ := Kd.R_slice HO_10.out
           subst eo73
           go_wp2_with (first | ((with_reducible refine gate_callee (f := 32) rfl ?_); refine goesL_ (some 90) rfl rfl Try.func32 (by kernel_rfl) rfl #[.slice Ao73 t494.length co73, .int .i64 1] rfl ln_ ?_; (with_reducible refine (laws_markCoilS.calls kj50 (fun k_ => some k_ = (.slice Ao73 t494.length co73 : Value).ownBlock) (.slice Ao73 t494.length co73) t494 1 t507 t508 w _ ?side1 ?side2 A70.out).mono ?_); (case side1 => repeat (first | (with_reducible first | exact HB.out | apply below_alloc | apply pw_below_drewN | apply below_drew1 | refine below_set ?_ GE476.out) | exact HB.out)); (case side2 => exact Kd.R_tight rfl HO_10.out); rintro e w74 ⟨rfl, hy0, hb, hkp⟩; refine ⟨_, rfl, ?_⟩; have n0_ := Aside0.mk (Kd.R_mono (ok' := fun k_ => some k_ ≠ (.slice Ao73 t494.length co73 : Value).ownBlock) (Kd.R_keptB (HO_6.out) hkp (fun k_ hk_ hs_ => (hk_) hs_)) (fun k_ hk_ => hk_.1)); have n1_ := Aside0.mk (Kd.R_reok rfl hy0 (fun k_ e_ => HO_10.out.1 k_ e_)); have n2_ := Aside0.mk (blk_kept (bk_ BK476) hkp (fun hs_ => (fun e_ => (Kd.R_ne HO_10.out BK476.out (by decide)) e_) hs_)); have n3_ := Aside0.mk (hb); clear HO_6; clear HO_10; clear BK476; clear HB; have HO_6 := n0_; have HO_10 := n1_; have BK476 := n2_; have HB := n3_; clear n0_ n1_ n2_ n3_; (try clear hb); (try clear hkp); (try clear hy0)) | ((with_reducible refine gate_callee (f := 33) rfl ?_); refine goesL_ (some 93) rfl rfl Try.func33 (by kernel_rfl) rfl #[.slice Ao73 t508.length co73, .int .i64 1] rfl (by (try simp only [List.map_toArray, List.map_cons, List.map_nil]); first | done | (rw [show t508.length = t494.length from (Kd.R_reads' HO_10.out).1.symm] <;> rfl) | rfl | (simp only [List.length_drop, List.length_take]; rfl)) ?_; (with_reducible refine (laws_heldCoilS.calls kj50 _ _ t508 1 t509 _ ?side1 ?side2 A71.out).mono ?_); (case side1 => repeat (first | exact (Kd.R_reads' HO_10.out).2.2 | (with_reducible refine Kd.C_alloc ?_ _) | (with_reducible refine Kd.C_drewN ?_ _) | (with_reducible refine Kd.C_drew ?_))); (case side2 => rw [show t508.length = t494.length from (Kd.R_reads' HO_10.out).1.symm]; exact (Kd.R_reads' HO_10.out).2.1); rintro e w75 ⟨rfl, hb⟩; refine ⟨_, rfl, ?_⟩; have n0_ := Aside0.mk (Kd.R_below (kr_ HO_6) hb); have n1_ := Aside0.mk (Kd.R_below (kr_ HO_10) hb); have n2_ := Aside0.mk (blk_below (g := gb476) (o := .cells #[.string a1_0, .int .i64 a1_1] 52 (0, 0)) (bk_ BK476) hb); have n3_ := Aside0.mk (below_step (hg_ GE476) hb); clear HO_6; clear HO_10; clear BK476; clear HB; have HO_6 := n0_; have HO_10 := n1_; have BK476 := n2_; have HB := n3_; clear n0_ n1_ n2_ n3_; (try clear hb); (try clear hb2); (try clear hk); (try clear hi)))
           go_ret
           exact ⟨ew_, (hg_ GE476)⟩
          ·rw [if_neg c72] at H
           have c72b0 : decide (t509 < 0) = false := decide_eq_false c72
           clear c72
           by_cases c76 : t509 = t507
           ·rw [if_pos c76] at H
            have c76b0 : (t509 == t507) = true := beq_iff_eq.mpr c76
            have c76b1 : (t509 != t507) = false := bne_eq_false_iff_eq.mpr c76
            clear c76
            replace H := Option.bind_eq_some_iff.mp H
            obtain ⟨t510, A770, H⟩ := H
            replace H : ((laws_toWant.f a1_0 a1_1).bind fun bt513 => ((impl_CutPiece.f kj50 t510 bt513.1 bt513.2).bind fun bt515 => ((laws_eqCoilS.f kj50 bt515.1 t484).bind fun t520 => (if t520 = true then (if bt515.2.1 = t487 then (laws_FnExactCutPiece.j2 kj50 t508 t507 (bt515.2.2 != t488)) else (laws_FnExactCutPiece.j2 kj50 t508 t507 true)) else (laws_FnExactCutPiece.j2 kj50 t508 t507 true))))) = some r := H
            have A77 := Aside0.mk A770
            clear A770
            replace H := Option.bind_eq_some_iff.mp H
            obtain ⟨⟨t513, t514⟩, A780, H⟩ := H
            replace H : ((impl_CutPiece.f kj50 t510 t513 t514).bind fun bt515 => ((laws_eqCoilS.f kj50 bt515.1 t484).bind fun t520 => (if t520 = true then (if bt515.2.1 = t487 then (laws_FnExactCutPiece.j2 kj50 t508 t507 (bt515.2.2 != t488)) else (laws_FnExactCutPiece.j2 kj50 t508 t507 true)) else (laws_FnExactCutPiece.j2 kj50 t508 t507 true)))) = some r := H
            have A78 := Aside0.mk A780
            clear A780
            replace H := Option.bind_eq_some_iff.mp H
            obtain ⟨⟨t515, t518, t519⟩, A790, H⟩ := H
            replace H : ((laws_eqCoilS.f kj50 t515 t484).bind fun t520 => (if t520 = true then (if t518 = t487 then (laws_FnExactCutPiece.j2 kj50 t508 t507 (t519 != t488)) else (laws_FnExactCutPiece.j2 kj50 t508 t507 true)) else (laws_FnExactCutPiece.j2 kj50 t508 t507 true))) = some r := H
            have A79 := Aside0.mk A790
            clear A790
            have HC80 := Aside0.mk H
            clear H
            obtain ⟨Ao81, co81, eo81⟩ := Kd.R_slice HO_10.out
            subst eo81
            try go_wp2_with (first | ((with_reducible refine gate_callee (f := 32) rfl ?_); refine goesL_ (some 90) rfl rfl Try.func32 (by kernel_rfl) rfl #[.slice Ao81 t494.length co81, .int .i64 1] rfl ln_ ?_; (with_reducible refine (laws_markCoilS.calls kj50 (fun k_ => some k_ = (.slice Ao81 t494.length co81 : Value).ownBlock) (.slice Ao81 t494.length co81) t494 1 t507 t508 w _ ?side1 ?side2 A70.out).mono ?_); (case side1 => repeat (first | (with_reducible first | exact HB.out | apply below_alloc | apply pw_below_drewN | apply below_drew1 | refine below_set ?_ GE476.out) | exact HB.out)); (case side2 => exact Kd.R_tight rfl HO_10.out); rintro e w82 ⟨rfl, hy0, hb, hkp⟩; refine ⟨_, rfl, ?_⟩; have n0_ := Aside0.mk (Kd.R_mono (ok' := fun k_ => some k_ ≠ (.slice Ao81 t494.length co81 : Value).ownBlock) (Kd.R_keptB (HO_6.out) hkp (fun k_ hk_ hs_ => (hk_) hs_)) (fun k_ hk_ => hk_.1)); have n1_ := Aside0.mk (Kd.R_reok rfl hy0 (fun k_ e_ => HO_10.out.1 k_ e_)); have n2_ := Aside0.mk (blk_kept (bk_ BK476) hkp (fun hs_ => (fun e_ => (Kd.R_ne HO_10.out BK476.out (by decide)) e_) hs_)); have n3_ := Aside0.mk (hb); clear HO_6; clear HO_10; clear BK476; clear HB; have HO_6 := n0_; have HO_10 := n1_; have BK476 := n2_; have HB := n3_; clear n0_ n1_ n2_ n3_; (try clear hb); (try clear hkp); (try clear hy0)) | ((with_reducible refine gate_callee (f := 33) rfl ?_); refine goesL_ (some 93) rfl rfl Try.func33 (by kernel_rfl) rfl #[.slice Ao81 t508.length co81, .int .i64 1] rfl (by (try simp only [List.map_toArray, List.map_cons, List.map_nil]); first | done | (rw [show t508.length = t494.length from (Kd.R_reads' HO_10.out).1.symm] <;> rfl) | rfl | (simp only [List.length_drop, List.length_take]; rfl)) ?_; (with_reducible refine (laws_heldCoilS.calls kj50 _ _ t508 1 t509 _ ?side1 ?side2 A71.out).mono ?_); (case side1 => repeat (first | exact (Kd.R_reads' HO_10.out).2.2 | (with_reducible refine Kd.C_alloc ?_ _) | (with_reducible refine Kd.C_drewN ?_ _) | (with_reducible refine Kd.C_drew ?_))); (case side2 => rw [show t508.length = t494.length from (Kd.R_reads' HO_10.out).1.symm]; exact (Kd.R_reads' HO_10.out).2.1); rintro e w83 ⟨rfl, hb⟩; refine ⟨_, rfl, ?_⟩; have n0_ := Aside0.mk (Kd.R_below (kr_ HO_6) hb); have n1_ := Aside0.mk (Kd.R_below (kr_ HO_10) hb); have n2_ := Aside0.mk (blk_below (g := gb476) (o := .cells #[.string a1_0, .int .i64 a1_1] 52 (0, 0)) (bk_ BK476) hb); have n3_ := Aside0.mk (below_step (hg_ GE476) hb); clear HO_6; clear HO_10; clear BK476; clear HB; have HO_6 := n0_; have HO_10 := n1_; have BK476 := n2_; have HB := n3_; clear n0_ n1_ n2_ n3_; (try clear hb); (try clear hb2); (try clear hk); (try clear hi)))
            have n0_ := Aside0.mk (Kd.R_drew HO_6.out)
            have n1_ := Aside0.mk (Kd.R_drew HO_10.out)
            have n2_ := Aside0.mk (blk_drew BK476.out)
            have n3_ := Aside0.mk (below_drew1 HB.out)
            clear HO_6
            clear HO_10
            clear BK476
            clear HB
            have HO_6 := n0_
            have HO_10 := n1_
            have BK476 := n2_
            have HB := n3_
            clear n0_ n1_ n2_ n3_
            refine start_ (n := 12) (S := fun w' => w'.cell? ⟨gb476, 0, none⟩ = some (.string a1_0) ∧ w'.cell? ⟨gb476, 1, none⟩ = some (.int .i64 a1_1)) (ds := []) #[F_,F_,F_,F_,F_,F_,F_,F_,F_,F_,F_,F_] (by kernel_rfl) rfl rfl ⟨(blk_cell BK476.out 0).trans rfl, (blk_cell BK476.out 1).trans rfl⟩ (fun hHeld => ?_); refine with_tabW laws_FnExactCutPiece.tab27 laws_FnExactCutPiece.bits27 (fun HT_ HW_ => ?_)
            generalize w83.drew = w84 at HO_6 HO_10 BK476 HB hHeld ⊢
            refine pu (i := 0) (N := some 100) #[T_,F_,F_,F_,F_,F_,F_,F_,F_,F_,F_,F_] HT_ ?_
            refine take_ (i := 2) (N := some 102) (v := ?_) (a' := ?_) #[T_,F_,T_,F_,F_,F_,F_,F_,F_,F_,F_,F_] rfl rfl (take_ofW HT_.out HW_.out (by kernel_rfl)) (fun _ _ _ h => h) (Or.inl ⟨by rfl, ?_⟩) hHeld ?_ ?_
            rotate_left
            ·rintro w' ⟨s0, s1⟩
             go_simp
             with_reducible rfl
            rotate_left
            ·simp only [Act.put, sT_, s0_, sS_, i64_w, i32_w]
             rfl
            refine one_ (i := 1) (N := some 101) #[T_,T_,T_,F_,F_,F_,F_,F_,F_,F_,F_,F_] rfl rfl (one_of HT_.out (by kernel_rfl)) (by decide) (fun K hK => ?_)
            refine goes_ Try.func16 (by kernel_rfl) rfl #[.slice A0 l0.length c0] (by rfl) rfl rfl ln_ ?_
            with_reducible refine (laws_toCoilS.calls kj50 _ _ l0 t510 _ ?side1 ?side2 A77.out).mono ?_
            (case side1 => exact kc_ (Kd.C_below HR0.out HB.out))
            (case side2 => exact HC0.out)
            rintro e w85 ⟨v511, rfl, ho0, hb⟩
            refine ⟨_, rfl, ?_⟩
            have n0_ := Aside0.mk (Kd.R_elder' (kr_ HO_6) (Kd.R_base ho0) hb)
            have n1_ := Aside0.mk (Kd.R_elder' (kr_ HO_10) (Kd.R_base ho0) hb)
            have n2_ := Aside0.mk (Kd.R_lower (Kd.R_new' (Kd.R_new' ho0 (Kd.R_lt (kr_ HO_6))) (Kd.R_lt (kr_ HO_10))) (below_size (hg_ GE476)))
            have n3_ := Aside0.mk (blk_below (g := gb476) (o := .cells #[.string a1_0, .int .i64 a1_1] 52 (0, 0)) (bk_ BK476) hb)
            have n4_ := Aside0.mk (below_step (hg_ GE476) hb)
            clear HO_6
            clear HO_10
            clear BK476
            clear HB
            have HO_6 := n0_
            have HO_10 := n1_
            have HO512 := n2_
            have BK476 := n3_
            have HB := n4_
            clear n0_ n1_ n2_ n3_ n4_
            (try clear hb)
            (try clear hb2)
            (try clear hk)
            (try clear hi)
            (try clear ho0)
            refine hK.out _ _ ⟨(blk_cell BK476.out 0).trans rfl, (blk_cell BK476.out 1).trans rfl⟩ (fun hHeld => ?_)
            clear hK K
            refine norm_ (a' := ?_) ?_ ?_
            rotate_left
            ·show Act.put _ (some 101) _ = _
             simp only [Act.put, sT_, s0_, sS_, i64_w, i32_w]
             rfl
            refine one_ (i := 3) (N := some 103) #[T_,T_,T_,T_,F_,F_,F_,F_,F_,F_,F_,F_] rfl rfl (one_of HT_.out (by kernel_rfl)) (by decide) (fun K hK => ?_)
            refine goes_ Try.func38 (by kernel_rfl) rfl #[.agg #[.string a1_0, .int .i64 a1_1]] (by rfl) rfl rfl ln_ ?_
            with_reducible refine (laws_toWant.calls a1_0 a1_1 t513 t514 _ A78.out).mono ?_
            rintro e w86 ⟨rfl, hb⟩
            refine ⟨_, rfl, ?_⟩
            have n0_ := Aside0.mk (Kd.R_below (kr_ HO_6) hb)
            have n1_ := Aside0.mk (Kd.R_below (kr_ HO_10) hb)
            have n2_ := Aside0.mk (Kd.R_below (kr_ HO512) hb)
            have n3_ := Aside0.mk (blk_below (g := gb476) (o := .cells #[.string a1_0, .int .i64 a1_1] 52 (0, 0)) (bk_ BK476) hb)
            have n4_ := Aside0.mk (below_step (hg_ GE476) hb)
            clear HO_6
            clear HO_10
            clear HO512
            clear BK476
            clear HB
            have HO_6 := n0_
            have HO_10 := n1_
            have HO512 := n2_
            have BK476 := n3_
            have HB := n4_
            clear n0_ n1_ n2_ n3_ n4_
            (try clear hb)
            (try clear hb2)
            (try clear hk)
            (try clear hi)
            obtain ⟨Ao87, co87, eo87⟩ := Kd.R_slice HO512.out
            (first | subst eo87 | (injection eo87 with f1_ f2_ f3_; have f4_ := f1_.symm; have f5_ := f3_.symm; clear f1_ f2_ f3_; subst f4_; subst f5_))
            refine hK.out _ _ ⟨(blk_cell BK476.out 0).trans rfl, (blk_cell BK476.out 1).trans rfl⟩ (fun hHeld => ?_)
            clear hK K
            refine norm_ (a' := ?_) ?_ ?_
            rotate_left
            ·show Act.put _ (some 103) _ = _
             simp only [Act.put, sT_, s0_, sS_, i64_w, i32_w]
             rfl
            refine one_ (i := 4) (N := some 104) #[T_,T_,T_,T_,T_,F_,F_,F_,F_,F_,F_,F_] rfl rfl (one_of HT_.out (by kernel_rfl)) (by decide) (fun K hK => ?_)
            refine goes_ Try.func41 (by kernel_rfl) rfl #[.slice Ao87 t510.length co87, .agg #[.string t513, .int .i64 t514]] (by rfl) rfl rfl ln_ ?_
            with_reducible refine (impl_CutPiece.calls kj50 _ _ t510 t513 t514 t515 t518 t519 _ ?side1 ?side2 A79.out).mono ?_
            (case side1 => repeat (first | exact (Kd.R_reads' HO512.out).2.2 | (with_reducible refine Kd.C_alloc ?_ _) | (with_reducible refine Kd.C_drewN ?_ _) | (with_reducible refine Kd.C_drew ?_)))
            (case side2 => exact (Kd.R_reads' HO512.out).2.1)
            rintro e w88 ⟨v516, rfl, ho0, hb⟩
            refine ⟨_, rfl, ?_⟩
            have n0_ := Aside0.mk (Kd.R_elder' (kr_ HO_6) (Kd.R_base ho0) hb)
            have n1_ := Aside0.mk (Kd.R_elder' (kr_ HO_10) (Kd.R_base ho0) hb)
            have n2_ := Aside0.mk (Kd.R_elder' (kr_ HO512) (Kd.R_base ho0) hb)
            have n3_ := Aside0.mk (Kd.R_lower (Kd.R_new' (Kd.R_new' (Kd.R_new' ho0 (Kd.R_lt (kr_ HO_6))) (Kd.R_lt (kr_ HO_10))) (Kd.R_lt (kr_ HO512))) (below_size (hg_ GE476)))
            have n4_ := Aside0.mk (blk_below (g := gb476) (o := .cells #[.string a1_0, .int .i64 a1_1] 52 (0, 0)) (bk_ BK476) hb)
            have n5_ := Aside0.mk (below_step (hg_ GE476) hb)
            clear HO_6
            clear HO_10
            clear HO512
            clear BK476
            clear HB
            have HO_6 := n0_
            have HO_10 := n1_
            have HO512 := n2_
            have HO517 := n3_
            have BK476 := n4_
            have HB := n5_
            clear n0_ n1_ n2_ n3_ n4_ n5_
            (try clear hb)
            (try clear hb2)
            (try clear hk)
            (try clear hi)
            (try clear ho0)
            refine hK.out _ _ ⟨(blk_cell BK476.out 0).trans rfl, (blk_cell BK476.out 1).trans rfl⟩ (fun hHeld => ?_)
            clear hK K
            refine norm_ (a' := ?_) ?_ ?_
            rotate_left
            ·show Act.put _ (some 104) _ = _
             simp only [Act.put, sT_, s0_, sS_, i64_w, i32_w]
             rfl
            refine pu (i := 5) (N := some 99) #[T_,T_,T_,T_,T_,T_,F_,F_,F_,F_,F_,F_] HT_ ?_
            refine pu (i := 6) (N := some 105) #[T_,T_,T_,T_,T_,T_,T_,F_,F_,F_,F_,F_] HT_ ?_
            refine pu (i := 7) (N := some 106) #[T_,T_,T_,T_,T_,T_,T_,T_,F_,F_,F_,F_] HT_ ?_
            refine pu (i := 8) (N := some 107) #[T_,T_,T_,T_,T_,T_,T_,T_,T_,F_,F_,F_] HT_ ?_
            refine pu (i := 9) (N := some 16) #[T_,T_,T_,T_,T_,T_,T_,T_,T_,T_,F_,F_] HT_ ?_
            refine pu (i := 10) (N := some 17) #[T_,T_,T_,T_,T_,T_,T_,T_,T_,T_,T_,F_] HT_ ?_
            refine pu (i := 11) (N := some 18) #[T_,T_,T_,T_,T_,T_,T_,T_,T_,T_,T_,T_] HT_ ?_
            refine done_ (done_of HT_.out (by kernel_rfl)) ?_
            go_upto_region 28 with (fail)
            go_cut [121] (fun v121 wc => ∃ (kq : Nat) (x121_79 : Bool), v121 = .bool x121_79 ∧ Aside0 (laws_FnExactCutPiece.j2 kq t508 t507 x121_79 = some r) ∧ Aside0 (kq ≤ kj50) ∧ Aside0 (Kd.R k45 45 wc w.heap.size (fun _ => True) (.slice Ao81 t494.length co81) t508) ∧ Aside0 (wc.heap[gb476]? = some (.cells #[.string a1_0, .int .i64 a1_1] 52 (0, 0))) ∧ Aside0 (Below w.heap.size w wc))
            case first =>
             have H := HC80.out
             clear HC80
             replace H := Option.bind_eq_some_iff.mp H
             obtain ⟨t520, A890, H⟩ := H
             replace H : (if t520 = true then (if t518 = t487 then (laws_FnExactCutPiece.j2 kj50 t508 t507 (t519 != t488)) else (laws_FnExactCutPiece.j2 kj50 t508 t507 true)) else (laws_FnExactCutPiece.j2 kj50 t508 t507 true)) = some r := H
             have A89 := Aside0.mk A890
             clear A890
             by_cases c90 : t520 = true
             ·subst c90
              have H1 : (if t518 = t487 then (laws_FnExactCutPiece.j2 kj50 t508 t507 (t519 != t488)) else (laws_FnExactCutPiece.j2 kj50 t508 t507 true)) = some r := by rw [if_pos rfl] at H; exact H
              clear H
              have H := H1
              clear H1
              by_cases c91 : t518 = t487
              ·rw [if_pos c91] at H
               have c91b0 : (t518 == t487) = true := beq_iff_eq.mpr c91
               have c91b1 : (t518 != t487) = false := bne_eq_false_iff_eq.mpr c91
               clear c91
               (first | rw [c91b0] | (simp only [i64_w, i32_w]; rw [c91b0]) | skip)
               have H' := Aside0.mk H
               clear H
               obtain ⟨Ao92, co92, eo92⟩ := Kd.R_slice HO517.out
               subst eo92
               obtain ⟨Ao93, co93, eo93⟩ := Kd.R_slice HO_6.out
               subst eo93
               go_wp2_with (first | ((with_reducible refine gate_callee (f := 18) rfl ?_); refine goesL_ (some 110) rfl rfl Try.func18 (by kernel_rfl) rfl #[.slice Ao92 t515.length co92, .slice Ao93 t484.length co93] rfl ln_ ?_; (with_reducible refine (laws_eqCoilS.calls kj50 _ _ t515 _ _ t484 true _ ?side1 ?side2 ?side3 ?side4 A89.out).mono ?_); (case side1 => repeat (first | exact (Kd.R_reads' HO517.out).2.2 | (with_reducible refine Kd.C_alloc ?_ _) | (with_reducible refine Kd.C_drewN ?_ _) | (with_reducible refine Kd.C_drew ?_))); (case side2 => exact (Kd.R_reads' HO517.out).2.1); (case side3 => repeat (first | exact (Kd.R_reads' HO_6.out).2.2 | (with_reducible refine Kd.C_alloc ?_ _) | (with_reducible refine Kd.C_drewN ?_ _) | (with_reducible refine Kd.C_drew ?_))); (case side4 => exact (Kd.R_reads' HO_6.out).2.1); rintro e w94 ⟨rfl, hb⟩; refine ⟨_, rfl, ?_⟩; have n0_ := Aside0.mk (Kd.R_below (kr_ HO_6) hb); have n1_ := Aside0.mk (Kd.R_below (kr_ HO_10) hb); have n2_ := Aside0.mk (Kd.R_below (kr_ HO512) hb); have n3_ := Aside0.mk (Kd.R_below (kr_ HO517) hb); have n4_ := Aside0.mk (blk_below (g := gb476) (o := .cells #[.string a1_0, .int .i64 a1_1] 52 (0, 0)) (bk_ BK476) hb); have n5_ := Aside0.mk (below_step (hg_ GE476) hb); clear HO_6; clear HO_10; clear HO512; clear HO517; clear BK476; clear HB; have HO_6 := n0_; have HO_10 := n1_; have HO512 := n2_; have HO517 := n3_; have BK476 := n4_; have HB := n5_; clear n0_ n1_ n2_ n3_ n4_ n5_; (try clear hb); (try clear hb2); (try clear hk); (try clear hi)))
               go_meet
               case rel => exact ⟨_, ((t519 != t488)), (by first | rfl | (simp; done) | (simp [*]; done)), H', ⟨by have := HJ18.out; have := HJ50.out; first | omega | exact Nat.le_refl _⟩, ⟨by (with_reducible repeat (first | apply Kd.R_alloc | apply Kd.R_drewN | apply Kd.R_drew)); exact Kd.R_mono HO_10.out (fun _ hk => trivial)⟩, ⟨by (with_reducible repeat (first | refine blk_drewN ?_ _ | refine blk_drew ?_ | refine blk_alloc ?_ _)); exact BK476.out⟩, ⟨(hg_ GE476)⟩⟩
              ·rw [if_neg c91] at H
               have c91b0 : (t518 == t487) = false := beq_eq_false_iff_ne.mpr c91
               have c91b1 : (t518 != t487) = true := bne_iff_ne.mpr c91
               (first | rw [c91b0] | (simp only [i64_w, i32_w]; rw [c91b0]) | skip)
               have H' := Aside0.mk H
               clear H
               obtain ⟨Ao95, co95, eo95⟩ := Kd.R_slice HO517.out
               subst eo95
               obtain ⟨Ao96, co96, eo96⟩ := Kd.R_slice HO_6.out
               subst eo96
               go_wp2_with (first | ((with_reducible refine gate_callee (f := 18) rfl ?_); refine goesL_ (some 110) rfl rfl Try.func18 (by kernel_rfl) rfl #[.slice Ao95 t515.length co95, .slice Ao96 t484.length co96] rfl ln_ ?_; (with_reducible refine (laws_eqCoilS.calls kj50 _ _ t515 _ _ t484 true _ ?side1 ?side2 ?side3 ?side4 A89.out).mono ?_); (case side1 => repeat (first | exact (Kd.R_reads' HO517.out).2.2 | (with_reducible refine Kd.C_alloc ?_ _) | (with_reducible refine Kd.C_drewN ?_ _) | (with_reducible refine Kd.C_drew ?_))); (case side2 => exact (Kd.R_reads' HO517.out).2.1); (case side3 => repeat (first | exact (Kd.R_reads' HO_6.out).2.2 | (with_reducible refine Kd.C_alloc ?_ _) | (with_reducible refine Kd.C_drewN ?_ _) | (with_reducible refine Kd.C_drew ?_))); (case side4 => exact (Kd.R_reads' HO_6.out).2.1); rintro e w97 ⟨rfl, hb⟩; refine ⟨_, rfl, ?_⟩; have n0_ := Aside0.mk (Kd.R_below (kr_ HO_6) hb); have n1_ := Aside0.mk (Kd.R_below (kr_ HO_10) hb); have n2_ := Aside0.mk (Kd.R_below (kr_ HO512) hb); have n3_ := Aside0.mk (Kd.R_below (kr_ HO517) hb); have n4_ := Aside0.mk (blk_below (g := gb476) (o := .cells #[.string a1_0, .int .i64 a1_1] 52 (0, 0)) (bk_ BK476) hb); have n5_ := Aside0.mk (below_step (hg_ GE476) hb); clear HO_6; clear HO_10; clear HO512; clear HO517; clear BK476; clear HB; have HO_6 := n0_; have HO_10 := n1_; have HO512 := n2_; have HO517 := n3_; have BK476 := n4_; have HB := n5_; clear n0_ n1_ n2_ n3_ n4_ n5_; (try clear hb); (try clear hb2); (try clear hk); (try clear hi)))
               go_meet
               case rel => exact ⟨_, (true), (by first | rfl | (simp; done) | (simp [*]; done)), H', ⟨by have := HJ18.out; have := HJ50.out; first | omega | exact Nat.le_refl _⟩, ⟨by (with_reducible repeat (first | apply Kd.R_alloc | apply Kd.R_drewN | apply Kd.R_drew)); exact Kd.R_mono HO_10.out (fun _ hk => trivial)⟩, ⟨by (with_reducible repeat (first | refine blk_drewN ?_ _ | refine blk_drew ?_ | refine blk_alloc ?_ _)); exact BK476.out⟩, ⟨(hg_ GE476)⟩⟩
             ·replace c90 := Bool.eq_false_iff.mpr c90
              subst c90
              have H1 : (laws_FnExactCutPiece.j2 kj50 t508 t507 true) = some r := by rw [if_neg (show ¬ (false = true) by decide)] at H; exact H
              clear H
              have H := H1
              clear H1
              have H' := Aside0.mk H
              clear H
              obtain ⟨Ao98, co98, eo98⟩ := Kd.R_slice HO517.out
              subst eo98
              obtain ⟨Ao99, co99, eo99⟩ := Kd.R_slice HO_6.out
              subst eo99
              go_wp2_with (first | ((with_reducible refine gate_callee (f := 18) rfl ?_); refine goesL_ (some 110) rfl rfl Try.func18 (by kernel_rfl) rfl #[.slice Ao98 t515.length co98, .slice Ao99 t484.length co99] rfl ln_ ?_; (with_reducible refine (laws_eqCoilS.calls kj50 _ _ t515 _ _ t484 false _ ?side1 ?side2 ?side3 ?side4 A89.out).mono ?_); (case side1 => repeat (first | exact (Kd.R_reads' HO517.out).2.2 | (with_reducible refine Kd.C_alloc ?_ _) | (with_reducible refine Kd.C_drewN ?_ _) | (with_reducible refine Kd.C_drew ?_))); (case side2 => exact (Kd.R_reads' HO517.out).2.1); (case side3 => repeat (first | exact (Kd.R_reads' HO_6.out).2.2 | (with_reducible refine Kd.C_alloc ?_ _) | (with_reducible refine Kd.C_drewN ?_ _) | (with_reducible refine Kd.C_drew ?_))); (case side4 => exact (Kd.R_reads' HO_6.out).2.1); rintro e w100 ⟨rfl, hb⟩; refine ⟨_, rfl, ?_⟩; have n0_ := Aside0.mk (Kd.R_below (kr_ HO_6) hb); have n1_ := Aside0.mk (Kd.R_below (kr_ HO_10) hb); have n2_ := Aside0.mk (Kd.R_below (kr_ HO512) hb); have n3_ := Aside0.mk (Kd.R_below (kr_ HO517) hb); have n4_ := Aside0.mk (blk_below (g := gb476) (o := .cells #[.string a1_0, .int .i64 a1_1] 52 (0, 0)) (bk_ BK476) hb); have n5_ := Aside0.mk (below_step (hg_ GE476) hb); clear HO_6; clear HO_10; clear HO512; clear HO517; clear BK476; clear HB; have HO_6 := n0_; have HO_10 := n1_; have HO512 := n2_; have HO517 := n3_; have BK476 := n4_; have HB := n5_; clear n0_ n1_ n2_ n3_ n4_ n5_; (try clear hb); (try clear hb2); (try clear hk); (try clear hi)))
              go_meet
              case rel => exact ⟨_, (true), (by first | rfl | (simp; done) | (simp [*]; done)), H', ⟨by have := HJ18.out; have := HJ50.out; first | omega | exact Nat.le_refl _⟩, ⟨by (with_reducible repeat (first | apply Kd.R_alloc | apply Kd.R_drewN | apply Kd.R_drew)); exact Kd.R_mono HO_10.out (fun _ hk => trivial)⟩, ⟨by (with_reducible repeat (first | refine blk_drewN ?_ _ | refine blk_drew ?_ | refine blk_alloc ?_ _)); exact BK476.out⟩, ⟨(hg_ GE476)⟩⟩
            case rest =>
             clear HC80
             try clear c1
             try clear p2
             try clear c3
             try clear c4
             try clear c4b0
             try clear c5
             try clear c6
             try clear c7
             try clear c8
             try clear c8b0
             try clear c9
             try clear c10
             try clear c14
             try clear c16
             try clear c18
             try clear c32
             try clear c33
             try clear c35
             try clear c36
             try clear c36b0
             try clear c36b1
             try clear c38
             try clear c40
             try clear c41
             try clear c46
             try clear c49
             try clear c56
             try clear c56b0
             try clear c58
             try clear c59
             try clear c59b0
             try clear c59b1
             try clear c69
             try clear c72
             try clear c72b0
             try clear c76
             try clear c76b0
             try clear c76b1
             try clear c90
             try clear c91
             try clear c91b0
             try clear c91b1
             try clear hcz11_0
             try clear hcz11_1
             try clear hcz22_0
             try clear hcz22_1
             try clear hcz30_0
             try clear hcz30_1
             try clear hfz11_0
             try clear hfz11_1
             try clear hfz22_0
             try clear hfz22_1
             try clear hfz30_0
             try clear hfz30_1
             try clear p2
             obtain ⟨kq, x121_79, rfl, HA, HJ79, HO_10, BK476, HB⟩ := hcut
             have hl10_79 := (Kd.R_reads' HO_10.out).1
             rw [hl10_79] at HO_10
             (try simp only [hl10_79])
             (try simp only [hl10_79] at BK476)
             cases kq with
             | zero => exact absurd HA.out (by simp [laws_FnExactCutPiece.j2])
             | succ kj79 =>
              have H := HA.out
              clear HA
              simp only [laws_FnExactCutPiece.j2] at H
              by_cases c101 : x121_79 = true
              ·subst c101
               have H1 : (some false) = some r := by rw [if_pos rfl] at H; exact H
               clear H
               have H := H1
               clear H1
               obtain rfl := Option.some.inj H
               go_wp2
               go_ret
               exact ⟨ew_, (hg_ GE476)⟩
              ·replace c101 := Bool.eq_false_iff.mpr c101
               subst c101
               have H1 : ((laws_heldCoilS.f kj79 t508 1).bind fun t521 => (if t521 < 0 then (some false) else (if t521 = t507 then (some true) else (some false)))) = some r := by rw [if_neg (show ¬ (false = true) by decide)] at H; exact H
               clear H
               have H := H1
               clear H1
               replace H := Option.bind_eq_some_iff.mp H
               obtain ⟨t521, A1020, H⟩ := H
               replace H : (if t521 < 0 then (some false) else (if t521 = t507 then (some true) else (some false))) = some r := H
               have A102 := Aside0.mk A1020
               clear A1020
               by_cases c103 : t521 < 0
               ·rw [if_pos c103] at H
                have c103b0 : decide (t521 < 0) = true := decide_eq_true c103
                clear c103
                obtain rfl := Option.some.inj H
                go_wp2_with (first | ((with_reducible refine gate_callee (f := 33) rfl ?_); refine goesL_ (some 124) rfl rfl Try.func33 (by kernel_rfl) rfl #[.slice Ao81 t508.length co81, .int .i64 1] rfl ln_ ?_; (with_reducible refine (laws_heldCoilS.calls kj79 _ _ t508 1 t521 _ ?side1 ?side2 A102.out).mono ?_); (case side1 => repeat (first | exact (Kd.R_reads' HO_10.out).2.2 | (with_reducible refine Kd.C_alloc ?_ _) | (with_reducible refine Kd.C_drewN ?_ _) | (with_reducible refine Kd.C_drew ?_))); (case side2 => exact (Kd.R_reads' HO_10.out).2.1); rintro e w104 ⟨rfl, hb⟩; refine ⟨_, rfl, ?_⟩; have n0_ := Aside0.mk (Kd.R_below (kr_ HO_10) hb); have n1_ := Aside0.mk (blk_below (g := gb476) (o := .cells #[.string a1_0, .int .i64 a1_1] 52 (0, 0)) (bk_ BK476) hb); have n2_ := Aside0.mk (below_step (hg_ GE476) hb); clear HO_10; clear BK476; clear HB; have HO_10 := n0_; have BK476 := n1_; have HB := n2_; clear n0_ n1_ n2_; (try clear hb); (try clear hb2); (try clear hk); (try clear hi)))
                go_ret
                exact ⟨ew_, (hg_ GE476)⟩
               ·rw [if_neg c103] at H
                have c103b0 : decide (t521 < 0) = false := decide_eq_false c103
                clear c103
                by_cases c105 : t521 = t507
                ·rw [if_pos c105] at H
                 have c105b0 : (t521 == t507) = true := beq_iff_eq.mpr c105
                 have c105b1 : (t521 != t507) = false := bne_eq_false_iff_eq.mpr c105
                 clear c105
                 obtain rfl := Option.some.inj H
                 go_wp2_with (first | ((with_reducible refine gate_callee (f := 33) rfl ?_); refine goesL_ (some 124) rfl rfl Try.func33 (by kernel_rfl) rfl #[.slice Ao81 t508.length co81, .int .i64 1] rfl ln_ ?_; (with_reducible refine (laws_heldCoilS.calls kj79 _ _ t508 1 t521 _ ?side1 ?side2 A102.out).mono ?_); (case side1 => repeat (first | exact (Kd.R_reads' HO_10.out).2.2 | (with_reducible refine Kd.C_alloc ?_ _) | (with_reducible refine Kd.C_drewN ?_ _) | (with_reducible refine Kd.C_drew ?_))); (case side2 => exact (Kd.R_reads' HO_10.out).2.1); rintro e w106 ⟨rfl, hb⟩; refine ⟨_, rfl, ?_⟩; have n0_ := Aside0.mk (Kd.R_below (kr_ HO_10) hb); have n1_ := Aside0.mk (blk_below (g := gb476) (o := .cells #[.string a1_0, .int .i64 a1_1] 52 (0, 0)) (bk_ BK476) hb); have n2_ := Aside0.mk (below_step (hg_ GE476) hb); clear HO_10; clear BK476; clear HB; have HO_10 := n0_; have BK476 := n1_; have HB := n2_; clear n0_ n1_ n2_; (try clear hb); (try clear hb2); (try clear hk); (try clear hi)))
                 go_ret
                 exact ⟨ew_, (hg_ GE476)⟩
                ·rw [if_neg c105] at H
                 have c105b0 : (t521 == t507) = false := beq_eq_false_iff_ne.mpr c105
                 have c105b1 : (t521 != t507) = true := bne_iff_ne.mpr c105
                 obtain rfl := Option.some.inj H
                 go_wp2_with (first | ((with_reducible refine gate_callee (f := 33) rfl ?_); refine goesL_ (some 124) rfl rfl Try.func33 (by kernel_rfl) rfl #[.slice Ao81 t508.length co81, .int .i64 1] rfl ln_ ?_; (with_reducible refine (laws_heldCoilS.calls kj79 _ _ t508 1 t521 _ ?side1 ?side2 A102.out).mono ?_); (case side1 => repeat (first | exact (Kd.R_reads' HO_10.out).2.2 | (with_reducible refine Kd.C_alloc ?_ _) | (with_reducible refine Kd.C_drewN ?_ _) | (with_reducible refine Kd.C_drew ?_))); (case side2 => exact (Kd.R_reads' HO_10.out).2.1); rintro e w107 ⟨rfl, hb⟩; refine ⟨_, rfl, ?_⟩; have n0_ := Aside0.mk (Kd.R_below (kr_ HO_10) hb); have n1_ := Aside0.mk (blk_below (g := gb476) (o := .cells #[.string a1_0, .int .i64 a1_1] 52 (0, 0)) (bk_ BK476) hb); have n2_ := Aside0.mk (below_step (hg_ GE476) hb); clear HO_10; clear BK476; clear HB; have HO_10 := n0_; have BK476 := n1_; have HB := n2_; clear n0_ n1_ n2_; (try clear hb); (try clear hb2); (try clear hk); (try clear hi)))
                 go_ret
                 exact ⟨ew_, (hg_ GE476)⟩
           ·rw [if_neg c76] at H
            have c76b0 : (t509 == t507) = false := beq_eq_false_iff_ne.mpr c76
            have c76b1 : (t509 != t507) = true := bne_iff_ne.mpr c76
            obtain rfl := Option.some.inj H
            obtain ⟨Ao108, co108, eo108⟩ := Kd.R_slice HO_10.out
            subst eo108
            go_wp2_with (first | ((with_reducible refine gate_callee (f := 32) rfl ?_); refine goesL_ (some 90) rfl rfl Try.func32 (by kernel_rfl) rfl #[.slice Ao108 t494.length co108, .int .i64 1] rfl ln_ ?_; (with_reducible refine (laws_markCoilS.calls kj50 (fun k_ => some k_ = (.slice Ao108 t494.length co108 : Value).ownBlock) (.slice Ao108 t494.length co108) t494 1 t507 t508 w _ ?side1 ?side2 A70.out).mono ?_); (case side1 => repeat (first | (with_reducible first | exact HB.out | apply below_alloc | apply pw_below_drewN | apply below_drew1 | refine below_set ?_ GE476.out) | exact HB.out)); (case side2 => exact Kd.R_tight rfl HO_10.out); rintro e w109 ⟨rfl, hy0, hb, hkp⟩; refine ⟨_, rfl, ?_⟩; have n0_ := Aside0.mk (Kd.R_mono (ok' := fun k_ => some k_ ≠ (.slice Ao108 t494.length co108 : Value).ownBlock) (Kd.R_keptB (HO_6.out) hkp (fun k_ hk_ hs_ => (hk_) hs_)) (fun k_ hk_ => hk_.1)); have n1_ := Aside0.mk (Kd.R_reok rfl hy0 (fun k_ e_ => HO_10.out.1 k_ e_)); have n2_ := Aside0.mk (blk_kept (bk_ BK476) hkp (fun hs_ => (fun e_ => (Kd.R_ne HO_10.out BK476.out (by decide)) e_) hs_)); have n3_ := Aside0.mk (hb); clear HO_6; clear HO_10; clear BK476; clear HB; have HO_6 := n0_; have HO_10 := n1_; have BK476 := n2_; have HB := n3_; clear n0_ n1_ n2_ n3_; (try clear hb); (try clear hkp); (try clear hy0)) | ((with_reducible refine gate_callee (f := 33) rfl ?_); refine goesL_ (some 93) rfl rfl Try.func33 (by kernel_rfl) rfl #[.slice Ao108 t508.length co108, .int .i64 1] rfl (by (try simp only [List.map_toArray, List.map_cons, List.map_nil]); first | done | (rw [show t508.length = t494.length from (Kd.R_reads' HO_10.out).1.symm] <;> rfl) | rfl | (simp only [List.length_drop, List.length_take]; rfl)) ?_; (with_reducible refine (laws_heldCoilS.calls kj50 _ _ t508 1 t509 _ ?side1 ?side2 A71.out).mono ?_); (case side1 => repeat (first | exact (Kd.R_reads' HO_10.out).2.2 | (with_reducible refine Kd.C_alloc ?_ _) | (with_reducible refine Kd.C_drewN ?_ _) | (with_reducible refine Kd.C_drew ?_))); (case side2 => rw [show t508.length = t494.length from (Kd.R_reads' HO_10.out).1.symm]; exact (Kd.R_reads' HO_10.out).2.1); rintro e w110 ⟨rfl, hb⟩; refine ⟨_, rfl, ?_⟩; have n0_ := Aside0.mk (Kd.R_below (kr_ HO_6) hb); have n1_ := Aside0.mk (Kd.R_below (kr_ HO_10) hb); have n2_ := Aside0.mk (blk_below (g := gb476) (o := .cells #[.string a1_0, .int .i64 a1_1] 52 (0, 0)) (bk_ BK476) hb); have n3_ := Aside0.mk (below_step (hg_ GE476) hb); clear HO_6; clear HO_10; clear BK476; clear HB; have HO_6 := n0_; have HO_10 := n1_; have BK476 := n2_; have HB := n3_; clear n0_ n1_ n2_ n3_; (try clear hb); (try clear hb2); (try clear hk); (try clear hi)))
            go_ret
            exact ⟨ew_, (hg_ GE476)⟩
      ·replace c49 := Bool.eq_false_iff.mpr c49
       subst c49
       have H1 : (some false) = some r := by rw [if_neg (show ¬ (false = true) by decide)] at H; exact H
       clear H
       have H := H1
       clear H1
       obtain rfl := Option.some.inj H
       go_wp2_with (first | ((with_reducible refine gate_callee (f := 16) rfl ?_); refine goesL_ (some 64) rfl rfl Try.func16 (by kernel_rfl) rfl #[.slice A0 l0.length c0] rfl ln_ ?_; (with_reducible refine (laws_toCoilS.calls kj18 _ _ l0 t500 _ ?side1 ?side2 A47.out).mono ?_); (case side1 => exact kc_ (Kd.C_below HR0.out HB.out)); (case side2 => exact HC0.out); rintro e w111 ⟨v501, rfl, ho0, hb⟩; refine ⟨_, rfl, ?_⟩; have n0_ := Aside0.mk (Kd.R_elder' (kr_ HO_6) (Kd.R_base ho0) hb); have n1_ := Aside0.mk (Kd.R_elder' (kr_ HO_9) (Kd.R_base ho0) hb); have n2_ := Aside0.mk (Kd.R_elder' (kr_ HO_10) (Kd.R_base ho0) hb); have n3_ := Aside0.mk (Kd.R_lower (Kd.R_new' (Kd.R_new' (Kd.R_new' ho0 (Kd.R_lt (kr_ HO_6))) (Kd.R_lt (kr_ HO_9))) (Kd.R_lt (kr_ HO_10))) (below_size (hg_ GE476))); have n4_ := Aside0.mk (blk_below (g := gb476) (o := .cells #[.string a1_0, .int .i64 a1_1] 52 (0, 0)) (bk_ BK476) hb); have n5_ := Aside0.mk (below_step (hg_ GE476) hb); clear HO_6; clear HO_9; clear HO_10; clear BK476; clear HB; have HO_6 := n0_; have HO_9 := n1_; have HO_10 := n2_; have HO502 := n3_; have BK476 := n4_; have HB := n5_; clear n0_ n1_ n2_ n3_ n4_ n5_; (try clear hb); (try clear hb2); (try clear hk); (try clear hi); (try clear ho0); obtain ⟨Ao112, co112, eo112⟩ := Kd.R_slice HO502.out; subst eo112) | ((with_reducible refine gate_callee (f := 18) rfl ?_); refine goesL_ (some 65) rfl rfl Try.func18 (by kernel_rfl) rfl #[.slice Ao32 t489.length co32, .slice Ao112 t500.length co112] rfl ln_ ?_; (with_reducible refine (laws_eqCoilS.calls kj18 _ _ t489 _ _ t500 false _ ?side1 ?side2 ?side3 ?side4 A48.out).mono ?_); (case side1 => repeat (first | exact (Kd.R_reads' HO_9.out).2.2 | (with_reducible refine Kd.C_alloc ?_ _) | (with_reducible refine Kd.C_drewN ?_ _) | (with_reducible refine Kd.C_drew ?_))); (case side2 => exact (Kd.R_reads' HO_9.out).2.1); (case side3 => repeat (first | exact (Kd.R_reads' HO502.out).2.2 | (with_reducible refine Kd.C_alloc ?_ _) | (with_reducible refine Kd.C_drewN ?_ _) | (with_reducible refine Kd.C_drew ?_))); (case side4 => exact (Kd.R_reads' HO502.out).2.1); rintro e w113 ⟨rfl, hb⟩; refine ⟨_, rfl, ?_⟩; have n0_ := Aside0.mk (Kd.R_below (kr_ HO_6) hb); have n1_ := Aside0.mk (Kd.R_below (kr_ HO_9) hb); have n2_ := Aside0.mk (Kd.R_below (kr_ HO_10) hb); have n3_ := Aside0.mk (Kd.R_below (kr_ HO502) hb); have n4_ := Aside0.mk (blk_below (g := gb476) (o := .cells #[.string a1_0, .int .i64 a1_1] 52 (0, 0)) (bk_ BK476) hb); have n5_ := Aside0.mk (below_step (hg_ GE476) hb); clear HO_6; clear HO_9; clear HO_10; clear HO502; clear BK476; clear HB; have HO_6 := n0_; have HO_9 := n1_; have HO_10 := n2_; have HO502 := n3_; have BK476 := n4_; have HB := n5_; clear n0_ n1_ n2_ n3_ n4_ n5_; (try clear hb); (try clear hb2); (try clear hk); (try clear hi)))
       go_ret
       exact ⟨ew_, (hg_ GE476)⟩

end Go.Proofs.Ytbglfbmnibhgeaa.P
