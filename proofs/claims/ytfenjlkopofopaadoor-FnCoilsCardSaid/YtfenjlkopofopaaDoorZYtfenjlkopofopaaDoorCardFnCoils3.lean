/- Texts of this claim, packed: Px15. -/
import Derived.Test.YtfenjlkopofopaaDoorZYtfenjlkopofopaaDoorCardFnCoils2
section
-- Written by gprint.py (own program, over the printer of the kit) out of the translation. Lean checks it.
namespace Go.Proofs.YtfenjlkopofopaaDoor.P
open Go.RowKit Go.Proofs.YtfenjlkopofopaaDoorW.PrintWords Go.Proofs.YtfenjlkopofopaaDoorW.PrintLast Go.Proofs.YtfenjlkopofopaaDoorW.PrintMore Go.Proofs.YtfenjlkopofopaaDoorW.Pk
open Bool renaming true → T_, false → F_
open List renaming setIfInBounds_toArray → sT_, set_cons_zero → s0_, set_cons_succ → sS_
attribute [local go_sem] max2_int min2_int max_two min_two max_three min_three max_four min_four   -- for this text's walks alone
set_option linter.unusedVariables false
set_option linter.unusedSimpArgs false

/-! ### impl_CutPiece: function 13 -/
def impl_CutPiece.f (k : Nat) (l0 : List (S23)) (a1_0 : ByteArray) (a1_1 : Int) : Option ((List (S23)) × Int × Int) := (impl_BestCoil.f k l0 a1_0 a1_1).bind fun bt370 => (if bt370.2 = 0 then ((some (([] : List (S23)) : List (S23))).bind fun y372 => (if y372.length + l0.length < 5864062014805 then ((some (y372 ++ l0 : List (S23))).bind fun y375 => (if 0 ≤ bt370.1 then (if bt370.1 < (y375.length : Int) then ((some (y375.set (bt370.1 : Int).toNat (⟨(rd_T23 y375 bt370.1).f0, wrap64 (((rd_T23 y375 bt370.1).f1) - a1_1)⟩ : S23) : List (S23))).bind fun y379 => (if (wrap64 (((rd_T23 y375 bt370.1).f1) - a1_1)) = 0 then (if bt370.1 ≤ (y375.length : Int) then (if 0 ≤ (wrap64 (bt370.1 + 1)) then (if (wrap64 (bt370.1 + 1)) ≤ (y375.length : Int) then (some ((y379.eraseIdx (bt370.1 : Int).toNat), bt370.1, 0)) else (none)) else (none)) else (none)) else (some (y379, bt370.1, 0)))) else (none)) else (none))) else (none))) else (some (([] : List (S23)), 0, bt370.2)))
def impl_CutPiece.T5 : Bool × List (List Nat × List Nat) := (true, [([], []), ([], []), ([0, 1], [0, 1]), ([2], [2]), ([3], [3]), ([], []), ([5], [5]), ([4, 6], [4, 6]), ([0, 1, 0, 1, 2, 3, 4, 5, 6, 7], [0, 1]), ([8, 0, 1, 2, 3, 4, 5, 6, 7], [8]), ([9, 7, 0, 1, 2, 3, 4, 5, 6, 7], [7, 9])])
def impl_CutPiece.B5 : List Nat := [0, 0, 3, 7, 15, 0, 32, 127, 255, 511, 1023]
theorem impl_CutPiece.tab5 : rtab .any (opsOf Tryd.f13 5) = impl_CutPiece.T5 := by kernel_rfl
theorem impl_CutPiece.bits5 : waitsOk impl_CutPiece.T5.2 impl_CutPiece.B5 = true := by kernel_rfl
def impl_CutPiece.T7 : Bool × List (List Nat × List Nat) := (true, [([], []), ([], []), ([0, 1], [0, 1]), ([], []), ([], []), ([4], [4]), ([3, 5], [3, 5]), ([2, 6], [2, 6]), ([7, 7, 0, 1, 2, 3, 4, 5, 6, 7], [0, 3, 7])])
def impl_CutPiece.B7 : List Nat := [0, 0, 3, 0, 0, 16, 56, 127, 255]
theorem impl_CutPiece.tab7 : rtab .any (opsOf Tryd.f13 7) = impl_CutPiece.T7 := by kernel_rfl
theorem impl_CutPiece.bits7 : waitsOk impl_CutPiece.T7.2 impl_CutPiece.B7 = true := by kernel_rfl
set_option maxHeartbeats 8000000 in
set_option maxRecDepth 100000 in
theorem impl_CutPiece.calls (k : Nat) (A0 : Option Addr) (c0 : Nat) (l0 : List (S23)) (a1_0 : ByteArray) (a1_1 : Int) (r1 : List (S23)) (r2 : Int) (r3 : Int) (w : World) (hr0 : Kd.C k23 w A0 l0.length l0) (hc0 : l0.length ≤ c0) (h : impl_CutPiece.f k l0 a1_0 a1_1 = some (r1, r2, r3)) :
  Calls Tryd.prog 13 #[.slice A0 l0.length c0, .agg #[.string a1_0, .int .i64 a1_1]] w fun e w' => ∃ v0_ : Value, e = .returned (.tuple #[v0_, .int .i64 r2, .int .i64 r3]) ∧ Kd.R k23 23 w' w.heap.size (fun _ => True) v0_ r1 ∧ Below w.heap.size w w' := by
 have hu32 := Tryd.underlying32
 have HR0 := ak_ hr0
 have HC0 := ak_ hc0
 clear hr0 hc0
 have HB := ak_ (Below.refl w.heap.size w)
 have H : ((impl_BestCoil.f k l0 a1_0 a1_1).bind fun bt370 => (if bt370.2 = 0 then ((some (([] : List (S23)) : List (S23))).bind fun y372 => (if y372.length + l0.length < 5864062014805 then ((some (y372 ++ l0 : List (S23))).bind fun y375 => (if 0 ≤ bt370.1 then (if bt370.1 < (y375.length : Int) then ((some (y375.set (bt370.1 : Int).toNat (⟨(rd_T23 y375 bt370.1).f0, wrap64 (((rd_T23 y375 bt370.1).f1) - a1_1)⟩ : S23) : List (S23))).bind fun y379 => (if (wrap64 (((rd_T23 y375 bt370.1).f1) - a1_1)) = 0 then (if bt370.1 ≤ (y375.length : Int) then (if 0 ≤ (wrap64 (bt370.1 + 1)) then (if (wrap64 (bt370.1 + 1)) ≤ (y375.length : Int) then (some ((y379.eraseIdx (bt370.1 : Int).toNat), bt370.1, 0)) else (none)) else (none)) else (none)) else (some (y379, bt370.1, 0)))) else (none)) else (none))) else (none))) else (some (([] : List (S23)), 0, bt370.2)))) = some (r1, r2, r3) := h
 clear h
 replace H := ob_ H
 obtain ⟨⟨t370, t371⟩, A30, H⟩ := H
 (try dsimp only at H)
 have A3 := ak_ A30
 clear A30
 by_cases c4 : t371 = 0
 rotate_left
 ·rw [if_neg c4] at H
  have c4b0 : (t371 == 0) = false := beq_eq_false_iff_ne.mpr c4
  have c4b1 : (t371 != 0) = true := bne_iff_ne.mpr c4
  simp only [Option.some.injEq, Prod.mk.injEq] at H
  obtain ⟨rfl, rfl, rfl⟩ := H
  go_enter Tryd.func13, Tryd.ntmps13
  go_wp2_with (first | ((with_reducible refine gate_dst (N := 3) rfl ?_); refine box_event ?hg (N := 3) ?hd (cs := #[.string a1_0, .int .i64 a1_1]) (t := 32) ?hr ?_; (case hd => rfl); (case hg => rfl); (case hr => first | (go_simp; done) | (go_simp; rfl)); intro gb369 hg w40 hbox hb; have BK369 := ak_ (hbox); have GW369 := ak_ ((by rw [hg]; exact (below_size hb_) : w.heap.size ≤ gb369)); have GE369 := ak_ ((by rw [hg]; exact (below_size hb_) : w.heap.size ≤ gb369)); replace HB := ak_ (below_step hb_ hb); skip; clear hb hbox hg; have hcz41_0 : w40.cell? ⟨gb369, 0, none⟩ = some (.string a1_0) := (blk_cell BK369.out 0).trans rfl; have hcz41_1 : w40.cell? ⟨gb369, 1, none⟩ = some (.int .i64 a1_1) := (blk_cell BK369.out 1).trans rfl; have hfz41_0 := blk_frozen BK369.out 0; have hfz41_1 := blk_frozen BK369.out 1) | ((with_reducible refine gate_callee (f := 15) rfl ?_); refine goesL_ (some 13) rfl rfl Tryd.func15 (by kernel_rfl) rfl #[.slice A0 l0.length c0, .agg #[.string a1_0, .int .i64 a1_1]] rfl ln_ ?_; (with_reducible refine (impl_BestCoil.calls k _ _ l0 a1_0 a1_1 t370 t371 _ (kc_ (Kd.C_below HR0.out HB.out)) HC0.out A3.out).mono ?_); rintro e w42 ⟨rfl, hb⟩; refine ⟨_, rfl, ?_⟩; replace BK369 := ak_ (blk_below (g := gb369) (o := .cells #[.string a1_0, .int .i64 a1_1] 32 (0, 0)) (bk_ BK369) hb); replace HB := ak_ (below_step (hg_ GE369) hb); skip; clear hb))
  go_ret3
  exact ⟨_, ew_, by first | exact Kd.R_nil _ _ _ _ _ | exact Kd.N_nil _ _ _ _ _ | exact Kd.V_nil _ _ _ _ _ | exact Kd.Q_nil _ _ _ _ _ | exact Kd.S_nil _ _ _ _ _, (hg_ GE369)⟩

 rw [if_pos c4] at H
 have c4b0 : (t371 == 0) = true := beq_iff_eq.mpr c4
 have c4b1 : (t371 != 0) = false := bne_eq_false_iff_eq.mpr c4
 clear c4
 obtain ⟨y372, hy372⟩ : ∃ y_ : List (S23), y_ = (([] : List (S23))) := ⟨_, rfl⟩
 replace H : (if y372.length + l0.length < 5864062014805 then ((some (y372 ++ l0 : List (S23))).bind fun y375 => (if 0 ≤ t370 then (if t370 < (y375.length : Int) then ((some (y375.set (t370 : Int).toNat (⟨(rd_T23 y375 t370).f0, wrap64 (((rd_T23 y375 t370).f1) - a1_1)⟩ : S23) : List (S23))).bind fun y379 => (if (wrap64 (((rd_T23 y375 t370).f1) - a1_1)) = 0 then (if t370 ≤ (y375.length : Int) then (if 0 ≤ (wrap64 (t370 + 1)) then (if (wrap64 (t370 + 1)) ≤ (y375.length : Int) then (some ((y379.eraseIdx (t370 : Int).toNat), t370, 0)) else (none)) else (none)) else (none)) else (some (y379, t370, 0)))) else (none)) else (none))) else (none)) = some (r1, r2, r3) := by first | (rw [hy372]; with_reducible exact H) | (have H2_ := (Option.bind_some _ _).symm.trans H; rw [hy372]; with_reducible exact H2_) | (have H2_ := (Option.bind_some _ _).symm.trans H; with_reducible exact H2_) | with_reducible exact H | (rw [hy372]; exact H) | exact H
 have Ny372 := ak_ hy372
 clear hy372
 by_cases c5 : y372.length + l0.length < 5864062014805
 rotate_left
 ·rw [if_neg c5] at H
  exact absurd H (by simp)
 rw [if_pos c5] at H
 have LMc5 := ak_ c5
 clear c5
 obtain ⟨y375, hy375⟩ : ∃ y_ : List (S23), y_ = (y372 ++ l0) := ⟨_, rfl⟩
 replace H : (if 0 ≤ t370 then (if t370 < (y375.length : Int) then ((some (y375.set (t370 : Int).toNat (⟨(rd_T23 y375 t370).f0, wrap64 (((rd_T23 y375 t370).f1) - a1_1)⟩ : S23) : List (S23))).bind fun y379 => (if (wrap64 (((rd_T23 y375 t370).f1) - a1_1)) = 0 then (if t370 ≤ (y375.length : Int) then (if 0 ≤ (wrap64 (t370 + 1)) then (if (wrap64 (t370 + 1)) ≤ (y375.length : Int) then (some ((y379.eraseIdx (t370 : Int).toNat), t370, 0)) else (none)) else (none)) else (none)) else (some (y379, t370, 0)))) else (none)) else (none)) = some (r1, r2, r3) := by first | (rw [hy375]; with_reducible exact H) | (have H2_ := (Option.bind_some _ _).symm.trans H; rw [hy375]; with_reducible exact H2_) | (have H2_ := (Option.bind_some _ _).symm.trans H; with_reducible exact H2_) | with_reducible exact H | (rw [hy375]; exact H) | exact H
 have Ny375 := ak_ hy375
 clear hy375
 by_cases c6 : 0 ≤ t370
 rotate_left
 ·rw [if_neg c6] at H
  exact absurd H (by simp)
 rw [if_pos c6] at H
 have c6b0 : decide (0 ≤ t370) = true := dt_ c6
 clear c6
 by_cases c7 : t370 < (y375.length : Int)
 rotate_left
 ·rw [if_neg c7] at H
  exact absurd H (by simp)
 rw [if_pos c7] at H
 have c7b0 : decide (t370 < (y375.length : Int)) = true := dt_ c7
 clear c7
 obtain ⟨y379, hy379⟩ : ∃ y_ : List (S23), y_ = (y375.set (t370 : Int).toNat (⟨(rd_T23 y375 t370).f0, wrap64 (((rd_T23 y375 t370).f1) - a1_1)⟩ : S23)) := ⟨_, rfl⟩
 replace H : (if (wrap64 (((rd_T23 y375 t370).f1) - a1_1)) = 0 then (if t370 ≤ (y375.length : Int) then (if 0 ≤ (wrap64 (t370 + 1)) then (if (wrap64 (t370 + 1)) ≤ (y375.length : Int) then (some ((y379.eraseIdx (t370 : Int).toNat), t370, 0)) else (none)) else (none)) else (none)) else (some (y379, t370, 0))) = some (r1, r2, r3) := by first | (rw [hy379]; with_reducible exact H) | (have H2_ := (Option.bind_some _ _).symm.trans H; rw [hy379]; with_reducible exact H2_) | (have H2_ := (Option.bind_some _ _).symm.trans H; with_reducible exact H2_) | with_reducible exact H | (rw [hy379]; exact H) | exact H
 have Ny379 := ak_ hy379
 clear hy379
 by_cases c10 : (wrap64 (((rd_T23 y375 t370).f1) - a1_1)) = 0
 rotate_left
 ·rw [if_neg c10] at H
  have c10b0 : ((wrap64 (((rd_T23 y375 t370).f1) - a1_1)) == 0) = false := beq_eq_false_iff_ne.mpr c10
  have c10b1 : ((wrap64 (((rd_T23 y375 t370).f1) - a1_1)) != 0) = true := bne_iff_ne.mpr c10
  simp only [Option.some.injEq, Prod.mk.injEq] at H
  obtain ⟨rfl, rfl, rfl⟩ := H
  go_enter Tryd.func13, Tryd.ntmps13
  try go_wp2_with (first | ((with_reducible refine gate_dst (N := 3) rfl ?_); refine box_event ?hg (N := 3) ?hd (cs := #[.string a1_0, .int .i64 a1_1]) (t := 32) ?hr ?_; (case hd => rfl); (case hg => rfl); (case hr => first | (go_simp; done) | (go_simp; rfl)); intro gb369 hg w31 hbox hb; have BK369 := ak_ (hbox); have GW369 := ak_ ((by rw [hg]; exact (below_size hb_) : w.heap.size ≤ gb369)); have GE369 := ak_ ((by rw [hg]; exact (below_size hb_) : w.heap.size ≤ gb369)); replace HB := ak_ (below_step hb_ hb); skip; clear hb hbox hg; have hcz32_0 : w31.cell? ⟨gb369, 0, none⟩ = some (.string a1_0) := (blk_cell BK369.out 0).trans rfl; have hcz32_1 : w31.cell? ⟨gb369, 1, none⟩ = some (.int .i64 a1_1) := (blk_cell BK369.out 1).trans rfl; have hfz32_0 := blk_frozen BK369.out 0; have hfz32_1 := blk_frozen BK369.out 1) | ((with_reducible refine gate_callee (f := 15) rfl ?_); refine goesL_ (some 13) rfl rfl Tryd.func15 (by kernel_rfl) rfl #[.slice A0 l0.length c0, .agg #[.string a1_0, .int .i64 a1_1]] rfl ln_ ?_; (with_reducible refine (impl_BestCoil.calls k _ _ l0 a1_0 a1_1 t370 t371 _ (kc_ (Kd.C_below HR0.out HB.out)) HC0.out A3.out).mono ?_); rintro e w33 ⟨rfl, hb⟩; refine ⟨_, rfl, ?_⟩; replace BK369 := ak_ (blk_below (g := gb369) (o := .cells #[.string a1_0, .int .i64 a1_1] 32 (0, 0)) (bk_ BK369) hb); replace HB := ak_ (below_step (hg_ GE369) hb); skip; clear hb) | ((with_reducible refine gate_dst (N := 19) rfl ?_); refine Kd.R_lit k23 _ 23 ?hg (N := 19) ?hd (xs := ([] : List (S23))) (inner := []) (ok := fun _ => True) (okp := fun _ => True) ?hr ?hp (fun _ hk => hk) trivial (Below.refl _ _) (Nat.le_refl _) (by simp) ?_; (case hd => rfl); (case hg => rfl); (case hr => first | (go_simp; done) | (go_simp; rfl)); (case hp => exact (Reps.none _ _)); intro v373 w34 ho35 hb hg_ hnew_; clear hg_ hnew_; (first | rw [← Ny372.out] at ho35 | (simp only [Int.reduceToNat] at ho35; rw [← Ny372.out] at ho35)); have HO374 := ak_ (Kd.R_lower ho35 (below_size (hg_ GE369))); replace BK369 := ak_ (blk_below (g := gb369) (o := .cells #[.string a1_0, .int .i64 a1_1] 32 (0, 0)) (bk_ BK369) hb); replace HB := ak_ (below_step (hg_ GE369) hb); skip; clear hb ho35) | ((with_reducible refine gate_builtin (b := .append) (xs := #[.tmp 19, .tmp 20]) rfl ?_); at_builtin; refine Kd.R_append_rows k23 (w0 := w) w.heap.size rfl (.tmp 19) (.tmp 20) 30 23 (.agg #[(.string ⟨#[]⟩), (.int .i64 0)]) 24 rfl Tryd.underlying30 info23 rfl (by decide) (by omega) v373 y372 l0 _ _ _ (fun _ => True) (fun _ => False) rfl rfl ?aO ?aR (fun _ _ h => h) (fun _ h => h.elim) ?aF ?aB ?aS ?aL ?_; (case aR => exact kc_ (Kd.C_below HR0.out HB.out)); (case aB => exact (hg_ GE369)); (case aF => exact (fun _ _ => trivial)); (case aO => exact (kr_ HO374)); (case aS => exact (below_size (hg_ GE369))); (case aL => have := LMc5.out; omega); intro v376 w36 ho hb hg hat; rw [← Ny375.out] at ho; replace BK369 := ak_ (blk_grown (g := gb369) (o := .cells #[.string a1_0, .int .i64 a1_1] 32 (0, 0)) (bk_ BK369) hg (Kd.R_ne HO374.out BK369.out (by decide))); replace HB := ak_ (hb); have HO377 := ak_ (ho); clear HO374; clear ho hb hg hat))
  have n0_ := ak_ (Kd.R_drew HO377.out)
  have n1_ := ak_ (blk_drew BK369.out)
  have n2_ := ak_ (below_drew1 HB.out)
  clear HO377
  clear BK369
  clear HB
  have HO377 := n0_
  have BK369 := n1_
  have HB := n2_
  clear n0_ n1_ n2_
  obtain ⟨Ao38, co38, eo38⟩ := Kd.R_slice HO377.out
  (first | subst eo38 | (injection eo38 with f1_ f2_ f3_; have f4_ := f1_.symm; have f5_ := f3_.symm; clear f1_ f2_ f3_; subst f4_; subst f5_))
  have p378 : 0 ≤ (t370 : Int) := od_
  have q378 : t370 < (y375.length : Int) := od_
  obtain ⟨ad378, e378, hx378_0, hx378_1⟩ := at_T23 (Kd.R_reads' HO377.out).2.2 t370 p378 q378
  cases e378
  replace p378 := eq_true p378
  replace q378 := eq_true q378
  have p8 : 0 ≤ (t370 : Int) := od_
  have q8 : (t370 : Int) < ((y375.length : Int) : Int) := od_
  obtain ⟨go8, co8, eo8, gb8, gl8, cl8, HG8⟩ := Kd.R_form HO377.out (by omega)
  (first | cases eo8 | (injection eo8 with ea_ en_ ec_; (first | subst ea_ | (injection ea_ with ea_; subst ea_)); subst ec_; clear en_))
  have GB8 := ak_ gb8
  have GG8 := ak_ HG8
  clear gb8 gl8 HG8
  (first | simp only [add_plain] at hx378_0 | skip)
  (first | simp only [add_plain] at hx378_1 | skip)
  obtain ⟨ce8, hcl8, hM8, hcc8, hfr8⟩ := Kd.R_elem HO377.out z23 (t370 : Int) p8 q8
  obtain rfl := k23_openM hM8
  have hx8_0 : World.cell? _ ⟨go8, (t370 : Int).toNat * 2, none⟩ = some (.string ((rd_T23 y375 t370).f0)) := hcc8 0 _ rfl
  have hx8_1 : World.cell? _ ⟨go8, (t370 : Int).toNat * 2 + 1, none⟩ = some (.int .i64 ((rd_T23 y375 t370).f1)) := hcc8 1 _ rfl
  have hf8_0 : World.frozen? _ ⟨go8, (t370 : Int).toNat * 2, none⟩ = false := hfr8 0
  have hf8_1 : World.frozen? _ ⟨go8, (t370 : Int).toNat * 2 + 1, none⟩ = false := hfr8 1
  (try clear hcl8); (try clear hcc8); (try clear hfr8); (try clear hM8)
  replace p8 := eq_true p8
  replace q8 := eq_true q8
  obtain ⟨ce39, hcl39, hM39, hcc39, hfr39⟩ := Kd.R_elem HO377.out z23 (t370 : Int) (od_) (by have h_ : (t370 : Int) < ((y375.length : Int) : Int) := od_; first | exact h_ | (have e_ := (Kd.R_reads' HO377.out).1; omega) | simpa using h_)
  obtain rfl := k23_openM hM39
  have HP39 := (Kd.R_seg HO377.out (t370 : Int) (od_) (by have h_ : (t370 : Int) < ((y375.length : Int) : Int) := od_; first | exact h_ | (have e_ := (Kd.R_reads' HO377.out).1; omega) | simpa using h_) (seg := [.int .i64 (wrap64 (((rd_T23 y375 t370).f1) - a1_1))]) (j := 1) hcl39 hcc39 (show 2 ≤ 2 from by decide) (x' := (⟨(rd_T23 y375 t370).f0, wrap64 (((rd_T23 y375 t370).f1) - a1_1)⟩ : S23)) (k23_mkM _ _ _ (⟨(rd_T23 y375 t370).f0, wrap64 (((rd_T23 y375 t370).f1) - a1_1)⟩ : S23) ) (fun _ hk => hk)).1
  rw [← Ny379.out] at HP39
  have HQ39 := ak_ HP39
  (try clear hcl39); (try clear hcc39); (try clear hfr39); (try clear hM39); (try clear HP39)
  refine start_ (n := 11) (S := fun w' => w'.cell? ⟨gb369, 0, none⟩ = some (.string a1_0) ∧ w'.cell? ⟨gb369, 1, none⟩ = some (.int .i64 a1_1) ∧ w'.cell? ⟨go8, ((t370).toNat * 2), none⟩ = some (.string ((rd_T23 y375 t370).f0)) ∧ w'.cell? ⟨go8, ((t370).toNat * 2) + 1, none⟩ = some (.int .i64 ((rd_T23 y375 t370).f1))) (ds := [10]) #[F_,F_,F_,F_,F_,F_,F_,F_,F_,F_,F_] (by kernel_rfl) rfl rfl ⟨(blk_cell BK369.out 0).trans rfl, (blk_cell BK369.out 1).trans rfl, hx378_0, hx378_1⟩ (fun hHeld => ?_); refine with_tabW impl_CutPiece.tab5 impl_CutPiece.bits5 (fun HT_ HW_ => ?_)
  generalize w36.drew = w37 at HO377 BK369 HB GG8 HQ39 hf8_0 hf8_1 hx378_0 hx378_1 hx8_0 hx8_1 hHeld ⊢
  refine pv (i := 0) (N := some 22) HT_ ?_
  refine pv (i := 1) (N := some 23) HT_ ?_
  refine pv (i := 2) (N := some 24) HT_ ?_
  refine pv (i := 3) (N := some 25) HT_ ?_
  refine pv (i := 5) (N := some 27) HT_ ?_
  refine take_ (i := 4) (N := some 26) (v := ?_) (a' := ?_) #[T_,T_,T_,T_,T_,T_,F_,F_,F_,F_,F_] rfl rfl (take_ofW HT_.out HW_.out (by kernel_rfl)) (fun _ _ _ h => h) (Or.inl ⟨by rfl, ?_⟩) hHeld ?_ ?_
  rotate_left
  ·rintro w' ⟨s0, s1, s2, s3⟩
   go_simp
   with_reducible rfl
  rotate_left
  ·simp only [Act.put, sT_, s0_, sS_, i64_w, i32_w]
   rfl
  refine take_ (i := 6) (N := some 28) (v := ?_) (a' := ?_) #[T_,T_,T_,T_,T_,T_,T_,F_,F_,F_,F_] rfl rfl (take_ofW HT_.out HW_.out (by kernel_rfl)) (fun _ _ _ h => h) (Or.inl ⟨by rfl, ?_⟩) hHeld ?_ ?_
  rotate_left
  ·rintro w' ⟨s0, s1, s2, s3⟩
   go_simp
   with_reducible rfl
  rotate_left
  ·simp only [Act.put, sT_, s0_, sS_, i64_w, i32_w]
   rfl
  refine pv (i := 7) (N := some 29) HT_ ?_
  refine pv (i := 8) (N := some 30) HT_ ?_
  refine pv (i := 9) (N := some 31) HT_ ?_
  refine last_ (i := 10) (N := none) #[T_,T_,T_,T_,T_,T_,T_,T_,T_,T_,T_] rfl rfl (one_of HT_.out (by kernel_rfl)) (by decide) (fun K hK => ?_)
  refine skip_ (w1 := ?_) (by rfl) rfl ?_ ?_
  rotate_left
  ·go_simp
   rfl
  refine hK.out _ _ ?_
  clear hK K
  refine done_ (done_of HT_.out (by kernel_rfl)) ?_
  have p9 : 0 ≤ (t370 : Int) := od_
  have q9 : (t370 : Int) < ((y375.length : Int) : Int) := od_
  replace p9 := eq_true p9
  replace q9 := eq_true q9
  try go_wp2
  go_ret3
  exact ⟨_, ew_, by (with_reducible repeat (first | apply Kd.R_alloc | apply Kd.R_drewN | apply Kd.R_drew)); exact HQ39.out, (hg2_ GB8 GE369)⟩
 rw [if_pos c10] at H
 have c10b0 : ((wrap64 (((rd_T23 y375 t370).f1) - a1_1)) == 0) = true := beq_iff_eq.mpr c10
 have c10b1 : ((wrap64 (((rd_T23 y375 t370).f1) - a1_1)) != 0) = false := bne_eq_false_iff_eq.mpr c10
 clear c10
 have c11b0 := eq_true (od_ : 0 ≤ t370)
 by_cases c12 : t370 ≤ (y375.length : Int)
 rotate_left
 ·rw [if_neg c12] at H
  exact absurd H (by simp)
 rw [if_pos c12] at H
 have c12b0 := eq_true c12
 have c12b1 : decide (t370 ≤ (y375.length : Int)) = true := dt_ c12
 clear c12
 obtain ⟨y381, hy381⟩ : ∃ y_ : List (S23), y_ = (y379.take (t370 : Int).toNat) := ⟨_, rfl⟩
 replace H : (if 0 ≤ (wrap64 (t370 + 1)) then (if (wrap64 (t370 + 1)) ≤ (y375.length : Int) then (some ((y379.eraseIdx (t370 : Int).toNat), t370, 0)) else (none)) else (none)) = some (r1, r2, r3) := by first | (rw [hy381]; with_reducible exact H) | (have H2_ := (Option.bind_some _ _).symm.trans H; rw [hy381]; with_reducible exact H2_) | (have H2_ := (Option.bind_some _ _).symm.trans H; with_reducible exact H2_) | with_reducible exact H | (rw [hy381]; exact H) | exact H
 have Ny381 := ak_ hy381
 clear hy381
 obtain ⟨ji13, hji13⟩ : ∃ j_ : Int, (wrap64 (t370 + 1)) = j_ := ⟨_, rfl⟩
 replace H : (if 0 ≤ (ji13) then (if (ji13) ≤ (y375.length : Int) then (some ((y379.eraseIdx (t370 : Int).toNat), t370, 0)) else (none)) else (none)) = some (r1, r2, r3) := by first | (rw [hji13] at H; exact H) | (simp only [hji13] at H ⊢; exact H)
 (try rw [hji13] at A3)
 have hji13w : (IntKind.i64.wrap (t370 + 1)) = ji13 := (i64_w _).trans hji13
 by_cases c14 : 0 ≤ (ji13)
 rotate_left
 ·rw [if_neg c14] at H
  exact absurd H (by simp)
 rw [if_pos c14] at H
 have c14b0 := eq_true c14
 have c14b1 : decide (0 ≤ (ji13)) = true := dt_ c14
 clear c14
 by_cases c15 : (ji13) ≤ (y375.length : Int)
 rotate_left
 ·rw [if_neg c15] at H
  exact absurd H (by simp)
 rw [if_pos c15] at H
 have c15b0 := eq_true c15
 have c15b1 : decide ((ji13) ≤ (y375.length : Int)) = true := dt_ c15
 clear c15
 obtain ⟨y385, hy385⟩ : ∃ y_ : List (S23), y_ = (y379.drop ((ji13) : Int).toNat) := ⟨_, rfl⟩
 replace H : (some ((y379.eraseIdx (t370 : Int).toNat), t370, 0)) = some (r1, r2, r3) := by first | (rw [hy385]; with_reducible exact H) | (have H2_ := (Option.bind_some _ _).symm.trans H; rw [hy385]; with_reducible exact H2_) | (have H2_ := (Option.bind_some _ _).symm.trans H; with_reducible exact H2_) | with_reducible exact H | (rw [hy385]; exact H) | exact H
 have Ny385 := ak_ hy385
 clear hy385
 obtain ⟨y389, hy389⟩ : ∃ y_ : List (S23), y_ = (y379.eraseIdx (t370 : Int).toNat) := ⟨_, rfl⟩
 replace H : (some (y389, t370, 0)) = some (r1, r2, r3) := by first | (rw [hy389]; with_reducible exact H) | (have H2_ := (Option.bind_some _ _).symm.trans H; rw [hy389]; with_reducible exact H2_) | (have H2_ := (Option.bind_some _ _).symm.trans H; with_reducible exact H2_) | with_reducible exact H | (rw [hy389]; exact H) | exact H
 have Ny389 := ak_ hy389
 clear hy389
 simp only [Option.some.injEq, Prod.mk.injEq] at H
 obtain ⟨rfl, rfl, rfl⟩ := H
 go_enter Tryd.func13, Tryd.ntmps13
 try go_wp2_with (first | ((with_reducible refine gate_dst (N := 3) rfl ?_); refine box_event ?hg (N := 3) ?hd (cs := #[.string a1_0, .int .i64 a1_1]) (t := 32) ?hr ?_; (case hd => rfl); (case hg => rfl); (case hr => first | (go_simp; done) | (go_simp; rfl)); intro gb369 hg w16 hbox hb; have BK369 := ak_ (hbox); have GW369 := ak_ ((by rw [hg]; exact (below_size hb_) : w.heap.size ≤ gb369)); have GE369 := ak_ ((by rw [hg]; exact (below_size hb_) : w.heap.size ≤ gb369)); replace HB := ak_ (below_step hb_ hb); skip; clear hb hbox hg; have hcz17_0 : w16.cell? ⟨gb369, 0, none⟩ = some (.string a1_0) := (blk_cell BK369.out 0).trans rfl; have hcz17_1 : w16.cell? ⟨gb369, 1, none⟩ = some (.int .i64 a1_1) := (blk_cell BK369.out 1).trans rfl; have hfz17_0 := blk_frozen BK369.out 0; have hfz17_1 := blk_frozen BK369.out 1) | ((with_reducible refine gate_callee (f := 15) rfl ?_); refine goesL_ (some 13) rfl rfl Tryd.func15 (by kernel_rfl) rfl #[.slice A0 l0.length c0, .agg #[.string a1_0, .int .i64 a1_1]] rfl ln_ ?_; (with_reducible refine (impl_BestCoil.calls k _ _ l0 a1_0 a1_1 t370 t371 _ (kc_ (Kd.C_below HR0.out HB.out)) HC0.out A3.out).mono ?_); rintro e w18 ⟨rfl, hb⟩; refine ⟨_, rfl, ?_⟩; replace BK369 := ak_ (blk_below (g := gb369) (o := .cells #[.string a1_0, .int .i64 a1_1] 32 (0, 0)) (bk_ BK369) hb); replace HB := ak_ (below_step (hg_ GE369) hb); skip; clear hb) | ((with_reducible refine gate_dst (N := 19) rfl ?_); refine Kd.R_lit k23 _ 23 ?hg (N := 19) ?hd (xs := ([] : List (S23))) (inner := []) (ok := fun _ => True) (okp := fun _ => True) ?hr ?hp (fun _ hk => hk) trivial (Below.refl _ _) (Nat.le_refl _) (by simp) ?_; (case hd => rfl); (case hg => rfl); (case hr => first | (go_simp; done) | (go_simp; rfl)); (case hp => exact (Reps.none _ _)); intro v373 w19 ho20 hb hg_ hnew_; clear hg_ hnew_; (first | rw [← Ny372.out] at ho20 | (simp only [Int.reduceToNat] at ho20; rw [← Ny372.out] at ho20)); have HO374 := ak_ (Kd.R_lower ho20 (below_size (hg_ GE369))); replace BK369 := ak_ (blk_below (g := gb369) (o := .cells #[.string a1_0, .int .i64 a1_1] 32 (0, 0)) (bk_ BK369) hb); replace HB := ak_ (below_step (hg_ GE369) hb); skip; clear hb ho20) | ((with_reducible refine gate_builtin (b := .append) (xs := #[.tmp 19, .tmp 20]) rfl ?_); at_builtin; refine Kd.R_append_rows k23 (w0 := w) w.heap.size rfl (.tmp 19) (.tmp 20) 30 23 (.agg #[(.string ⟨#[]⟩), (.int .i64 0)]) 24 rfl Tryd.underlying30 info23 rfl (by decide) (by omega) v373 y372 l0 _ _ _ (fun _ => True) (fun _ => False) rfl rfl ?aO ?aR (fun _ _ h => h) (fun _ h => h.elim) ?aF ?aB ?aS ?aL ?_; (case aR => exact kc_ (Kd.C_below HR0.out HB.out)); (case aB => exact (hg_ GE369)); (case aF => exact (fun _ _ => trivial)); (case aO => exact (kr_ HO374)); (case aS => exact (below_size (hg_ GE369))); (case aL => have := LMc5.out; omega); intro v376 w21 ho hb hg hat; rw [← Ny375.out] at ho; replace BK369 := ak_ (blk_grown (g := gb369) (o := .cells #[.string a1_0, .int .i64 a1_1] 32 (0, 0)) (bk_ BK369) hg (Kd.R_ne HO374.out BK369.out (by decide))); replace HB := ak_ (hb); have HO377 := ak_ (ho); clear HO374; clear ho hb hg hat))
 have n0_ := ak_ (Kd.R_drew HO377.out)
 have n1_ := ak_ (blk_drew BK369.out)
 have n2_ := ak_ (below_drew1 HB.out)
 clear HO377
 clear BK369
 clear HB
 have HO377 := n0_
 have BK369 := n1_
 have HB := n2_
 clear n0_ n1_ n2_
 obtain ⟨Ao23, co23, eo23⟩ := Kd.R_slice HO377.out
 (first | subst eo23 | (injection eo23 with f1_ f2_ f3_; have f4_ := f1_.symm; have f5_ := f3_.symm; clear f1_ f2_ f3_; subst f4_; subst f5_))
 have p378 : 0 ≤ (t370 : Int) := od_
 have q378 : t370 < (y375.length : Int) := od_
 obtain ⟨ad378, e378, hx378_0, hx378_1⟩ := at_T23 (Kd.R_reads' HO377.out).2.2 t370 p378 q378
 cases e378
 replace p378 := eq_true p378
 replace q378 := eq_true q378
 have p8 : 0 ≤ (t370 : Int) := od_
 have q8 : (t370 : Int) < ((y375.length : Int) : Int) := od_
 obtain ⟨go8, co8, eo8, gb8, gl8, cl8, HG8⟩ := Kd.R_form HO377.out (by omega)
 (first | cases eo8 | (injection eo8 with ea_ en_ ec_; (first | subst ea_ | (injection ea_ with ea_; subst ea_)); subst ec_; clear en_))
 have GB8 := ak_ gb8
 have GG8 := ak_ HG8
 clear gb8 gl8 HG8
 (first | simp only [add_plain] at hx378_0 | skip)
 (first | simp only [add_plain] at hx378_1 | skip)
 obtain ⟨ce8, hcl8, hM8, hcc8, hfr8⟩ := Kd.R_elem HO377.out z23 (t370 : Int) p8 q8
 obtain rfl := k23_openM hM8
 have hx8_0 : World.cell? _ ⟨go8, (t370 : Int).toNat * 2, none⟩ = some (.string ((rd_T23 y375 t370).f0)) := hcc8 0 _ rfl
 have hx8_1 : World.cell? _ ⟨go8, (t370 : Int).toNat * 2 + 1, none⟩ = some (.int .i64 ((rd_T23 y375 t370).f1)) := hcc8 1 _ rfl
 have hf8_0 : World.frozen? _ ⟨go8, (t370 : Int).toNat * 2, none⟩ = false := hfr8 0
 have hf8_1 : World.frozen? _ ⟨go8, (t370 : Int).toNat * 2 + 1, none⟩ = false := hfr8 1
 (try clear hcl8); (try clear hcc8); (try clear hfr8); (try clear hM8)
 replace p8 := eq_true p8
 replace q8 := eq_true q8
 obtain ⟨ce24, hcl24, hM24, hcc24, hfr24⟩ := Kd.R_elem HO377.out z23 (t370 : Int) (od_) (by have h_ : (t370 : Int) < ((y375.length : Int) : Int) := od_; first | exact h_ | (have e_ := (Kd.R_reads' HO377.out).1; omega) | simpa using h_)
 obtain rfl := k23_openM hM24
 have HP24 := (Kd.R_seg HO377.out (t370 : Int) (od_) (by have h_ : (t370 : Int) < ((y375.length : Int) : Int) := od_; first | exact h_ | (have e_ := (Kd.R_reads' HO377.out).1; omega) | simpa using h_) (seg := [.int .i64 (wrap64 (((rd_T23 y375 t370).f1) - a1_1))]) (j := 1) hcl24 hcc24 (show 2 ≤ 2 from by decide) (x' := (⟨(rd_T23 y375 t370).f0, wrap64 (((rd_T23 y375 t370).f1) - a1_1)⟩ : S23)) (k23_mkM _ _ _ (⟨(rd_T23 y375 t370).f0, wrap64 (((rd_T23 y375 t370).f1) - a1_1)⟩ : S23) ) (fun _ hk => hk)).1
 rw [← Ny379.out] at HP24
 have HQ24 := ak_ HP24
 (try clear hcl24); (try clear hcc24); (try clear hfr24); (try clear hM24); (try clear HP24)
 refine start_ (n := 11) (S := fun w' => w'.cell? ⟨gb369, 0, none⟩ = some (.string a1_0) ∧ w'.cell? ⟨gb369, 1, none⟩ = some (.int .i64 a1_1) ∧ w'.cell? ⟨go8, ((t370).toNat * 2), none⟩ = some (.string ((rd_T23 y375 t370).f0)) ∧ w'.cell? ⟨go8, ((t370).toNat * 2) + 1, none⟩ = some (.int .i64 ((rd_T23 y375 t370).f1))) (ds := [10]) #[F_,F_,F_,F_,F_,F_,F_,F_,F_,F_,F_] (by kernel_rfl) rfl rfl ⟨(blk_cell BK369.out 0).trans rfl, (blk_cell BK369.out 1).trans rfl, hx378_0, hx378_1⟩ (fun hHeld => ?_); refine with_tabW impl_CutPiece.tab5 impl_CutPiece.bits5 (fun HT_ HW_ => ?_)
 generalize w21.drew = w22 at HO377 BK369 HB GG8 HQ24 hf8_0 hf8_1 hx378_0 hx378_1 hx8_0 hx8_1 hHeld ⊢
 refine pv (i := 0) (N := some 22) HT_ ?_
 refine pv (i := 1) (N := some 23) HT_ ?_
 refine pv (i := 2) (N := some 24) HT_ ?_
 refine pv (i := 3) (N := some 25) HT_ ?_
 refine pv (i := 5) (N := some 27) HT_ ?_
 refine take_ (i := 4) (N := some 26) (v := ?_) (a' := ?_) #[T_,T_,T_,T_,T_,T_,F_,F_,F_,F_,F_] rfl rfl (take_ofW HT_.out HW_.out (by kernel_rfl)) (fun _ _ _ h => h) (Or.inl ⟨by rfl, ?_⟩) hHeld ?_ ?_
 rotate_left
 ·rintro w' ⟨s0, s1, s2, s3⟩
  go_simp
  with_reducible rfl
 rotate_left
 ·simp only [Act.put, sT_, s0_, sS_, i64_w, i32_w]
  rfl
 refine take_ (i := 6) (N := some 28) (v := ?_) (a' := ?_) #[T_,T_,T_,T_,T_,T_,T_,F_,F_,F_,F_] rfl rfl (take_ofW HT_.out HW_.out (by kernel_rfl)) (fun _ _ _ h => h) (Or.inl ⟨by rfl, ?_⟩) hHeld ?_ ?_
 rotate_left
 ·rintro w' ⟨s0, s1, s2, s3⟩
  go_simp
  with_reducible rfl
 rotate_left
 ·simp only [Act.put, sT_, s0_, sS_, i64_w, i32_w]
  rfl
 refine pv (i := 7) (N := some 29) HT_ ?_
 refine pv (i := 8) (N := some 30) HT_ ?_
 refine pv (i := 9) (N := some 31) HT_ ?_
 refine last_ (i := 10) (N := none) #[T_,T_,T_,T_,T_,T_,T_,T_,T_,T_,T_] rfl rfl (one_of HT_.out (by kernel_rfl)) (by decide) (fun K hK => ?_)
 refine skip_ (w1 := ?_) (by rfl) rfl ?_ ?_
 rotate_left
 ·go_simp
  rfl
 refine hK.out _ _ ?_
 clear hK K
 refine done_ (done_of HT_.out (by kernel_rfl)) ?_
 have p9 : 0 ≤ (t370 : Int) := od_
 have q9 : (t370 : Int) < ((y375.length : Int) : Int) := od_
 replace p9 := eq_true p9
 replace q9 := eq_true q9
 try go_wp2
 have n0_ : Aside0 (Kd.R k23 23 (w22.setCell ⟨go8, (t370 : Int).toNat * 2 + 1, none⟩ (.int .i64 (wrap64 (((rd_T23 y375 t370).f1) - a1_1)))) w.heap.size (fun _ => True) (.slice (some ⟨go8, 0, none⟩) y375.length co23) y379) := ⟨by (with_reducible repeat (first | apply Kd.R_alloc | apply Kd.R_drewN | apply Kd.R_drew)); exact HQ24.out⟩
 have n1_ : Aside0 ((w22.setCell ⟨go8, (t370 : Int).toNat * 2 + 1, none⟩ (.int .i64 (wrap64 (((rd_T23 y375 t370).f1) - a1_1)))).heap[gb369]? = some (.cells #[.string a1_0, .int .i64 a1_1] 32 (0, 0))) := ⟨by (with_reducible repeat (first | refine blk_drewN ?_ _ | refine blk_drew ?_ | refine blk_alloc ?_ _)); refine blk_far ?_ (by have h_ := Kd.R_ne HO377.out BK369.out (by decide); intro e_; exact h_ (by rw [e_]; rfl)) _; (with_reducible repeat (first | refine blk_drewN ?_ _ | refine blk_drew ?_ | refine blk_alloc ?_ _)); exact BK369.out⟩
 have n2_ : Aside0 (Below w.heap.size w (w22.setCell ⟨go8, (t370 : Int).toNat * 2 + 1, none⟩ (.int .i64 (wrap64 (((rd_T23 y375 t370).f1) - a1_1))))) := ⟨(hg2_ GB8 GE369)⟩
 (try clear HO377)
 (try clear BK369)
 (try clear HB)
 generalize (w22.setCell ⟨go8, (t370 : Int).toNat * 2 + 1, none⟩ (.int .i64 (wrap64 (((rd_T23 y375 t370).f1) - a1_1)))) = w25 at n0_ n1_ n2_ ⊢
 have HO377 := n0_
 have BK369 := n1_
 have HB := n2_
 clear n0_ n1_ n2_
 have n0_ := ak_ (Kd.R_drew HO377.out)
 have n1_ := ak_ (blk_drew BK369.out)
 have n2_ := ak_ (below_drew1 HB.out)
 clear HO377
 clear BK369
 clear HB
 have HO377 := n0_
 have BK369 := n1_
 have HB := n2_
 clear n0_ n1_ n2_
 have hlx27 := (Kd.R_reads' HO377.out).1
 have q27 : (t370 : Int) ≤ ((y375.length : Int) : Int) := od_
 obtain ⟨i027, hi027, _, hsz27, _⟩ := info_parts info23
 have hroom27 : y375.length ≤ co23 := (Kd.R_reads' HO377.out).2.1
 have hroomc27 : y379.length ≤ co23 := (by rw [← hlx27]; exact hroom27)
 have hC27 : Kd.C k23 _ (some ⟨go8, 0, none⟩) y379.length y379 := (Kd.R_reads' HO377.out).2.2
 have hcut27 := cut_to (P := Tryd.prog) 30 23 .i64 Tryd.underlying30 hi027 (some ⟨go8, 0, none⟩) y375.length co23 t370 (od_) q27 hroom27
 have hr27 := Kd.C_take (m := (t370 : Int).toNat) hC27 (by omega)
 have hy27 : y381.length = (t370 : Int).toNat := (by rw [Ny381.out, List.length_take]; omega)
 rw [← Ny381.out] at hr27
 rw [← hy27] at hcut27
 have HR384 := ak_ hr27
 have HC384 := ak_ (show y381.length ≤ co23 from by omega)
 clear hr27 hC27 hroom27 hi027 hsz27 hroomc27
 have KY27 := ak_ hy27
 clear hy27
 have KE27 := ak_ hlx27
 have KL27 := ak_ (show (t370 : Int).toNat ≤ y379.length from by omega)
 clear hlx27
 replace q27 := eq_true q27
 have hlx28 := (Kd.R_reads' HO377.out).1
 have q28 : ((ji13) : Int) ≤ ((y375.length : Int) : Int) := od_
 obtain ⟨i028, hi028, _, hsz28, _⟩ := info_parts info23
 have hroom28 : y375.length ≤ co23 := (Kd.R_reads' HO377.out).2.1
 have hroomc28 : y379.length ≤ co23 := (by rw [← hlx28]; exact hroom28)
 have hC28 : Kd.C k23 _ (some ⟨go8, 0, none⟩) y379.length y379 := (Kd.R_reads' HO377.out).2.2
 have q028 : (0 : Int) ≤ ((ji13) : Int) := od_
 have hcut28 := cut_from (P := Tryd.prog) 30 23 .i64 Tryd.underlying30 hi028 2 hsz28 (some ⟨go8, 0, none⟩) y375.length co23 (ji13) q028 q28
 have hr28 := Kd.C_drop (m := ((ji13) : Int).toNat) (c := co23) hC28 (by omega) hroomc28
 obtain ⟨A28, hA28⟩ : ∃ Az_, Az_ = (if co23 = ((ji13) : Int).toNat then (some ⟨go8, 0, none⟩) else ((some ⟨go8, 0, none⟩) : Option Addr).map (·.add (((ji13) : Int).toNat * 2))) := ⟨_, rfl⟩
 obtain ⟨c28, hc28⟩ : ∃ cz_, cz_ = co23 - ((ji13) : Int).toNat := ⟨_, rfl⟩
 have hy28 : y385.length = y375.length - ((ji13) : Int).toNat := (by rw [Ny385.out, List.length_drop] <;> omega)
 rw [show (y379).drop ((ji13) : Int).toNat = y385 from Ny385.out.symm] at hr28
 replace hr28 : Kd.C k23 _ A28 y385.length y385 := (by rw [hA28]; exact hr28)
 rw [← hy28, ← hA28, ← hc28] at hcut28
 have HR388 := ak_ hr28
 have HC388 := ak_ (show y385.length ≤ c28 from by rw [hy28, hc28]; exact Nat.sub_le_sub_right hroom28 _)
 clear hr28 hC28 hroom28 hi028 hsz28 hc28 hroomc28
 have KY28 := ak_ hy28
 have KA28 := ak_ hA28
 clear hy28 hA28
 have KE28 := ak_ hlx28
 have KL28 := ak_ (show ((ji13) : Int).toNat ≤ y379.length from by omega)
 clear hlx28
 replace q28 := eq_true q28
 refine start_ (n := 9) (S := fun w' => True) (ds := []) #[F_,F_,F_,F_,F_,F_,F_,F_,F_] (by kernel_rfl) rfl rfl trivial (fun hHeld => ?_); refine with_tabW impl_CutPiece.tab7 impl_CutPiece.bits7 (fun HT_ HW_ => ?_)
 generalize w25.drew = w26 at HO377 BK369 HB HQ24 HR384 HR388 hHeld ⊢
 refine pv (i := 0) (N := some 38) HT_ ?_
 refine pv (i := 1) (N := some 39) HT_ ?_
 refine pv (i := 2) (N := some 40) HT_ ?_
 refine pv (i := 3) (N := some 41) HT_ ?_
 refine pv (i := 4) (N := some 42) HT_ ?_
 refine pv (i := 5) (N := some 43) HT_ ?_
 refine pv (i := 6) (N := some 44) HT_ ?_
 refine one_ (i := 7) (N := some 45) #[T_,T_,T_,T_,T_,T_,T_,T_,F_] rfl rfl (one_of HT_.out (by kernel_rfl)) (by decide) (fun K hK => ?_)
 have hj_ : 0 ≤ (t370 : Int) := od_
 have hl_ : (ji13 : Int) ≤ (y375.length : Int) := od_
 have hh_ : (t370 : Int) ≤ (y375.length : Int) := od_
 have hb_ := (Kd.R_reads' HO377.out).2.2.2.1
 have h0_ : (0 : Int) ≤ (ji13 : Int) := od_
 have hy1_ := KY27.out
 have hk_ : (ji13 : Int).toNat = y381.length + 1 := (by have hw_ : (ji13 : Int) = t370 + 1 := (by have h00_ := h0_; (try have hz372_ := congrArg List.length Ny372.out); (try rw [List.length_set] at hz372_); (try have hz375_ := congrArg List.length Ny375.out); (try rw [List.length_set] at hz375_); (try have hz379_ := congrArg List.length Ny379.out); (try rw [List.length_set] at hz379_); (try have hz381_ := congrArg List.length Ny381.out); (try rw [List.length_set] at hz381_); (try have hz385_ := congrArg List.length Ny385.out); (try rw [List.length_set] at hz385_); (try have hz389_ := congrArg List.length Ny389.out); (try rw [List.length_set] at hz389_); rw [← hji13] at h00_ ⊢; unfold wrap64 at h00_ ⊢; omega); rw [hw_]; omega)
 refine Kd.R_delete_step k23 (w0 := w) w.heap.size (by rfl) (.tmp 40) (.tmp 44) 30 23 rfl Tryd.underlying30 (by kernel_rfl) (g := go8) (n := y375.length) (c := co23) (k := y381.length) rfl rfl ?hA ?hm (kr_ HO377) ?hk (hg_ GE369) (below_size (hg_ GE369)) ?_
 (case hA => have ha_ := KA28.out; rw [hk_] at ha_; exact ha_)
 (case hm => have ha_ := KY28.out; omega)
 (case hk => omega)
 intro w29 ho hb hg
 clear hj_ hl_ hh_ hb_ hk_ h0_
 rw [hy1_, ← Ny389.out] at ho
 clear hy1_
 have hn_ : y375.length - 1 = y389.length := (by have := (Kd.R_reads' ho).1; omega)
 rw [hn_] at ho ⊢
 clear hn_
 have n0_ := ak_ (blk_grown (g := gb369) (o := .cells #[.string a1_0, .int .i64 a1_1] 32 (0, 0)) (bk_ BK369) hg (Kd.R_ne HO377.out BK369.out (by decide)))
 have n1_ := ak_ (ho)
 have n2_ := ak_ (hb)
 clear BK369
 clear HO377
 clear HB
 have BK369 := n0_
 have HO377 := n1_
 have HB := n2_
 clear n0_ n1_ n2_
 clear ho hb hg
 refine hK.out _ _ trivial (fun hHeld => ?_)
 clear hK K
 refine norm_ (a' := ?_) ?_ ?_
 rotate_left
 ·show Act.put _ (some 45) _ = _
  simp only [Act.put, sT_, s0_, sS_, i64_w, i32_w]
  rfl
 refine pv (i := 8) (N := some 9) HT_ ?_
 refine done_ (done_of HT_.out (by kernel_rfl)) ?_
 try go_wp2
 go_ret3
 exact ⟨_, by first | rfl | (simp [errW_none, errW_some] <;> rfl) | (simp only [← hji13]; first | rfl | (simp [errW_none, errW_some] <;> rfl)) | (simp [*, errW_none, errW_some] <;> rfl), by (with_reducible repeat (first | apply Kd.R_alloc | apply Kd.R_drewN | apply Kd.R_drew)); exact HO377.out, (hg_ GE369)⟩
/-! ### spec_l23Ok: function 81 -/
def spec_l23Ok.l0 : Nat → List (S23) → Int → Option (Bool)
 | 0, _, _ => none
 | k + 1, x0, x3 => if x3 < (x0.length : Int) then (if 0 ≤ x3 then ((spec_l23One.f k ((rd_T23 x0 x3).f0) ((rd_T23 x0 x3).f1)).bind fun t393 => (if t393 = true then (spec_l23Ok.l0 k x0 (wrap64 (x3 + 1))) else (some false))) else (none)) else (some (decide ((x0.length : Int) ≤ 40)))
def spec_l23Ok.f (k : Nat) (l0 : List (S23)) : Option (Bool) := spec_l23Ok.l0 k l0 0
set_option maxHeartbeats 8000000 in
set_option maxRecDepth 100000 in
theorem spec_l23Ok.calls (k : Nat) (A0 : Option Addr) (c0 : Nat) (l0 : List (S23)) (r : Bool) (w : World) (hr0 : Kd.C k23 w A0 l0.length l0) (hc0 : l0.length ≤ c0) (h : spec_l23Ok.f k l0 = some r) :
  Calls Tryd.prog 81 #[.slice A0 l0.length c0] w fun e w' => e = .returned (.bool r) ∧ Below w.heap.size w w' := by
 have HR0 := ak_ hr0
 have HC0 := ak_ hc0
 clear hr0 hc0
 have HB := ak_ (Below.refl w.heap.size w)
 have H : (spec_l23Ok.l0 k l0 0) = some r := h
 clear h
 have H' := ak_ H
 clear H
 go_enter Tryd.func81, Tryd.ntmps81
 go_wp2
 go_loopg [3] k (fun kq v3 w' => ∃ (x3_1 : Int), v3 = .int .i64 x3_1 ∧ Aside0 (spec_l23Ok.l0 kq l0 x3_1 = some r) ∧ Aside0 (kq ≤ k) ∧ Aside0 (Below w.heap.size w w'))
 case atStart => exact ⟨(0), fr_, H', ⟨Nat.le_refl _⟩, ⟨hb_⟩⟩
 case round =>
  clear H'
  obtain ⟨x3_1, rfl, HA, HK1, HB⟩ := hrel
  cases gk with
  | zero => exact absurd HA.out (by simp [spec_l23Ok.l0])
  | succ k1 =>
   have H := HA.out
   clear HA
   simp only [spec_l23Ok.l0] at H
   by_cases c2 : x3_1 < (l0.length : Int)
   rotate_left
   ·rw [if_neg c2] at H
    have c2b0 : decide (x3_1 < (l0.length : Int)) = false := decide_eq_false c2
    clear c2
    obtain rfl := Option.some.inj H
    go_wp2
    go_ret
    exact ⟨ew_, hb_⟩

   rw [if_pos c2] at H
   have c2b0 : decide (x3_1 < (l0.length : Int)) = true := dt_ c2
   clear c2
   by_cases c3 : 0 ≤ x3_1
   rotate_left
   ·rw [if_neg c3] at H
    exact absurd H (by simp)
   rw [if_pos c3] at H
   have c3b0 : decide (0 ≤ x3_1) = true := dt_ c3
   clear c3
   replace H := ob_ H
   obtain ⟨t393, A40, H⟩ := H
   (try dsimp only at H)
   have A4 := ak_ A40
   clear A40
   by_cases c5 : t393 = true
   rotate_left
   ·replace c5 := Bool.eq_false_iff.mpr c5
    subst c5
    have H1 : (some false) = some r := by rw [if_neg (show ¬ (false = true) by decide)] at H; exact H
    clear H
    have H := H1
    clear H1
    obtain rfl := Option.some.inj H
    have p392 : 0 ≤ (x3_1 : Int) := od_
    have q392 : x3_1 < (l0.length : Int) := od_
    obtain ⟨ad392, e392, hx392_0, hx392_1⟩ := at_T23 HR0.out x3_1 p392 q392
    cases e392
    replace hx392_0 := cq_ HB hx392_0
    replace hx392_1 := cq_ HB hx392_1
    replace p392 := eq_true p392
    replace q392 := eq_true q392
    go_wp2_with (first | ((with_reducible refine gate_callee (f := 66) rfl ?_); refine goesL_ (some 13) rfl rfl Tryd.func66 (by kernel_rfl) rfl #[.pointer (some (ad392.add ((x3_1).toNat * 2)))] rfl ln_ ?_; (with_reducible refine (spec_l23One.calls k1 _ ((rd_T23 l0 x3_1).f0) ((rd_T23 l0 x3_1).f1) false _ ?side1 ?side2 A4.out).mono ?_); (case side1 => first | exact hx392_0 | (simpa using hx392_0) | (go_simp; done)); (case side2 => first | exact hx392_1 | (simpa using hx392_1) | (go_simp; done)); rintro e w7 ⟨rfl, hb⟩; refine ⟨_, rfl, ?_⟩; replace HB := ak_ (below_step hb_ hb); skip; clear hb))
    go_ret
    exact ⟨ew_, hb_⟩
   subst c5
   have H1 : (spec_l23Ok.l0 k1 l0 (wrap64 (x3_1 + 1))) = some r := by rw [if_pos rfl] at H; exact H
   clear H
   have H := H1
   clear H1
   have H' := ak_ H
   clear H
   have p392 : 0 ≤ (x3_1 : Int) := od_
   have q392 : x3_1 < (l0.length : Int) := od_
   obtain ⟨ad392, e392, hx392_0, hx392_1⟩ := at_T23 HR0.out x3_1 p392 q392
   cases e392
   replace hx392_0 := cq_ HB hx392_0
   replace hx392_1 := cq_ HB hx392_1
   replace p392 := eq_true p392
   replace q392 := eq_true q392
   go_wp2_with (first | ((with_reducible refine gate_callee (f := 66) rfl ?_); refine goesL_ (some 13) rfl rfl Tryd.func66 (by kernel_rfl) rfl #[.pointer (some (ad392.add ((x3_1).toNat * 2)))] rfl ln_ ?_; (with_reducible refine (spec_l23One.calls k1 _ ((rd_T23 l0 x3_1).f0) ((rd_T23 l0 x3_1).f1) true _ ?side1 ?side2 A4.out).mono ?_); (case side1 => first | exact hx392_0 | (simpa using hx392_0) | (go_simp; done)); (case side2 => first | exact hx392_1 | (simpa using hx392_1) | (go_simp; done)); rintro e w6 ⟨rfl, hb⟩; refine ⟨_, rfl, ?_⟩; replace HB := ak_ (below_step hb_ hb); skip; clear hb))
   go_roundg k1
   case measure => have := HK1.out; omega
   case rel => exact ⟨(wrap64 (x3_1 + 1)), fr_, H', ⟨by have := HK1.out; omega⟩, ⟨hb_⟩⟩
/-! ### spec_l23Want: function 130 -/
def spec_l23Want.f (k : Nat) (s0_0 : ByteArray) (s0_1 : Int) : Option (Bool) := (spec_IsName.f k s0_0).bind fun t394 => (if t394 = true then ((spec_l00In.f s0_1 1 100000).bind fun t395 => (some t395)) else (some false))
set_option maxHeartbeats 8000000 in
set_option maxRecDepth 100000 in
theorem spec_l23Want.calls0 (k : Nat) (g o : Nat) (z : Option Nat) (s0_0 : ByteArray) (s0_1 : Int) (r : Bool) (w0 w : World) (hI : IsE32 w0 w g o z s0_0 s0_1) (hB : Below w0.heap.size w0 w) (h : spec_l23Want.f k s0_0 s0_1 = some r) :
  Calls Tryd.prog 130 #[.pointer (some ⟨g, o, z⟩)] w fun e w' => e = .returned (.bool r) ∧ IsE32 w0 w' g o z s0_0 s0_1 ∧ Below w0.heap.size w0 w' ∧ KeepBut w w' w.heap.size none := by
 have HI0 := ak_ hI
 have HK := ak_ (KeepBut.refl w w.heap.size none)
 have HL := ak_ hB.size
 clear hI
 have HW0 := ak_ hB.size
 have HB := ak_ hB
 clear hB
 have H : ((spec_IsName.f k s0_0).bind fun t394 => (if t394 = true then ((spec_l00In.f s0_1 1 100000).bind fun t395 => (some t395)) else (some false))) = some r := h
 clear h
 replace H := ob_ H
 obtain ⟨t394, A20, H⟩ := H
 (try dsimp only at H)
 have A2 := ak_ A20
 clear A20
 by_cases c3 : t394 = true
 rotate_left
 ·replace c3 := Bool.eq_false_iff.mpr c3
  subst c3
  have H1 : (some false) = some r := by rw [if_neg (show ¬ (false = true) by decide)] at H; exact H
  clear H
  have H := H1
  clear H1
  obtain rfl := Option.some.inj H
  obtain ⟨HGz6, hgz6⟩ := HI0.out
  have hcz6_0 := cellE32_0 HGz6
  have hcz6_1 := cellE32_1 HGz6
  clear HGz6 hgz6
  go_enter Tryd.func130, Tryd.ntmps130
  go_wp2_with (first | ((with_reducible refine gate_callee (f := 82) rfl ?_); refine goesL_ (some 7) rfl rfl Tryd.func82 (by kernel_rfl) rfl #[.string s0_0] rfl ln_ ?_; (with_reducible refine (spec_IsName.calls k s0_0 false _ A2.out).mono ?_); rintro e w' ⟨rfl, ⟨nd, rfl⟩⟩; refine ⟨_, rfl, ?_⟩))
  go_ret
  exact ⟨ew_, isE32_a HI0, hb_, by repeat (first | (with_reducible first | exact HK.out | apply keep_drewN | apply keep_drew | apply keep_alloc) | exact HK.out)⟩
 subst c3
 have H1 : ((spec_l00In.f s0_1 1 100000).bind fun t395 => (some t395)) = some r := by rw [if_pos rfl] at H; exact H
 clear H
 have H := H1
 clear H1
 replace H := ob_ H
 obtain ⟨t395, A40, H⟩ := H
 (try dsimp only at H)
 have A4 := ak_ A40
 clear A40
 obtain rfl := Option.some.inj H
 obtain ⟨HGz5, hgz5⟩ := HI0.out
 have hcz5_0 := cellE32_0 HGz5
 have hcz5_1 := cellE32_1 HGz5
 clear HGz5 hgz5
 go_enter Tryd.func130, Tryd.ntmps130
 go_wp2_with (first | ((with_reducible refine gate_callee (f := 82) rfl ?_); refine goesL_ (some 7) rfl rfl Tryd.func82 (by kernel_rfl) rfl #[.string s0_0] rfl ln_ ?_; (with_reducible refine (spec_IsName.calls k s0_0 true _ A2.out).mono ?_); rintro e w' ⟨rfl, ⟨nd, rfl⟩⟩; refine ⟨_, rfl, ?_⟩) | (go_at_call 88; (with_reducible refine (spec_l00In.calls s0_1 1 100000 t395 _ A4.out).mono ?_); rintro e w' ⟨rfl, ⟨nd, rfl⟩⟩))
 go_ret
 exact ⟨ew_, isE32_a HI0, hb_, by repeat (first | (with_reducible first | exact HK.out | apply keep_drewN | apply keep_drew | apply keep_alloc) | exact HK.out)⟩
theorem spec_l23Want.calls (k : Nat) (g : Addr) (s0_0 : ByteArray) (s0_1 : Int) (r : Bool) (w : World) (he0 : w.cell? g = some (.string s0_0)) (he1 : w.cell? ⟨g.block, g.off + 1, none⟩ = some (.int .i64 s0_1)) (h : spec_l23Want.f k s0_0 s0_1 = some r) :
  Calls Tryd.prog 130 #[.pointer (some g)] w fun e w' => e = .returned (.bool r) ∧ Below w.heap.size w w' := by
 refine (spec_l23Want.calls0 k g.block g.off g.spot s0_0 s0_1 r w w ⟨⟨he0, he1⟩, trivial⟩ (Below.refl _ _) h).mono ?_
 rintro e w' ⟨rfl, _, hb, _⟩
 exact ⟨rfl, hb⟩


/-! ### spec_l23Code: function 71 -/
def spec_l23Code.f (k : Nat) (l0 : List (S23)) (s1_0 : ByteArray) (s1_1 : Int) : Option (Int) := (spec_l23Ok.f k l0).bind fun t396 => (if t396 = true then ((spec_l23Want.f k s1_0 s1_1).bind fun t397 => (if t397 = true then (some 0) else (some 2))) else (some 1))
set_option maxHeartbeats 8000000 in
set_option maxRecDepth 100000 in
theorem spec_l23Code.calls0 (k : Nat) (A0 : Option Addr) (c0 : Nat) (l0 : List (S23)) (g o : Nat) (z : Option Nat) (s1_0 : ByteArray) (s1_1 : Int) (r : Int) (w0 w : World) (hI : IsE32 w0 w g o z s1_0 s1_1) (hB : Below w0.heap.size w0 w) (hr0 : ∀ W_, KeepBut w W_ w.heap.size none → Kd.C k23 W_ A0 l0.length l0) (hc0 : l0.length ≤ c0) (h : spec_l23Code.f k l0 s1_0 s1_1 = some r) :
  Calls Tryd.prog 71 #[.slice A0 l0.length c0, .pointer (some ⟨g, o, z⟩)] w fun e w' => e = .returned (.int .i64 r) ∧ IsE32 w0 w' g o z s1_0 s1_1 ∧ Below w0.heap.size w0 w' ∧ KeepBut w w' w.heap.size none := by
 have HR0 := ak_ hr0
 have HC0 := ak_ hc0
 clear hr0 hc0
 have HI1 := ak_ hI
 have HK := ak_ (KeepBut.refl w w.heap.size none)
 have HL := ak_ hB.size
 clear hI
 have HW0 := ak_ hB.size
 have HB := ak_ hB
 clear hB
 have H : ((spec_l23Ok.f k l0).bind fun t396 => (if t396 = true then ((spec_l23Want.f k s1_0 s1_1).bind fun t397 => (if t397 = true then (some 0) else (some 2))) else (some 1))) = some r := h
 clear h
 replace H := ob_ H
 obtain ⟨t396, A30, H⟩ := H
 (try dsimp only at H)
 have A3 := ak_ A30
 clear A30
 by_cases c4 : t396 = true
 rotate_left
 ·replace c4 := Bool.eq_false_iff.mpr c4
  subst c4
  have H1 : (some 1) = some r := by rw [if_neg (show ¬ (false = true) by decide)] at H; exact H
  clear H
  have H := H1
  clear H1
  obtain rfl := Option.some.inj H
  go_enter Tryd.func71, Tryd.ntmps71
  go_wp2_with (first | ((with_reducible refine gate_callee (f := 81) rfl ?_); refine goesL_ (some 6) rfl rfl Tryd.func81 (by kernel_rfl) rfl #[.slice A0 l0.length c0] rfl ln_ ?_; (with_reducible refine (spec_l23Ok.calls k _ _ l0 false _ ?side1 ?side2 A3.out).mono ?_); (case side1 => exact Kd.C_foot_now HR0.out kb_); (case side2 => exact HC0.out); rintro e w11 ⟨rfl, hb⟩; refine ⟨_, rfl, ?_⟩; replace HI1 := ak_ (IsE32.below (isE32_a HI1) hb); replace HK := ak_ (KeepBut.trans kb_ (KeepBut.of_below hb w.heap.size none) (.inl rfl)); replace HB := ak_ (below_step hb_ hb); skip; clear hb))
  go_ret
  exact ⟨ew_, isE32_a HI1, hb_, by repeat (first | (with_reducible first | exact HK.out | apply keep_drewN | apply keep_drew | apply keep_alloc) | exact HK.out)⟩
 subst c4
 have H1 : ((spec_l23Want.f k s1_0 s1_1).bind fun t397 => (if t397 = true then (some 0) else (some 2))) = some r := by rw [if_pos rfl] at H; exact H
 clear H
 have H := H1
 clear H1
 replace H := ob_ H
 obtain ⟨t397, A50, H⟩ := H
 (try dsimp only at H)
 have A5 := ak_ A50
 clear A50
 by_cases c6 : t397 = true
 ·subst c6
  have H1 : (some 0) = some r := by rw [if_pos rfl] at H; exact H
  clear H
  have H := H1
  clear H1
  obtain rfl := Option.some.inj H
  go_enter Tryd.func71, Tryd.ntmps71
  go_wp2_with (first | ((with_reducible refine gate_callee (f := 81) rfl ?_); refine goesL_ (some 6) rfl rfl Tryd.func81 (by kernel_rfl) rfl #[.slice A0 l0.length c0] rfl ln_ ?_; (with_reducible refine (spec_l23Ok.calls k _ _ l0 true _ ?side1 ?side2 A3.out).mono ?_); (case side1 => exact Kd.C_foot_now HR0.out kb_); (case side2 => exact HC0.out); rintro e w7 ⟨rfl, hb⟩; refine ⟨_, rfl, ?_⟩; replace HI1 := ak_ (IsE32.below (isE32_a HI1) hb); replace HK := ak_ (KeepBut.trans kb_ (KeepBut.of_below hb w.heap.size none) (.inl rfl)); replace HB := ak_ (below_step hb_ hb); skip; clear hb) | ((with_reducible refine gate_callee (f := 130) rfl ?_); refine goesL_ (some 9) rfl rfl Tryd.func130 (by kernel_rfl) rfl #[.pointer (some ⟨g, o, z⟩)] rfl ln_ ?_; (with_reducible refine (spec_l23Want.calls k _ s1_0 s1_1 true _ ?side1 ?side2 A5.out).mono ?_); (case side1 => exact cellE32_0 (show IsE32 w0 _ g o z s1_0 s1_1 from isE32_a HI1).1); (case side2 => exact cellE32_1 (show IsE32 w0 _ g o z s1_0 s1_1 from isE32_a HI1).1); rintro e w8 ⟨rfl, hb⟩; refine ⟨_, rfl, ?_⟩; replace HI1 := ak_ (IsE32.below (isE32_a HI1) hb); replace HK := ak_ (KeepBut.trans kb_ (KeepBut.of_below hb w.heap.size none) (.inl rfl)); replace HB := ak_ (below_step hb_ hb); skip; clear hb))
  go_ret
  exact ⟨ew_, isE32_a HI1, hb_, by repeat (first | (with_reducible first | exact HK.out | apply keep_drewN | apply keep_drew | apply keep_alloc) | exact HK.out)⟩
 replace c6 := Bool.eq_false_iff.mpr c6
 subst c6
 have H1 : (some 2) = some r := by rw [if_neg (show ¬ (false = true) by decide)] at H; exact H
 clear H
 have H := H1
 clear H1
 obtain rfl := Option.some.inj H
 go_enter Tryd.func71, Tryd.ntmps71
 go_wp2_with (first | ((with_reducible refine gate_callee (f := 81) rfl ?_); refine goesL_ (some 6) rfl rfl Tryd.func81 (by kernel_rfl) rfl #[.slice A0 l0.length c0] rfl ln_ ?_; (with_reducible refine (spec_l23Ok.calls k _ _ l0 true _ ?side1 ?side2 A3.out).mono ?_); (case side1 => exact Kd.C_foot_now HR0.out kb_); (case side2 => exact HC0.out); rintro e w9 ⟨rfl, hb⟩; refine ⟨_, rfl, ?_⟩; replace HI1 := ak_ (IsE32.below (isE32_a HI1) hb); replace HK := ak_ (KeepBut.trans kb_ (KeepBut.of_below hb w.heap.size none) (.inl rfl)); replace HB := ak_ (below_step hb_ hb); skip; clear hb) | ((with_reducible refine gate_callee (f := 130) rfl ?_); refine goesL_ (some 9) rfl rfl Tryd.func130 (by kernel_rfl) rfl #[.pointer (some ⟨g, o, z⟩)] rfl ln_ ?_; (with_reducible refine (spec_l23Want.calls k _ s1_0 s1_1 false _ ?side1 ?side2 A5.out).mono ?_); (case side1 => exact cellE32_0 (show IsE32 w0 _ g o z s1_0 s1_1 from isE32_a HI1).1); (case side2 => exact cellE32_1 (show IsE32 w0 _ g o z s1_0 s1_1 from isE32_a HI1).1); rintro e w10 ⟨rfl, hb⟩; refine ⟨_, rfl, ?_⟩; replace HI1 := ak_ (IsE32.below (isE32_a HI1) hb); replace HK := ak_ (KeepBut.trans kb_ (KeepBut.of_below hb w.heap.size none) (.inl rfl)); replace HB := ak_ (below_step hb_ hb); skip; clear hb))
 go_ret
 exact ⟨ew_, isE32_a HI1, hb_, by repeat (first | (with_reducible first | exact HK.out | apply keep_drewN | apply keep_drew | apply keep_alloc) | exact HK.out)⟩
theorem spec_l23Code.calls (k : Nat) (A0 : Option Addr) (c0 : Nat) (l0 : List (S23)) (g : Addr) (s1_0 : ByteArray) (s1_1 : Int) (r : Int) (w : World) (hr0 : Kd.C k23 w A0 l0.length l0) (hc0 : l0.length ≤ c0) (he0 : w.cell? g = some (.string s1_0)) (he1 : w.cell? ⟨g.block, g.off + 1, none⟩ = some (.int .i64 s1_1)) (h : spec_l23Code.f k l0 s1_0 s1_1 = some r) :
  Calls Tryd.prog 71 #[.slice A0 l0.length c0, .pointer (some g)] w fun e w' => e = .returned (.int .i64 r) ∧ Below w.heap.size w w' := by
 refine (spec_l23Code.calls0 k A0 c0 l0 g.block g.off g.spot s1_0 s1_1 r w w ⟨⟨he0, he1⟩, trivial⟩ (Below.refl _ _) (Kd.C_foot_came k23_heap hr0 (Below.refl _ _) (Nat.le_refl _)) hc0 h).mono ?_
 rintro e w' ⟨rfl, _, hb, _⟩
 exact ⟨rfl, hb⟩


/-! ### spec_l23Best: function 72 -/
def spec_l23Best.l0 : Nat → List (S23) → Int → Int → ByteArray → Int → Option (Int)
 | 0, _, _, _, _, _ => none
 | k + 1, x0, x5, x6, x2000, x2001 => if x6 < (x0.length : Int) then (if 0 ≤ x6 then (if ((rd_T23 x0 x6).f0).toList = x2000.toList then (if ((rd_T23 x0 x6).f1) ≥ x2001 then (if x5 < 0 then (spec_l23Best.l0 k x0 x6 (wrap64 (x6 + 1)) x2000 x2001) else (if 0 ≤ x5 then (if x5 < (x0.length : Int) then (if ((rd_T23 x0 x6).f1) < ((rd_T23 x0 x5).f1) then (spec_l23Best.l0 k x0 x6 (wrap64 (x6 + 1)) x2000 x2001) else (spec_l23Best.l0 k x0 x5 (wrap64 (x6 + 1)) x2000 x2001)) else (none)) else (none))) else (spec_l23Best.l0 k x0 x5 (wrap64 (x6 + 1)) x2000 x2001)) else (spec_l23Best.l0 k x0 x5 (wrap64 (x6 + 1)) x2000 x2001)) else (none)) else (some x5)
def spec_l23Best.f (k : Nat) (l0 : List (S23)) (s1_0 : ByteArray) (s1_1 : Int) : Option (Int) := spec_l23Best.l0 k l0 (-1) 0 s1_0 s1_1
set_option maxHeartbeats 8000000 in
set_option maxRecDepth 100000 in
theorem spec_l23Best.calls0 (k : Nat) (A0 : Option Addr) (c0 : Nat) (l0 : List (S23)) (g o : Nat) (z : Option Nat) (s1_0 : ByteArray) (s1_1 : Int) (r : Int) (w0 w : World) (hI : IsE32 w0 w g o z s1_0 s1_1) (hB : Below w0.heap.size w0 w) (hr0 : ∀ W_, KeepBut w W_ w.heap.size none → Kd.C k23 W_ A0 l0.length l0) (hc0 : l0.length ≤ c0) (h : spec_l23Best.f k l0 s1_0 s1_1 = some r) :
  Calls Tryd.prog 72 #[.slice A0 l0.length c0, .pointer (some ⟨g, o, z⟩)] w fun e w' => e = .returned (.int .i64 r) ∧ IsE32 w0 w' g o z s1_0 s1_1 ∧ Below w0.heap.size w0 w' ∧ KeepBut w w' w.heap.size none := by
 have HR0 := ak_ hr0
 have HC0 := ak_ hc0
 clear hr0 hc0
 have HI1 := ak_ hI
 have HK := ak_ (KeepBut.refl w w.heap.size none)
 have HL := ak_ hB.size
 clear hI
 have HW0 := ak_ hB.size
 have HB := ak_ hB
 clear hB
 have H : (spec_l23Best.l0 k l0 (-1) 0 s1_0 s1_1) = some r := h
 clear h
 have H' := ak_ H
 clear H
 go_enter Tryd.func72, Tryd.ntmps72
 go_wp2
 repeat (go_quiet (fail); try go_wp2)
 go_loopg [5, 6] k (fun kq v5 v6 w' => ∃ (x5_1 : Int) (x6_1 : Int), v5 = .int .i64 x5_1 ∧ v6 = .int .i64 x6_1 ∧ Aside0 (spec_l23Best.l0 kq l0 x5_1 x6_1 s1_0 s1_1 = some r) ∧ Aside0 (kq ≤ k) ∧ Aside0 (IsE32 w0 w' g o z s1_0 s1_1) ∧ Aside0 (KeepBut w w' w.heap.size none) ∧ Aside0 (Below w0.heap.size w0 w'))
 case atStart => exact ⟨((-1)), (0), fr_, fr_, H', ⟨Nat.le_refl _⟩, ⟨by repeat (first | (with_reducible first | exact HI1.out | apply IsE32.alloc | apply IsE32.drewN | apply IsE32.drew) | exact HI1.out)⟩, ⟨by repeat (first | (with_reducible first | exact HK.out | apply keep_drewN | apply keep_drew | apply keep_alloc) | exact HK.out)⟩, ⟨hb_⟩⟩
 case round =>
  clear H'
  try clear p2
  obtain ⟨x5_1, x6_1, rfl, rfl, HA, HK1, HI1, HK, HB⟩ := hrel
  cases gk with
  | zero => exact absurd HA.out (by simp [spec_l23Best.l0])
  | succ k1 =>
   have H := HA.out
   clear HA
   simp only [spec_l23Best.l0] at H
   by_cases c3 : x6_1 < (l0.length : Int)
   rotate_left
   ·rw [if_neg c3] at H
    have c3b0 : decide (x6_1 < (l0.length : Int)) = false := decide_eq_false c3
    clear c3
    obtain rfl := Option.some.inj H
    go_wp2
    repeat (go_quiet (fail); try go_wp2)
    go_ret
    exact ⟨ew_, isE32_a HI1, hb_, by repeat (first | (with_reducible first | exact HK.out | apply keep_drewN | apply keep_drew | apply keep_alloc) | exact HK.out)⟩
   rw [if_pos c3] at H
   have c3b0 : decide (x6_1 < (l0.length : Int)) = true := dt_ c3
   clear c3
   by_cases c4 : 0 ≤ x6_1
   rotate_left
   ·rw [if_neg c4] at H
    exact absurd H (by simp)
   rw [if_pos c4] at H
   have c4b0 : decide (0 ≤ x6_1) = true := dt_ c4
   clear c4
   by_cases c5 : ((rd_T23 l0 x6_1).f0).toList = s1_0.toList
   rotate_left
   ·rw [if_neg c5] at H
    have c5b0 : (((rd_T23 l0 x6_1).f0).toList == s1_0.toList) = false := beq_eq_false_iff_ne.mpr c5
    have c5b1 : (((rd_T23 l0 x6_1).f0).toList != s1_0.toList) = true := bne_iff_ne.mpr c5
    have H' := ak_ H
    clear H
    have p398 : 0 ≤ (x6_1 : Int) := od_
    have q398 : x6_1 < (l0.length : Int) := od_
    obtain ⟨ad398, e398, hx398_0, hx398_1⟩ := at_T23 (Kd.C_foot_now HR0.out HK.out) x6_1 p398 q398
    cases e398
    replace p398 := eq_true p398
    replace q398 := eq_true q398
    obtain ⟨HGz15, hgz15⟩ := HI1.out
    have hcz15_0 := cellE32_0 HGz15
    have hcz15_1 := cellE32_1 HGz15
    clear HGz15 hgz15
    go_wp2
    repeat (go_quiet (fail); try go_wp2)
    go_roundg k1
    case measure => have := HK1.out; omega
    case rel => exact ⟨(x5_1), (wrap64 (x6_1 + 1)), fr_, fr_, H', ⟨by have := HK1.out; omega⟩, ⟨by repeat (first | (with_reducible first | exact HI1.out | apply IsE32.alloc | apply IsE32.drewN | apply IsE32.drew) | exact HI1.out)⟩, ⟨by repeat (first | (with_reducible first | exact HK.out | apply keep_drewN | apply keep_drew | apply keep_alloc) | exact HK.out)⟩, ⟨hb_⟩⟩
   rw [if_pos c5] at H
   have c5b0 : (((rd_T23 l0 x6_1).f0).toList == s1_0.toList) = true := beq_iff_eq.mpr c5
   have c5b1 : (((rd_T23 l0 x6_1).f0).toList != s1_0.toList) = false := bne_eq_false_iff_eq.mpr c5
   clear c5
   by_cases c6 : ((rd_T23 l0 x6_1).f1) ≥ s1_1
   rotate_left
   ·rw [if_neg c6] at H
    have c6b0 : decide (s1_1 ≤ ((rd_T23 l0 x6_1).f1)) = false := decide_eq_false c6
    clear c6
    have H' := ak_ H
    clear H
    have p398 : 0 ≤ (x6_1 : Int) := od_
    have q398 : x6_1 < (l0.length : Int) := od_
    obtain ⟨ad398, e398, hx398_0, hx398_1⟩ := at_T23 (Kd.C_foot_now HR0.out HK.out) x6_1 p398 q398
    cases e398
    replace p398 := eq_true p398
    replace q398 := eq_true q398
    obtain ⟨HGz14, hgz14⟩ := HI1.out
    have hcz14_0 := cellE32_0 HGz14
    have hcz14_1 := cellE32_1 HGz14
    clear HGz14 hgz14
    have p399 : 0 ≤ (x6_1 : Int) := od_
    have q399 : x6_1 < (l0.length : Int) := od_
    obtain ⟨ad399, e399, hx399_0, hx399_1⟩ := at_T23 (Kd.C_foot_now HR0.out HK.out) x6_1 p399 q399
    obtain rfl : ad398 = ad399 := (by injection e399)
    replace p399 := eq_true p399
    replace q399 := eq_true q399
    go_wp2
    repeat (go_quiet (fail); try go_wp2)
    go_roundg k1
    case measure => have := HK1.out; omega
    case rel => exact ⟨(x5_1), (wrap64 (x6_1 + 1)), fr_, fr_, H', ⟨by have := HK1.out; omega⟩, ⟨by repeat (first | (with_reducible first | exact HI1.out | apply IsE32.alloc | apply IsE32.drewN | apply IsE32.drew) | exact HI1.out)⟩, ⟨by repeat (first | (with_reducible first | exact HK.out | apply keep_drewN | apply keep_drew | apply keep_alloc) | exact HK.out)⟩, ⟨hb_⟩⟩
   rw [if_pos c6] at H
   have c6b0 : decide (s1_1 ≤ ((rd_T23 l0 x6_1).f1)) = true := dt_ c6
   clear c6
   by_cases c7 : x5_1 < 0
   ·rw [if_pos c7] at H
    have c7b0 : decide (x5_1 < 0) = true := dt_ c7
    clear c7
    have H' := ak_ H
    clear H
    have p398 : 0 ≤ (x6_1 : Int) := od_
    have q398 : x6_1 < (l0.length : Int) := od_
    obtain ⟨ad398, e398, hx398_0, hx398_1⟩ := at_T23 (Kd.C_foot_now HR0.out HK.out) x6_1 p398 q398
    cases e398
    replace p398 := eq_true p398
    replace q398 := eq_true q398
    obtain ⟨HGz8, hgz8⟩ := HI1.out
    have hcz8_0 := cellE32_0 HGz8
    have hcz8_1 := cellE32_1 HGz8
    clear HGz8 hgz8
    have p399 : 0 ≤ (x6_1 : Int) := od_
    have q399 : x6_1 < (l0.length : Int) := od_
    obtain ⟨ad399, e399, hx399_0, hx399_1⟩ := at_T23 (Kd.C_foot_now HR0.out HK.out) x6_1 p399 q399
    obtain rfl : ad398 = ad399 := (by injection e399)
    replace p399 := eq_true p399
    replace q399 := eq_true q399
    go_wp2
    repeat (go_quiet (fail); try go_wp2)
    go_roundg k1
    case measure => have := HK1.out; omega
    case rel => exact ⟨(x6_1), (wrap64 (x6_1 + 1)), fr_, fr_, H', ⟨by have := HK1.out; omega⟩, ⟨by repeat (first | (with_reducible first | exact HI1.out | apply IsE32.alloc | apply IsE32.drewN | apply IsE32.drew) | exact HI1.out)⟩, ⟨by repeat (first | (with_reducible first | exact HK.out | apply keep_drewN | apply keep_drew | apply keep_alloc) | exact HK.out)⟩, ⟨hb_⟩⟩
   rw [if_neg c7] at H
   have c7b0 : decide (x5_1 < 0) = false := decide_eq_false c7
   clear c7
   by_cases c9 : 0 ≤ x5_1
   rotate_left
   ·rw [if_neg c9] at H
    exact absurd H (by simp)
   rw [if_pos c9] at H
   have c9b0 : decide (0 ≤ x5_1) = true := dt_ c9
   clear c9
   by_cases c10 : x5_1 < (l0.length : Int)
   rotate_left
   ·rw [if_neg c10] at H
    exact absurd H (by simp)
   rw [if_pos c10] at H
   have c10b0 : decide (x5_1 < (l0.length : Int)) = true := dt_ c10
   clear c10
   by_cases c11 : ((rd_T23 l0 x6_1).f1) < ((rd_T23 l0 x5_1).f1)
   ·rw [if_pos c11] at H
    have c11b0 : decide (((rd_T23 l0 x6_1).f1) < ((rd_T23 l0 x5_1).f1)) = true := dt_ c11
    clear c11
    have H' := ak_ H
    clear H
    have p398 : 0 ≤ (x6_1 : Int) := od_
    have q398 : x6_1 < (l0.length : Int) := od_
    obtain ⟨ad398, e398, hx398_0, hx398_1⟩ := at_T23 (Kd.C_foot_now HR0.out HK.out) x6_1 p398 q398
    cases e398
    replace p398 := eq_true p398
    replace q398 := eq_true q398
    obtain ⟨HGz12, hgz12⟩ := HI1.out
    have hcz12_0 := cellE32_0 HGz12
    have hcz12_1 := cellE32_1 HGz12
    clear HGz12 hgz12
    have p399 : 0 ≤ (x6_1 : Int) := od_
    have q399 : x6_1 < (l0.length : Int) := od_
    obtain ⟨ad399, e399, hx399_0, hx399_1⟩ := at_T23 (Kd.C_foot_now HR0.out HK.out) x6_1 p399 q399
    obtain rfl : ad398 = ad399 := (by injection e399)
    replace p399 := eq_true p399
    replace q399 := eq_true q399
    have p400 : 0 ≤ (x6_1 : Int) := od_
    have q400 : x6_1 < (l0.length : Int) := od_
    obtain ⟨ad400, e400, hx400_0, hx400_1⟩ := at_T23 (Kd.C_foot_now HR0.out HK.out) x6_1 p400 q400
    obtain rfl : ad398 = ad400 := (by injection e400)
    replace p400 := eq_true p400
    replace q400 := eq_true q400
    have p401 : 0 ≤ (x5_1 : Int) := od_
    have q401 : x5_1 < (l0.length : Int) := od_
    obtain ⟨ad401, e401, hx401_0, hx401_1⟩ := at_T23 (Kd.C_foot_now HR0.out HK.out) x5_1 p401 q401
    obtain rfl : ad398 = ad401 := (by injection e401)
    replace p401 := eq_true p401
    replace q401 := eq_true q401
    go_wp2
    repeat (go_quiet (fail); try go_wp2)
    go_roundg k1
    case measure => have := HK1.out; omega
    case rel => exact ⟨(x6_1), (wrap64 (x6_1 + 1)), fr_, fr_, H', ⟨by have := HK1.out; omega⟩, ⟨by repeat (first | (with_reducible first | exact HI1.out | apply IsE32.alloc | apply IsE32.drewN | apply IsE32.drew) | exact HI1.out)⟩, ⟨by repeat (first | (with_reducible first | exact HK.out | apply keep_drewN | apply keep_drew | apply keep_alloc) | exact HK.out)⟩, ⟨hb_⟩⟩
   rw [if_neg c11] at H
   have c11b0 : decide (((rd_T23 l0 x6_1).f1) < ((rd_T23 l0 x5_1).f1)) = false := decide_eq_false c11
   clear c11
   have H' := ak_ H
   clear H
   have p398 : 0 ≤ (x6_1 : Int) := od_
   have q398 : x6_1 < (l0.length : Int) := od_
   obtain ⟨ad398, e398, hx398_0, hx398_1⟩ := at_T23 (Kd.C_foot_now HR0.out HK.out) x6_1 p398 q398
   cases e398
   replace p398 := eq_true p398
   replace q398 := eq_true q398
   obtain ⟨HGz13, hgz13⟩ := HI1.out
   have hcz13_0 := cellE32_0 HGz13
   have hcz13_1 := cellE32_1 HGz13
   clear HGz13 hgz13
   have p399 : 0 ≤ (x6_1 : Int) := od_
   have q399 : x6_1 < (l0.length : Int) := od_
   obtain ⟨ad399, e399, hx399_0, hx399_1⟩ := at_T23 (Kd.C_foot_now HR0.out HK.out) x6_1 p399 q399
   obtain rfl : ad398 = ad399 := (by injection e399)
   replace p399 := eq_true p399
   replace q399 := eq_true q399
   have p400 : 0 ≤ (x6_1 : Int) := od_
   have q400 : x6_1 < (l0.length : Int) := od_
   obtain ⟨ad400, e400, hx400_0, hx400_1⟩ := at_T23 (Kd.C_foot_now HR0.out HK.out) x6_1 p400 q400
   obtain rfl : ad398 = ad400 := (by injection e400)
   replace p400 := eq_true p400
   replace q400 := eq_true q400
   have p401 : 0 ≤ (x5_1 : Int) := od_
   have q401 : x5_1 < (l0.length : Int) := od_
   obtain ⟨ad401, e401, hx401_0, hx401_1⟩ := at_T23 (Kd.C_foot_now HR0.out HK.out) x5_1 p401 q401
   obtain rfl : ad398 = ad401 := (by injection e401)
   replace p401 := eq_true p401
   replace q401 := eq_true q401
   go_wp2
   repeat (go_quiet (fail); try go_wp2)
   go_roundg k1
   case measure => have := HK1.out; omega
   case rel => exact ⟨(x5_1), (wrap64 (x6_1 + 1)), fr_, fr_, H', ⟨by have := HK1.out; omega⟩, ⟨by repeat (first | (with_reducible first | exact HI1.out | apply IsE32.alloc | apply IsE32.drewN | apply IsE32.drew) | exact HI1.out)⟩, ⟨by repeat (first | (with_reducible first | exact HK.out | apply keep_drewN | apply keep_drew | apply keep_alloc) | exact HK.out)⟩, ⟨hb_⟩⟩
theorem spec_l23Best.calls (k : Nat) (A0 : Option Addr) (c0 : Nat) (l0 : List (S23)) (g : Addr) (s1_0 : ByteArray) (s1_1 : Int) (r : Int) (w : World) (hr0 : Kd.C k23 w A0 l0.length l0) (hc0 : l0.length ≤ c0) (he0 : w.cell? g = some (.string s1_0)) (he1 : w.cell? ⟨g.block, g.off + 1, none⟩ = some (.int .i64 s1_1)) (h : spec_l23Best.f k l0 s1_0 s1_1 = some r) :
  Calls Tryd.prog 72 #[.slice A0 l0.length c0, .pointer (some g)] w fun e w' => e = .returned (.int .i64 r) ∧ Below w.heap.size w w' := by
 refine (spec_l23Best.calls0 k A0 c0 l0 g.block g.off g.spot s1_0 s1_1 r w w ⟨⟨he0, he1⟩, trivial⟩ (Below.refl _ _) (Kd.C_foot_came k23_heap hr0 (Below.refl _ _) (Nat.le_refl _)) hc0 h).mono ?_
 rintro e w' ⟨rfl, _, hb, _⟩
 exact ⟨rfl, hb⟩


/-! ### spec_l23Cut: function 73 -/
def spec_l23Cut.f (l0 : List (S23)) (a1 : Int) (a2 : Int) : Option ((List (S23))) := (some (([] : List (S23)) : List (S23))).bind fun y402 => (if 0 ≤ a1 then (if a1 ≤ (l0.length : Int) then ((some (l0.take (a1 : Int).toNat : List (S23))).bind fun y405 => (if y402.length + y405.length < 5864062014805 then ((some (y402 ++ y405 : List (S23))).bind fun y409 => (if a1 < (l0.length : Int) then (if ((rd_T23 l0 a1).f1) > a2 then (if y409.length < 5864062014805 then ((some (y409 ++ [(⟨(rd_T23 l0 a1).f0, wrap64 (((rd_T23 l0 a1).f1) - a2)⟩ : S23)] : List (S23))).bind fun y415 => (if 0 ≤ (wrap64 (a1 + 1)) then (if (wrap64 (a1 + 1)) ≤ (l0.length : Int) then ((some (l0.drop ((wrap64 (a1 + 1)) : Int).toNat : List (S23))).bind fun y418 => (if y415.length + y418.length < 5864062014805 then (some (y415 ++ y418)) else (none))) else (none)) else (none))) else (none)) else (if 0 ≤ (wrap64 (a1 + 1)) then (if (wrap64 (a1 + 1)) ≤ (l0.length : Int) then ((some (l0.drop ((wrap64 (a1 + 1)) : Int).toNat : List (S23))).bind fun y425 => (if y409.length + y425.length < 5864062014805 then (some (y409 ++ y425)) else (none))) else (none)) else (none))) else (none))) else (none))) else (none)) else (none))
def spec_l23Cut.T3 : Bool × List (List Nat × List Nat) := (true, [([], []), ([], []), ([], []), ([1, 2], [1, 2]), ([3], [3]), ([4], [4]), ([], []), ([], []), ([6, 7], [6, 7]), ([8], [8]), ([9], [9]), ([], []), ([10, 11], [10, 11]), ([5, 12], [5, 12]), ([13], [13]), ([0, 14], [0, 14]), ([15, 15, 0, 1, 2, 3, 4, 5, 6, 7, 8, 9, 10, 11, 12, 13, 14, 15], [0, 15])])
def spec_l23Cut.B3 : List Nat := [0, 0, 0, 6, 14, 30, 0, 0, 192, 448, 960, 0, 4032, 8190, 16382, 32767, 65535]
theorem spec_l23Cut.tab3 : rtab .any (opsOf Tryd.f73 3) = spec_l23Cut.T3 := by kernel_rfl
theorem spec_l23Cut.bits3 : waitsOk spec_l23Cut.T3.2 spec_l23Cut.B3 = true := by kernel_rfl
set_option maxHeartbeats 8000000 in
set_option maxRecDepth 100000 in
theorem spec_l23Cut.calls (A0 : Option Addr) (c0 : Nat) (l0 : List (S23)) (a1 : Int) (a2 : Int) (r : List (S23)) (w : World) (hr0 : Kd.C k23 w A0 l0.length l0) (hc0 : l0.length ≤ c0) (h : spec_l23Cut.f l0 a1 a2 = some r) :
  Calls Tryd.prog 73 #[.slice A0 l0.length c0, .int .i64 a1, .int .i64 a2] w fun e w' => ∃ v0_ : Value, e = .returned (v0_) ∧ Kd.R k23 23 w' w.heap.size (fun _ => True) v0_ r ∧ Below w.heap.size w w' := by
 have hu23 := Tryd.underlying23
 have HR0 := ak_ hr0
 have HC0 := ak_ hc0
 clear hr0 hc0
 have HB := ak_ (Below.refl w.heap.size w)
 have H : ((some (([] : List (S23)) : List (S23))).bind fun y402 => (if 0 ≤ a1 then (if a1 ≤ (l0.length : Int) then ((some (l0.take (a1 : Int).toNat : List (S23))).bind fun y405 => (if y402.length + y405.length < 5864062014805 then ((some (y402 ++ y405 : List (S23))).bind fun y409 => (if a1 < (l0.length : Int) then (if ((rd_T23 l0 a1).f1) > a2 then (if y409.length < 5864062014805 then ((some (y409 ++ [(⟨(rd_T23 l0 a1).f0, wrap64 (((rd_T23 l0 a1).f1) - a2)⟩ : S23)] : List (S23))).bind fun y415 => (if 0 ≤ (wrap64 (a1 + 1)) then (if (wrap64 (a1 + 1)) ≤ (l0.length : Int) then ((some (l0.drop ((wrap64 (a1 + 1)) : Int).toNat : List (S23))).bind fun y418 => (if y415.length + y418.length < 5864062014805 then (some (y415 ++ y418)) else (none))) else (none)) else (none))) else (none)) else (if 0 ≤ (wrap64 (a1 + 1)) then (if (wrap64 (a1 + 1)) ≤ (l0.length : Int) then ((some (l0.drop ((wrap64 (a1 + 1)) : Int).toNat : List (S23))).bind fun y425 => (if y409.length + y425.length < 5864062014805 then (some (y409 ++ y425)) else (none))) else (none)) else (none))) else (none))) else (none))) else (none)) else (none))) = some r := h
 clear h
 obtain ⟨y402, hy402⟩ : ∃ y_ : List (S23), y_ = (([] : List (S23))) := ⟨_, rfl⟩
 replace H : (if 0 ≤ a1 then (if a1 ≤ (l0.length : Int) then ((some (l0.take (a1 : Int).toNat : List (S23))).bind fun y405 => (if y402.length + y405.length < 5864062014805 then ((some (y402 ++ y405 : List (S23))).bind fun y409 => (if a1 < (l0.length : Int) then (if ((rd_T23 l0 a1).f1) > a2 then (if y409.length < 5864062014805 then ((some (y409 ++ [(⟨(rd_T23 l0 a1).f0, wrap64 (((rd_T23 l0 a1).f1) - a2)⟩ : S23)] : List (S23))).bind fun y415 => (if 0 ≤ (wrap64 (a1 + 1)) then (if (wrap64 (a1 + 1)) ≤ (l0.length : Int) then ((some (l0.drop ((wrap64 (a1 + 1)) : Int).toNat : List (S23))).bind fun y418 => (if y415.length + y418.length < 5864062014805 then (some (y415 ++ y418)) else (none))) else (none)) else (none))) else (none)) else (if 0 ≤ (wrap64 (a1 + 1)) then (if (wrap64 (a1 + 1)) ≤ (l0.length : Int) then ((some (l0.drop ((wrap64 (a1 + 1)) : Int).toNat : List (S23))).bind fun y425 => (if y409.length + y425.length < 5864062014805 then (some (y409 ++ y425)) else (none))) else (none)) else (none))) else (none))) else (none))) else (none)) else (none)) = some r := by first | (rw [hy402]; with_reducible exact H) | (have H2_ := (Option.bind_some _ _).symm.trans H; rw [hy402]; with_reducible exact H2_) | (have H2_ := (Option.bind_some _ _).symm.trans H; with_reducible exact H2_) | with_reducible exact H | (rw [hy402]; exact H) | exact H
 have Ny402 := ak_ hy402
 clear hy402
 by_cases c4 : 0 ≤ a1
 rotate_left
 ·rw [if_neg c4] at H
  exact absurd H (by simp)

 rw [if_pos c4] at H
 have c4b0 := eq_true c4
 have c4b1 : decide (0 ≤ a1) = true := dt_ c4
 clear c4
 by_cases c5 : a1 ≤ (l0.length : Int)
 rotate_left
 ·rw [if_neg c5] at H
  exact absurd H (by simp)
 rw [if_pos c5] at H
 have c5b0 := eq_true c5
 have c5b1 : decide (a1 ≤ (l0.length : Int)) = true := dt_ c5
 clear c5
 obtain ⟨y405, hy405⟩ : ∃ y_ : List (S23), y_ = (l0.take (a1 : Int).toNat) := ⟨_, rfl⟩
 replace H : (if y402.length + y405.length < 5864062014805 then ((some (y402 ++ y405 : List (S23))).bind fun y409 => (if a1 < (l0.length : Int) then (if ((rd_T23 l0 a1).f1) > a2 then (if y409.length < 5864062014805 then ((some (y409 ++ [(⟨(rd_T23 l0 a1).f0, wrap64 (((rd_T23 l0 a1).f1) - a2)⟩ : S23)] : List (S23))).bind fun y415 => (if 0 ≤ (wrap64 (a1 + 1)) then (if (wrap64 (a1 + 1)) ≤ (l0.length : Int) then ((some (l0.drop ((wrap64 (a1 + 1)) : Int).toNat : List (S23))).bind fun y418 => (if y415.length + y418.length < 5864062014805 then (some (y415 ++ y418)) else (none))) else (none)) else (none))) else (none)) else (if 0 ≤ (wrap64 (a1 + 1)) then (if (wrap64 (a1 + 1)) ≤ (l0.length : Int) then ((some (l0.drop ((wrap64 (a1 + 1)) : Int).toNat : List (S23))).bind fun y425 => (if y409.length + y425.length < 5864062014805 then (some (y409 ++ y425)) else (none))) else (none)) else (none))) else (none))) else (none)) = some r := by first | (rw [hy405]; with_reducible exact H) | (have H2_ := (Option.bind_some _ _).symm.trans H; rw [hy405]; with_reducible exact H2_) | (have H2_ := (Option.bind_some _ _).symm.trans H; with_reducible exact H2_) | with_reducible exact H | (rw [hy405]; exact H) | exact H
 have Ny405 := ak_ hy405
 clear hy405
 by_cases c6 : y402.length + y405.length < 5864062014805
 rotate_left
 ·rw [if_neg c6] at H
  exact absurd H (by simp)
 rw [if_pos c6] at H
 have LMc6 := ak_ c6
 clear c6
 obtain ⟨y409, hy409⟩ : ∃ y_ : List (S23), y_ = (y402 ++ y405) := ⟨_, rfl⟩
 replace H : (if a1 < (l0.length : Int) then (if ((rd_T23 l0 a1).f1) > a2 then (if y409.length < 5864062014805 then ((some (y409 ++ [(⟨(rd_T23 l0 a1).f0, wrap64 (((rd_T23 l0 a1).f1) - a2)⟩ : S23)] : List (S23))).bind fun y415 => (if 0 ≤ (wrap64 (a1 + 1)) then (if (wrap64 (a1 + 1)) ≤ (l0.length : Int) then ((some (l0.drop ((wrap64 (a1 + 1)) : Int).toNat : List (S23))).bind fun y418 => (if y415.length + y418.length < 5864062014805 then (some (y415 ++ y418)) else (none))) else (none)) else (none))) else (none)) else (if 0 ≤ (wrap64 (a1 + 1)) then (if (wrap64 (a1 + 1)) ≤ (l0.length : Int) then ((some (l0.drop ((wrap64 (a1 + 1)) : Int).toNat : List (S23))).bind fun y425 => (if y409.length + y425.length < 5864062014805 then (some (y409 ++ y425)) else (none))) else (none)) else (none))) else (none)) = some r := by first | (rw [hy409]; with_reducible exact H) | (have H2_ := (Option.bind_some _ _).symm.trans H; rw [hy409]; with_reducible exact H2_) | (have H2_ := (Option.bind_some _ _).symm.trans H; with_reducible exact H2_) | with_reducible exact H | (rw [hy409]; exact H) | exact H
 have Ny409 := ak_ hy409
 clear hy409
 by_cases c7 : a1 < (l0.length : Int)
 rotate_left
 ·rw [if_neg c7] at H
  exact absurd H (by simp)
 rw [if_pos c7] at H
 have c7b0 : decide (a1 < (l0.length : Int)) = true := dt_ c7
 clear c7
 by_cases c8 : ((rd_T23 l0 a1).f1) > a2
 rotate_left
 ·rw [if_neg c8] at H
  have c8b0 : decide (a2 < ((rd_T23 l0 a1).f1)) = false := decide_eq_false c8
  clear c8
  obtain ⟨ji22, hji22⟩ : ∃ j_ : Int, (wrap64 (a1 + 1)) = j_ := ⟨_, rfl⟩
  replace H : (if 0 ≤ (ji22) then (if (ji22) ≤ (l0.length : Int) then ((some (l0.drop ((ji22) : Int).toNat : List (S23))).bind fun y425 => (if y409.length + y425.length < 5864062014805 then (some (y409 ++ y425)) else (none))) else (none)) else (none)) = some r := by first | (rw [hji22] at H; exact H) | (simp only [hji22] at H ⊢; exact H)
  have hji22w : (IntKind.i64.wrap (a1 + 1)) = ji22 := (i64_w _).trans hji22
  by_cases c23 : 0 ≤ (ji22)
  rotate_left
  ·rw [if_neg c23] at H
   exact absurd H (by simp)
  rw [if_pos c23] at H
  have c23b0 := eq_true c23
  have c23b1 : decide (0 ≤ (ji22)) = true := dt_ c23
  clear c23
  by_cases c24 : (ji22) ≤ (l0.length : Int)
  rotate_left
  ·rw [if_neg c24] at H
   exact absurd H (by simp)
  rw [if_pos c24] at H
  have c24b0 := eq_true c24
  have c24b1 : decide ((ji22) ≤ (l0.length : Int)) = true := dt_ c24
  clear c24
  obtain ⟨y425, hy425⟩ : ∃ y_ : List (S23), y_ = (l0.drop ((ji22) : Int).toNat) := ⟨_, rfl⟩
  replace H : (if y409.length + y425.length < 5864062014805 then (some (y409 ++ y425)) else (none)) = some r := by first | (rw [hy425]; with_reducible exact H) | (have H2_ := (Option.bind_some _ _).symm.trans H; rw [hy425]; with_reducible exact H2_) | (have H2_ := (Option.bind_some _ _).symm.trans H; with_reducible exact H2_) | with_reducible exact H | (rw [hy425]; exact H) | exact H
  have Ny425 := ak_ hy425
  clear hy425
  by_cases c25 : y409.length + y425.length < 5864062014805
  rotate_left
  ·rw [if_neg c25] at H
   exact absurd H (by simp)
  rw [if_pos c25] at H
  have LMc25 := ak_ c25
  clear c25
  obtain ⟨y429, hy429⟩ : ∃ y_ : List (S23), y_ = (y409 ++ y425) := ⟨_, rfl⟩
  replace H : (some y429) = some r := by first | (rw [hy429]; with_reducible exact H) | (have H2_ := (Option.bind_some _ _).symm.trans H; rw [hy429]; with_reducible exact H2_) | (have H2_ := (Option.bind_some _ _).symm.trans H; with_reducible exact H2_) | with_reducible exact H | (rw [hy429]; exact H) | exact H
  have Ny429 := ak_ hy429
  clear hy429
  obtain rfl := Option.some.inj H
  go_enter Tryd.func73, Tryd.ntmps73
  go_wp2_with (first | ((with_reducible refine gate_dst (N := 8) rfl ?_); refine Kd.R_lit k23 _ 23 ?hg (N := 8) ?hd (xs := ([] : List (S23))) (inner := []) (ok := fun _ => True) (okp := fun _ => True) ?hr ?hp (fun _ hk => hk) trivial (Below.refl _ _) (Nat.le_refl _) (by simp) ?_; (case hd => rfl); (case hg => rfl); (case hr => first | (go_simp; done) | (go_simp; rfl)); (case hp => exact (Reps.none _ _)); intro v403 w26 ho27 hb hg_ hnew_; clear hg_ hnew_; (first | rw [← Ny402.out] at ho27 | (simp only [Int.reduceToNat] at ho27; rw [← Ny402.out] at ho27)); have HO404 := ak_ (Kd.R_lower ho27 (below_size hb_)); replace HB := ak_ (below_step hb_ hb); skip; clear hb ho27; have q28 : (a1 : Int) ≤ ((l0.length : Int) : Int) := od_; obtain ⟨i028, hi028, _, hsz28, _⟩ := info_parts info23; have hroom28 : l0.length ≤ c0 := HC0.out; have hC28 : Kd.C k23 _ A0 l0.length l0 := HR0.out; have hcut28 := cut_to (P := Tryd.prog) 30 23 .i64 Tryd.underlying30 hi028 A0 l0.length c0 a1 (od_) q28 hroom28; have hr28 := Kd.C_take (m := (a1 : Int).toNat) hC28 (by omega); have hy28 : y405.length = (a1 : Int).toNat := (by rw [Ny405.out, List.length_take]; omega); rw [← Ny405.out] at hr28; rw [← hy28] at hcut28; have HR408 := ak_ hr28; have HC408 := ak_ (show y405.length ≤ c0 from by omega); clear hr28 hC28 hroom28 hi028 hsz28; have KY28 := ak_ hy28; clear hy28; replace q28 := eq_true q28) | ((with_reducible refine gate_builtin (b := .append) (xs := #[.tmp 8, .tmp 11]) rfl ?_); at_builtin; refine Kd.R_append_rows k23 (w0 := w) w.heap.size rfl (.tmp 8) (.tmp 11) 30 23 (.agg #[(.string ⟨#[]⟩), (.int .i64 0)]) 24 rfl Tryd.underlying30 info23 rfl (by decide) (by omega) v403 y402 y405 _ _ _ (fun _ => True) (fun _ => False) rfl rfl ?aO ?aR (fun _ _ h => h) (fun _ h => h.elim) ?aF ?aB ?aS ?aL ?_; (case aR => exact kc_ (Kd.C_below HR408.out HB.out)); (case aB => exact hb_); (case aF => exact (fun _ _ => trivial)); (case aO => exact (kr_ HO404)); (case aS => exact (below_size hb_)); (case aL => have := LMc6.out; omega); intro v410 w29 ho hb hg hat; rw [← Ny409.out] at ho; replace HB := ak_ (hb); have HO411 := ak_ (ho); clear HO404; clear ho hb hg hat; have p412 : 0 ≤ (a1 : Int) := od_; have q412 : a1 < (l0.length : Int) := od_; obtain ⟨ad412, e412, hx412_0, hx412_1⟩ := at_T23 HR0.out a1 p412 q412; cases e412; replace hx412_0 := cq_ HB hx412_0; replace hx412_1 := cq_ HB hx412_1; replace p412 := eq_true p412; replace q412 := eq_true q412; have q30 : ((ji22) : Int) ≤ ((l0.length : Int) : Int) := od_; obtain ⟨i030, hi030, _, hsz30, _⟩ := info_parts info23; have hroom30 : l0.length ≤ c0 := HC0.out; have hC30 : Kd.C k23 _ (some ad412) l0.length l0 := HR0.out; have q030 : (0 : Int) ≤ ((ji22) : Int) := od_; have hcut30 := cut_from (P := Tryd.prog) 30 23 .i64 Tryd.underlying30 hi030 2 hsz30 (some ad412) l0.length c0 (ji22) q030 q30; have hr30 := Kd.C_drop (m := ((ji22) : Int).toNat) (c := c0) hC30 (by omega) hroom30; obtain ⟨A30, hA30⟩ : ∃ Az_, Az_ = (if c0 = ((ji22) : Int).toNat then (some ad412) else ((some ad412) : Option Addr).map (·.add (((ji22) : Int).toNat * 2))) := ⟨_, rfl⟩; obtain ⟨c30, hc30⟩ : ∃ cz_, cz_ = c0 - ((ji22) : Int).toNat := ⟨_, rfl⟩; have hy30 : y425.length = l0.length - ((ji22) : Int).toNat := (by rw [Ny425.out, List.length_drop] <;> omega); rw [show (l0).drop ((ji22) : Int).toNat = y425 from Ny425.out.symm] at hr30; replace hr30 : Kd.C k23 _ A30 y425.length y425 := (by rw [hA30]; exact hr30); rw [← hy30, ← hA30, ← hc30] at hcut30; have HR428 := ak_ hr30; have HC428 := ak_ (show y425.length ≤ c30 from by rw [hy30, hc30]; exact Nat.sub_le_sub_right hroom30 _); clear hr30 hC30 hroom30 hi030 hsz30 hc30; have KY30 := ak_ hy30; have KA30 := ak_ hA30; clear hy30 hA30; replace q30 := eq_true q30) | ((with_reducible refine gate_builtin (b := .append) (xs := #[.tmp 36, .tmp 40]) rfl ?_); at_builtin; refine Kd.R_append_rows k23 (w0 := w) w.heap.size rfl (.tmp 36) (.tmp 40) 30 23 (.agg #[(.string ⟨#[]⟩), (.int .i64 0)]) 24 rfl Tryd.underlying30 info23 rfl (by decide) (by omega) v410 y409 y425 _ _ _ (fun _ => True) (fun _ => False) rfl rfl ?aO ?aR (fun _ _ h => h) (fun _ h => h.elim) ?aF ?aB ?aS ?aL ?_; (case aR => exact kc_ (Kd.C_below HR428.out HB.out)); (case aB => exact hb_); (case aF => exact (fun _ _ => trivial)); (case aO => exact (kr_ HO411)); (case aS => exact (below_size hb_)); (case aL => have := LMc25.out; omega); intro v430 w31 ho hb hg hat; rw [← Ny429.out] at ho; replace HB := ak_ (hb); have HO431 := ak_ (ho); clear HO411; clear ho hb hg hat))
  go_ret
  exact ⟨_, by first | rfl | (simp [errW_none, errW_some] <;> rfl) | (simp only [← hji22]; first | rfl | (simp [errW_none, errW_some] <;> rfl)) | (simp [*, errW_none, errW_some] <;> rfl), by (with_reducible repeat (first | apply Kd.R_alloc | apply Kd.R_drewN | apply Kd.R_drew)); exact HO431.out, hb_⟩
 rw [if_pos c8] at H
 have c8b0 : decide (a2 < ((rd_T23 l0 a1).f1)) = true := dt_ c8
 clear c8
 by_cases c9 : y409.length < 5864062014805
 rotate_left
 ·rw [if_neg c9] at H
  exact absurd H (by simp)
 rw [if_pos c9] at H
 have LMc9 := ak_ c9
 clear c9
 obtain ⟨y415, hy415⟩ : ∃ y_ : List (S23), y_ = (y409 ++ [(⟨(rd_T23 l0 a1).f0, wrap64 (((rd_T23 l0 a1).f1) - a2)⟩ : S23)]) := ⟨_, rfl⟩
 replace H : (if 0 ≤ (wrap64 (a1 + 1)) then (if (wrap64 (a1 + 1)) ≤ (l0.length : Int) then ((some (l0.drop ((wrap64 (a1 + 1)) : Int).toNat : List (S23))).bind fun y418 => (if y415.length + y418.length < 5864062014805 then (some (y415 ++ y418)) else (none))) else (none)) else (none)) = some r := by first | (rw [hy415]; with_reducible exact H) | (have H2_ := (Option.bind_some _ _).symm.trans H; rw [hy415]; with_reducible exact H2_) | (have H2_ := (Option.bind_some _ _).symm.trans H; with_reducible exact H2_) | with_reducible exact H | (rw [hy415]; exact H) | exact H
 have Ny415 := ak_ hy415
 clear hy415
 obtain ⟨ji10, hji10⟩ : ∃ j_ : Int, (wrap64 (a1 + 1)) = j_ := ⟨_, rfl⟩
 replace H : (if 0 ≤ (ji10) then (if (ji10) ≤ (l0.length : Int) then ((some (l0.drop ((ji10) : Int).toNat : List (S23))).bind fun y418 => (if y415.length + y418.length < 5864062014805 then (some (y415 ++ y418)) else (none))) else (none)) else (none)) = some r := by first | (rw [hji10] at H; exact H) | (simp only [hji10] at H ⊢; exact H)
 have hji10w : (IntKind.i64.wrap (a1 + 1)) = ji10 := (i64_w _).trans hji10
 by_cases c11 : 0 ≤ (ji10)
 rotate_left
 ·rw [if_neg c11] at H
  exact absurd H (by simp)
 rw [if_pos c11] at H
 have c11b0 := eq_true c11
 have c11b1 : decide (0 ≤ (ji10)) = true := dt_ c11
 clear c11
 by_cases c12 : (ji10) ≤ (l0.length : Int)
 rotate_left
 ·rw [if_neg c12] at H
  exact absurd H (by simp)
 rw [if_pos c12] at H
 have c12b0 := eq_true c12
 have c12b1 : decide ((ji10) ≤ (l0.length : Int)) = true := dt_ c12
 clear c12
 obtain ⟨y418, hy418⟩ : ∃ y_ : List (S23), y_ = (l0.drop ((ji10) : Int).toNat) := ⟨_, rfl⟩
 replace H : (if y415.length + y418.length < 5864062014805 then (some (y415 ++ y418)) else (none)) = some r := by first | (rw [hy418]; with_reducible exact H) | (have H2_ := (Option.bind_some _ _).symm.trans H; rw [hy418]; with_reducible exact H2_) | (have H2_ := (Option.bind_some _ _).symm.trans H; with_reducible exact H2_) | with_reducible exact H | (rw [hy418]; exact H) | exact H
 have Ny418 := ak_ hy418
 clear hy418
 by_cases c13 : y415.length + y418.length < 5864062014805
 rotate_left
 ·rw [if_neg c13] at H
  exact absurd H (by simp)
 rw [if_pos c13] at H
 have LMc13 := ak_ c13
 clear c13
 obtain ⟨y422, hy422⟩ : ∃ y_ : List (S23), y_ = (y415 ++ y418) := ⟨_, rfl⟩
 replace H : (some y422) = some r := by first | (rw [hy422]; with_reducible exact H) | (have H2_ := (Option.bind_some _ _).symm.trans H; rw [hy422]; with_reducible exact H2_) | (have H2_ := (Option.bind_some _ _).symm.trans H; with_reducible exact H2_) | with_reducible exact H | (rw [hy422]; exact H) | exact H
 have Ny422 := ak_ hy422
 clear hy422
 obtain rfl := Option.some.inj H
 go_enter Tryd.func73, Tryd.ntmps73
 try go_wp2_with (first | ((with_reducible refine gate_dst (N := 8) rfl ?_); refine Kd.R_lit k23 _ 23 ?hg (N := 8) ?hd (xs := ([] : List (S23))) (inner := []) (ok := fun _ => True) (okp := fun _ => True) ?hr ?hp (fun _ hk => hk) trivial (Below.refl _ _) (Nat.le_refl _) (by simp) ?_; (case hd => rfl); (case hg => rfl); (case hr => first | (go_simp; done) | (go_simp; rfl)); (case hp => exact (Reps.none _ _)); intro v403 w14 ho15 hb hg_ hnew_; clear hg_ hnew_; (first | rw [← Ny402.out] at ho15 | (simp only [Int.reduceToNat] at ho15; rw [← Ny402.out] at ho15)); have HO404 := ak_ (Kd.R_lower ho15 (below_size hb_)); replace HB := ak_ (below_step hb_ hb); skip; clear hb ho15; have q16 : (a1 : Int) ≤ ((l0.length : Int) : Int) := od_; obtain ⟨i016, hi016, _, hsz16, _⟩ := info_parts info23; have hroom16 : l0.length ≤ c0 := HC0.out; have hC16 : Kd.C k23 _ A0 l0.length l0 := HR0.out; have hcut16 := cut_to (P := Tryd.prog) 30 23 .i64 Tryd.underlying30 hi016 A0 l0.length c0 a1 (od_) q16 hroom16; have hr16 := Kd.C_take (m := (a1 : Int).toNat) hC16 (by omega); have hy16 : y405.length = (a1 : Int).toNat := (by rw [Ny405.out, List.length_take]; omega); rw [← Ny405.out] at hr16; rw [← hy16] at hcut16; have HR408 := ak_ hr16; have HC408 := ak_ (show y405.length ≤ c0 from by omega); clear hr16 hC16 hroom16 hi016 hsz16; have KY16 := ak_ hy16; clear hy16; replace q16 := eq_true q16) | ((with_reducible refine gate_builtin (b := .append) (xs := #[.tmp 8, .tmp 11]) rfl ?_); at_builtin; refine Kd.R_append_rows k23 (w0 := w) w.heap.size rfl (.tmp 8) (.tmp 11) 30 23 (.agg #[(.string ⟨#[]⟩), (.int .i64 0)]) 24 rfl Tryd.underlying30 info23 rfl (by decide) (by omega) v403 y402 y405 _ _ _ (fun _ => True) (fun _ => False) rfl rfl ?aO ?aR (fun _ _ h => h) (fun _ h => h.elim) ?aF ?aB ?aS ?aL ?_; (case aR => exact kc_ (Kd.C_below HR408.out HB.out)); (case aB => exact hb_); (case aF => exact (fun _ _ => trivial)); (case aO => exact (kr_ HO404)); (case aS => exact (below_size hb_)); (case aL => have := LMc6.out; omega); intro v410 w17 ho hb hg hat; rw [← Ny409.out] at ho; replace HB := ak_ (hb); have HO411 := ak_ (ho); clear HO404; clear ho hb hg hat; have p412 : 0 ≤ (a1 : Int) := od_; have q412 : a1 < (l0.length : Int) := od_; obtain ⟨ad412, e412, hx412_0, hx412_1⟩ := at_T23 HR0.out a1 p412 q412; cases e412; replace hx412_0 := cq_ HB hx412_0; replace hx412_1 := cq_ HB hx412_1; replace p412 := eq_true p412; replace q412 := eq_true q412))
 have n0_ := ak_ (Kd.R_drew HO411.out)
 have n1_ := ak_ (below_drew1 HB.out)
 clear HO411
 clear HB
 have HO411 := n0_
 have HB := n1_
 clear n0_ n1_
 have p413 : 0 ≤ (a1 : Int) := od_
 have q413 : a1 < (l0.length : Int) := od_
 obtain ⟨ad413, e413, hx413_0, hx413_1⟩ := at_T23 HR0.out a1 p413 q413
 have hw413_1 := hx413_1
 have hw413_0 := hx413_0
 obtain rfl : ad412 = ad413 := (by injection e413)
 replace hx413_0 := cq_ HB hx413_0
 replace hx413_1 := cq_ HB hx413_1
 replace p413 := eq_true p413
 replace q413 := eq_true q413
 have p414 : 0 ≤ (a1 : Int) := od_
 have q414 : a1 < (l0.length : Int) := od_
 obtain ⟨ad414, e414, hx414_0, hx414_1⟩ := at_T23 HR0.out a1 p414 q414
 have hw414_1 := hx414_1
 have hw414_0 := hx414_0
 obtain rfl : ad412 = ad414 := (by injection e414)
 replace hx414_0 := cq_ HB hx414_0
 replace hx414_1 := cq_ HB hx414_1
 replace p414 := eq_true p414
 replace q414 := eq_true q414
 refine start_ (n := 17) (S := fun w' => w'.cell? (ad412.add ((a1).toNat * 2)) = some (.string ((rd_T23 l0 a1).f0)) ∧ w'.cell? ⟨(ad412.add ((a1).toNat * 2)).block, (ad412.add ((a1).toNat * 2)).off + 1, none⟩ = some (.int .i64 ((rd_T23 l0 a1).f1)) ∧ w'.cell? (ad412.add ((a1).toNat * 2)) = some (.string ((rd_T23 l0 a1).f0)) ∧ w'.cell? ⟨(ad412.add ((a1).toNat * 2)).block, (ad412.add ((a1).toNat * 2)).off + 1, none⟩ = some (.int .i64 ((rd_T23 l0 a1).f1))) (ds := []) #[F_,F_,F_,F_,F_,F_,F_,F_,F_,F_,F_,F_,F_,F_,F_,F_,F_] (by kernel_rfl) rfl rfl ⟨((HB.out.cell (lt_ w _ hw413_0)).trans hw413_0), ((HB.out.cell (lt_ w _ hw413_1)).trans hw413_1), ((HB.out.cell (lt_ w _ hw414_0)).trans hw414_0), ((HB.out.cell (lt_ w _ hw414_1)).trans hw414_1)⟩ (fun hHeld => ?_); refine with_tabW spec_l23Cut.tab3 spec_l23Cut.bits3 (fun HT_ HW_ => ?_)
 generalize w17.drew = w18 at HO411 HB hx413_0 hx413_1 hx414_0 hx414_1 hHeld ⊢
 refine pv (i := 0) (N := some 20) HT_ ?_
 refine pv (i := 1) (N := some 21) HT_ ?_
 refine pv (i := 2) (N := some 22) HT_ ?_
 refine pv (i := 3) (N := some 23) HT_ ?_
 refine pv (i := 4) (N := some 24) HT_ ?_
 refine pv (i := 6) (N := some 26) HT_ ?_
 refine pv (i := 7) (N := some 27) HT_ ?_
 refine pv (i := 8) (N := some 28) HT_ ?_
 refine pv (i := 9) (N := some 29) HT_ ?_
 refine pv (i := 11) (N := some 31) HT_ ?_
 refine take_ (i := 5) (N := some 25) (v := ?_) (a' := ?_) #[T_,T_,T_,T_,T_,T_,T_,T_,T_,T_,F_,T_,F_,F_,F_,F_,F_] rfl rfl (take_ofW HT_.out HW_.out (by kernel_rfl)) (fun _ _ _ h => h) (Or.inl ⟨by rfl, ?_⟩) hHeld ?_ ?_
 rotate_left
 ·rintro w' ⟨s0, s1, s2, s3⟩
  go_simp
  with_reducible rfl
 rotate_left
 ·simp only [Act.put, sT_, s0_, sS_, i64_w, i32_w]
  rfl
 refine take_ (i := 10) (N := some 30) (v := ?_) (a' := ?_) #[T_,T_,T_,T_,T_,T_,T_,T_,T_,T_,T_,T_,F_,F_,F_,F_,F_] rfl rfl (take_ofW HT_.out HW_.out (by kernel_rfl)) (fun _ _ _ h => h) (Or.inl ⟨by rfl, ?_⟩) hHeld ?_ ?_
 rotate_left
 ·rintro w' ⟨s0, s1, s2, s3⟩
  go_simp
  with_reducible rfl
 rotate_left
 ·simp only [Act.put, sT_, s0_, sS_, i64_w, i32_w]
  rfl
 refine pv (i := 12) (N := some 32) HT_ ?_
 refine pv (i := 13) (N := some 33) HT_ ?_
 refine one_ (i := 14) (N := some 34) #[T_,T_,T_,T_,T_,T_,T_,T_,T_,T_,T_,T_,T_,T_,T_,F_,F_] rfl rfl (one_of HT_.out (by kernel_rfl)) (by decide) (fun K hK => ?_)
 refine value_ (w1 := ?_) (v := ?_) (by rfl) rfl ?_ ?_
 rotate_left 2
 ·go_simp
  constructor
  ·rfl
  ·rfl
 refine hK.out _ _ ⟨(World.cell?_alloc_lt _ _ _ (lt_ _ _ (((HB.out.cell (lt_ w _ hw413_0)).trans hw413_0)))).trans (((HB.out.cell (lt_ w _ hw413_0)).trans hw413_0)), (World.cell?_alloc_lt _ _ _ (lt_ _ _ (((HB.out.cell (lt_ w _ hw413_1)).trans hw413_1)))).trans (((HB.out.cell (lt_ w _ hw413_1)).trans hw413_1)), (World.cell?_alloc_lt _ _ _ (lt_ _ _ (((HB.out.cell (lt_ w _ hw414_0)).trans hw414_0)))).trans (((HB.out.cell (lt_ w _ hw414_0)).trans hw414_0)), (World.cell?_alloc_lt _ _ _ (lt_ _ _ (((HB.out.cell (lt_ w _ hw414_1)).trans hw414_1)))).trans (((HB.out.cell (lt_ w _ hw414_1)).trans hw414_1))⟩ (fun hHeld => ?_)
 clear hK K
 refine norm_ (a' := ?_) ?_ ?_
 rotate_left
 ·show Act.put _ (some 34) _ = _
  simp only [Act.put, sT_, s0_, sS_, i64_w, i32_w]
  rfl
 refine one_ (i := 15) (N := some 35) #[T_,T_,T_,T_,T_,T_,T_,T_,T_,T_,T_,T_,T_,T_,T_,T_,F_] rfl rfl (one_of HT_.out (by kernel_rfl)) (by decide) (fun K hK => ?_)
 refine Kd.R_append_step k23 (w0 := w) w.heap.size (by rfl) (.tmp 20) (.tmp 34) 30 23 (.agg #[(.string ⟨#[]⟩), (.int .i64 0)]) 24 rfl Tryd.underlying30 info23 rfl (by decide) (by omega) v410 y409 (⟨(rd_T23 l0 a1).f0, wrap64 (((rd_T23 l0 a1).f1) - a2)⟩ : S23) [.string ((rd_T23 l0 a1).f0), .int .i64 (wrap64 (((rd_T23 l0 a1).f1) - a2))] (fun _ => True) (fun _ => False) rfl rfl ?aP (fun _ hk => hk.elim) ?aF ?aO ?aB ?aS ?aL ?_
 (case aP => exact k23_mkM _ _ _ (⟨(rd_T23 l0 a1).f0, wrap64 (((rd_T23 l0 a1).f1) - a2)⟩ : S23))
 (case aB => exact hb_)
 (case aF => exact (fun _ _ => trivial))
 (case aO => exact (kr_ HO411))
 (case aS => exact (below_size hb_))
 (case aL => have := LMc9.out; omega)
 intro v416 w19 ho hb hg hat
 rw [← Ny415.out] at ho
 have n0_ := ak_ (hb)
 have n1_ := ak_ (ho)
 clear HB
 clear HO411
 have HB := n0_
 have HO417 := n1_
 clear n0_ n1_
 clear ho hb hg hat
 refine hK.out _ _ ⟨((HB.out.cell (lt_ w _ hw413_0)).trans hw413_0), ((HB.out.cell (lt_ w _ hw413_1)).trans hw413_1), ((HB.out.cell (lt_ w _ hw414_0)).trans hw414_0), ((HB.out.cell (lt_ w _ hw414_1)).trans hw414_1)⟩ (fun hHeld => ?_)
 clear hK K
 refine norm_ (a' := ?_) ?_ ?_
 rotate_left
 ·show Act.put _ (some 35) _ = _
  simp only [Act.put, sT_, s0_, sS_, i64_w, i32_w]
  rfl
 refine pv (i := 16) (N := some 7) HT_ ?_
 refine done_ (done_of HT_.out (by kernel_rfl)) ?_
 have q20 : ((ji10) : Int) ≤ ((l0.length : Int) : Int) := od_
 obtain ⟨i020, hi020, _, hsz20, _⟩ := info_parts info23
 have hroom20 : l0.length ≤ c0 := HC0.out
 have hC20 : Kd.C k23 _ (some ad412) l0.length l0 := HR0.out
 have q020 : (0 : Int) ≤ ((ji10) : Int) := od_
 have hcut20 := cut_from (P := Tryd.prog) 30 23 .i64 Tryd.underlying30 hi020 2 hsz20 (some ad412) l0.length c0 (ji10) q020 q20
 have hr20 := Kd.C_drop (m := ((ji10) : Int).toNat) (c := c0) hC20 (by omega) hroom20
 obtain ⟨A20, hA20⟩ : ∃ Az_, Az_ = (if c0 = ((ji10) : Int).toNat then (some ad412) else ((some ad412) : Option Addr).map (·.add (((ji10) : Int).toNat * 2))) := ⟨_, rfl⟩
 obtain ⟨c20, hc20⟩ : ∃ cz_, cz_ = c0 - ((ji10) : Int).toNat := ⟨_, rfl⟩
 have hy20 : y418.length = l0.length - ((ji10) : Int).toNat := (by rw [Ny418.out, List.length_drop] <;> omega)
 rw [show (l0).drop ((ji10) : Int).toNat = y418 from Ny418.out.symm] at hr20
 replace hr20 : Kd.C k23 _ A20 y418.length y418 := (by rw [hA20]; exact hr20)
 rw [← hy20, ← hA20, ← hc20] at hcut20
 have HR421 := ak_ hr20
 have HC421 := ak_ (show y418.length ≤ c20 from by rw [hy20, hc20]; exact Nat.sub_le_sub_right hroom20 _)
 clear hr20 hC20 hroom20 hi020 hsz20 hc20
 have KY20 := ak_ hy20
 have KA20 := ak_ hA20
 clear hy20 hA20
 replace q20 := eq_true q20
 try go_wp2_with (first | ((with_reducible refine gate_builtin (b := .append) (xs := #[.tmp 36, .tmp 40]) rfl ?_); at_builtin; refine Kd.R_append_rows k23 (w0 := w) w.heap.size rfl (.tmp 36) (.tmp 40) 30 23 (.agg #[(.string ⟨#[]⟩), (.int .i64 0)]) 24 rfl Tryd.underlying30 info23 rfl (by decide) (by omega) v416 y415 y418 _ _ _ (fun _ => True) (fun _ => False) rfl rfl ?aO ?aR (fun _ _ h => h) (fun _ h => h.elim) ?aF ?aB ?aS ?aL ?_; (case aR => exact kc_ (Kd.C_below HR421.out HB.out)); (case aB => exact hb_); (case aF => exact (fun _ _ => trivial)); (case aO => exact (kr_ HO417)); (case aS => exact (below_size hb_)); (case aL => have := LMc13.out; omega); intro v423 w21 ho hb hg hat; rw [← Ny422.out] at ho; replace HB := ak_ (hb); have HO424 := ak_ (ho); clear HO417; clear ho hb hg hat))
 go_ret
 exact ⟨_, by first | rfl | (simp [errW_none, errW_some] <;> rfl) | (simp only [← hji10]; first | rfl | (simp [errW_none, errW_some] <;> rfl)) | (simp [*, errW_none, errW_some] <;> rfl), by (with_reducible repeat (first | apply Kd.R_alloc | apply Kd.R_drewN | apply Kd.R_drew)); exact HO424.out, hb_⟩
/-! ### spec_CutPiece: function 14 -/
def spec_CutPiece.f (k : Nat) (l0 : List (S23)) (a1_0 : ByteArray) (a1_1 : Int) : Option ((List (S23)) × Int × Int) := (spec_l23Code.f k l0 a1_0 a1_1).bind fun t433 => (if t433 = 0 then ((spec_l23Best.f k l0 a1_0 a1_1).bind fun t434 => (if t434 < 0 then (some (([] : List (S23)), 0, 3)) else ((spec_l23Cut.f l0 t434 a1_1).bind fun t435 => (some (t435, t434, 0))))) else (some (([] : List (S23)), 0, t433)))
set_option maxHeartbeats 8000000 in
set_option maxRecDepth 100000 in
theorem spec_CutPiece.calls (k : Nat) (A0 : Option Addr) (c0 : Nat) (l0 : List (S23)) (a1_0 : ByteArray) (a1_1 : Int) (r1 : List (S23)) (r2 : Int) (r3 : Int) (w : World) (hr0 : Kd.C k23 w A0 l0.length l0) (hc0 : l0.length ≤ c0) (h : spec_CutPiece.f k l0 a1_0 a1_1 = some (r1, r2, r3)) :
  Calls Tryd.prog 14 #[.slice A0 l0.length c0, .agg #[.string a1_0, .int .i64 a1_1]] w fun e w' => ∃ v0_ : Value, e = .returned (.tuple #[v0_, .int .i64 r2, .int .i64 r3]) ∧ Kd.R k23 23 w' w.heap.size (fun _ => True) v0_ r1 ∧ Below w.heap.size w w' := by
 have hu32 := Tryd.underlying32
 have HR0 := ak_ hr0
 have HC0 := ak_ hc0
 clear hr0 hc0
 have HB := ak_ (Below.refl w.heap.size w)
 have H : ((spec_l23Code.f k l0 a1_0 a1_1).bind fun t433 => (if t433 = 0 then ((spec_l23Best.f k l0 a1_0 a1_1).bind fun t434 => (if t434 < 0 then (some (([] : List (S23)), 0, 3)) else ((spec_l23Cut.f l0 t434 a1_1).bind fun t435 => (some (t435, t434, 0))))) else (some (([] : List (S23)), 0, t433)))) = some (r1, r2, r3) := h
 clear h
 replace H := ob_ H
 obtain ⟨t433, A30, H⟩ := H
 (try dsimp only at H)
 have A3 := ak_ A30
 clear A30
 by_cases c4 : t433 = 0
 rotate_left
 ·rw [if_neg c4] at H
  have c4b0 : (t433 == 0) = false := beq_eq_false_iff_ne.mpr c4
  have c4b1 : (t433 != 0) = true := bne_iff_ne.mpr c4
  simp only [Option.some.injEq, Prod.mk.injEq] at H
  obtain ⟨rfl, rfl, rfl⟩ := H
  go_enter Tryd.func14, Tryd.ntmps14
  go_wp2_with (first | ((with_reducible refine gate_dst (N := 3) rfl ?_); refine box_event ?hg (N := 3) ?hd (cs := #[.string a1_0, .int .i64 a1_1]) (t := 32) ?hr ?_; (case hd => rfl); (case hg => rfl); (case hr => first | (go_simp; done) | (go_simp; rfl)); intro gb432 hg w16 hbox hb; have BK432 := ak_ (hbox); have GW432 := ak_ ((by rw [hg]; exact (below_size hb_) : w.heap.size ≤ gb432)); have GE432 := ak_ ((by rw [hg]; exact (below_size hb_) : w.heap.size ≤ gb432)); replace HB := ak_ (below_step hb_ hb); skip; clear hb hbox hg) | ((with_reducible refine gate_callee (f := 71) rfl ?_); refine goesL_ (some 10) rfl rfl Tryd.func71 (by kernel_rfl) rfl #[.slice A0 l0.length c0, .pointer (some ⟨gb432, 0, none⟩)] rfl ln_ ?_; (with_reducible refine (spec_l23Code.calls k _ _ l0 _ a1_0 a1_1 t433 _ (kc_ (Kd.C_below HR0.out HB.out)) HC0.out ((blk_cell (t := 32) (cs := #[.string a1_0, .int .i64 a1_1]) (bk_ BK432) 0).trans rfl) ((blk_cell (t := 32) (cs := #[.string a1_0, .int .i64 a1_1]) (bk_ BK432) 1).trans rfl) A3.out).mono ?_); rintro e w17 ⟨rfl, hb⟩; refine ⟨_, rfl, ?_⟩; replace BK432 := ak_ (blk_below (g := gb432) (o := .cells #[.string a1_0, .int .i64 a1_1] 32 (0, 0)) (bk_ BK432) hb); replace HB := ak_ (below_step (hg_ GE432) hb); skip; clear hb))
  go_ret3
  exact ⟨_, ew_, by first | exact Kd.R_nil _ _ _ _ _ | exact Kd.N_nil _ _ _ _ _ | exact Kd.V_nil _ _ _ _ _ | exact Kd.Q_nil _ _ _ _ _ | exact Kd.S_nil _ _ _ _ _, (hg_ GE432)⟩

 rw [if_pos c4] at H
 have c4b0 : (t433 == 0) = true := beq_iff_eq.mpr c4
 have c4b1 : (t433 != 0) = false := bne_eq_false_iff_eq.mpr c4
 clear c4
 replace H := ob_ H
 obtain ⟨t434, A50, H⟩ := H
 (try dsimp only at H)
 have A5 := ak_ A50
 clear A50
 by_cases c6 : t434 < 0
 ·rw [if_pos c6] at H
  have c6b0 : decide (t434 < 0) = true := dt_ c6
  clear c6
  simp only [Option.some.injEq, Prod.mk.injEq] at H
  obtain ⟨rfl, rfl, rfl⟩ := H
  go_enter Tryd.func14, Tryd.ntmps14
  go_wp2_with (first | ((with_reducible refine gate_dst (N := 3) rfl ?_); refine box_event ?hg (N := 3) ?hd (cs := #[.string a1_0, .int .i64 a1_1]) (t := 32) ?hr ?_; (case hd => rfl); (case hg => rfl); (case hr => first | (go_simp; done) | (go_simp; rfl)); intro gb432 hg w7 hbox hb; have BK432 := ak_ (hbox); have GW432 := ak_ ((by rw [hg]; exact (below_size hb_) : w.heap.size ≤ gb432)); have GE432 := ak_ ((by rw [hg]; exact (below_size hb_) : w.heap.size ≤ gb432)); replace HB := ak_ (below_step hb_ hb); skip; clear hb hbox hg) | ((with_reducible refine gate_callee (f := 71) rfl ?_); refine goesL_ (some 10) rfl rfl Tryd.func71 (by kernel_rfl) rfl #[.slice A0 l0.length c0, .pointer (some ⟨gb432, 0, none⟩)] rfl ln_ ?_; (with_reducible refine (spec_l23Code.calls k _ _ l0 _ a1_0 a1_1 t433 _ (kc_ (Kd.C_below HR0.out HB.out)) HC0.out ((blk_cell (t := 32) (cs := #[.string a1_0, .int .i64 a1_1]) (bk_ BK432) 0).trans rfl) ((blk_cell (t := 32) (cs := #[.string a1_0, .int .i64 a1_1]) (bk_ BK432) 1).trans rfl) A3.out).mono ?_); rintro e w8 ⟨rfl, hb⟩; refine ⟨_, rfl, ?_⟩; replace BK432 := ak_ (blk_below (g := gb432) (o := .cells #[.string a1_0, .int .i64 a1_1] 32 (0, 0)) (bk_ BK432) hb); replace HB := ak_ (below_step (hg_ GE432) hb); skip; clear hb) | ((with_reducible refine gate_callee (f := 72) rfl ?_); refine goesL_ (some 15) rfl rfl Tryd.func72 (by kernel_rfl) rfl #[.slice A0 l0.length c0, .pointer (some ⟨gb432, 0, none⟩)] rfl ln_ ?_; (with_reducible refine (spec_l23Best.calls k _ _ l0 _ a1_0 a1_1 t434 _ (kc_ (Kd.C_below HR0.out HB.out)) HC0.out ((blk_cell (t := 32) (cs := #[.string a1_0, .int .i64 a1_1]) (bk_ BK432) 0).trans rfl) ((blk_cell (t := 32) (cs := #[.string a1_0, .int .i64 a1_1]) (bk_ BK432) 1).trans rfl) A5.out).mono ?_); rintro e w9 ⟨rfl, hb⟩; refine ⟨_, rfl, ?_⟩; replace BK432 := ak_ (blk_below (g := gb432) (o := .cells #[.string a1_0, .int .i64 a1_1] 32 (0, 0)) (bk_ BK432) hb); replace HB := ak_ (below_step (hg_ GE432) hb); skip; clear hb))
  go_ret3
  exact ⟨_, ew_, by first | exact Kd.R_nil _ _ _ _ _ | exact Kd.N_nil _ _ _ _ _ | exact Kd.V_nil _ _ _ _ _ | exact Kd.Q_nil _ _ _ _ _ | exact Kd.S_nil _ _ _ _ _, (hg_ GE432)⟩
 rw [if_neg c6] at H
 have c6b0 : decide (t434 < 0) = false := decide_eq_false c6
 clear c6
 replace H := ob_ H
 obtain ⟨t435, A100, H⟩ := H
 (try dsimp only at H)
 have A10 := ak_ A100
 clear A100
 simp only [Option.some.injEq, Prod.mk.injEq] at H
 obtain ⟨rfl, rfl, rfl⟩ := H
 go_enter Tryd.func14, Tryd.ntmps14
 go_wp2_with (first | ((with_reducible refine gate_dst (N := 3) rfl ?_); refine box_event ?hg (N := 3) ?hd (cs := #[.string a1_0, .int .i64 a1_1]) (t := 32) ?hr ?_; (case hd => rfl); (case hg => rfl); (case hr => first | (go_simp; done) | (go_simp; rfl)); intro gb432 hg w11 hbox hb; have BK432 := ak_ (hbox); have GW432 := ak_ ((by rw [hg]; exact (below_size hb_) : w.heap.size ≤ gb432)); have GE432 := ak_ ((by rw [hg]; exact (below_size hb_) : w.heap.size ≤ gb432)); replace HB := ak_ (below_step hb_ hb); skip; clear hb hbox hg) | ((with_reducible refine gate_callee (f := 71) rfl ?_); refine goesL_ (some 10) rfl rfl Tryd.func71 (by kernel_rfl) rfl #[.slice A0 l0.length c0, .pointer (some ⟨gb432, 0, none⟩)] rfl ln_ ?_; (with_reducible refine (spec_l23Code.calls k _ _ l0 _ a1_0 a1_1 t433 _ (kc_ (Kd.C_below HR0.out HB.out)) HC0.out ((blk_cell (t := 32) (cs := #[.string a1_0, .int .i64 a1_1]) (bk_ BK432) 0).trans rfl) ((blk_cell (t := 32) (cs := #[.string a1_0, .int .i64 a1_1]) (bk_ BK432) 1).trans rfl) A3.out).mono ?_); rintro e w12 ⟨rfl, hb⟩; refine ⟨_, rfl, ?_⟩; replace BK432 := ak_ (blk_below (g := gb432) (o := .cells #[.string a1_0, .int .i64 a1_1] 32 (0, 0)) (bk_ BK432) hb); replace HB := ak_ (below_step (hg_ GE432) hb); skip; clear hb) | ((with_reducible refine gate_callee (f := 72) rfl ?_); refine goesL_ (some 15) rfl rfl Tryd.func72 (by kernel_rfl) rfl #[.slice A0 l0.length c0, .pointer (some ⟨gb432, 0, none⟩)] rfl ln_ ?_; (with_reducible refine (spec_l23Best.calls k _ _ l0 _ a1_0 a1_1 t434 _ (kc_ (Kd.C_below HR0.out HB.out)) HC0.out ((blk_cell (t := 32) (cs := #[.string a1_0, .int .i64 a1_1]) (bk_ BK432) 0).trans rfl) ((blk_cell (t := 32) (cs := #[.string a1_0, .int .i64 a1_1]) (bk_ BK432) 1).trans rfl) A5.out).mono ?_); rintro e w13 ⟨rfl, hb⟩; refine ⟨_, rfl, ?_⟩; replace BK432 := ak_ (blk_below (g := gb432) (o := .cells #[.string a1_0, .int .i64 a1_1] 32 (0, 0)) (bk_ BK432) hb); replace HB := ak_ (below_step (hg_ GE432) hb); skip; (try clear hb); (try clear hb2); (try clear hk); (try clear hi); have hcz14_0 : w13.cell? ⟨gb432, 0, none⟩ = some (.string a1_0) := (blk_cell BK432.out 0).trans rfl; have hcz14_1 : w13.cell? ⟨gb432, 1, none⟩ = some (.int .i64 a1_1) := (blk_cell BK432.out 1).trans rfl; have hfz14_0 := blk_frozen BK432.out 0; have hfz14_1 := blk_frozen BK432.out 1) | ((with_reducible refine gate_callee (f := 73) rfl ?_); refine goesL_ (some 22) rfl rfl Tryd.func73 (by kernel_rfl) rfl #[.slice A0 l0.length c0, .int .i64 t434, .int .i64 a1_1] rfl ln_ ?_; (with_reducible refine (spec_l23Cut.calls _ _ l0 t434 a1_1 t435 _ (kc_ (Kd.C_below HR0.out HB.out)) HC0.out A10.out).mono ?_); rintro e w15 ⟨v436, rfl, ho0, hb⟩; refine ⟨_, rfl, ?_⟩; have HO437 := ak_ (Kd.R_lower ho0 (below_size (hg_ GE432))); replace BK432 := ak_ (blk_below (g := gb432) (o := .cells #[.string a1_0, .int .i64 a1_1] 32 (0, 0)) (bk_ BK432) hb); replace HB := ak_ (below_step (hg_ GE432) hb); skip; clear hb ho0))
 go_ret3
 exact ⟨_, ew_, by (with_reducible repeat (first | apply Kd.R_alloc | apply Kd.R_drewN | apply Kd.R_drew)); exact HO437.out, (hg_ GE432)⟩
/-! ### spec_BestCoil: function 16 -/
def spec_BestCoil.f (k : Nat) (l0 : List (S23)) (a1_0 : ByteArray) (a1_1 : Int) : Option (Int × Int) := (spec_l23Code.f k l0 a1_0 a1_1).bind fun t439 => (if t439 = 0 then ((spec_l23Best.f k l0 a1_0 a1_1).bind fun t440 => (if t440 < 0 then (some (0, 3)) else (some (t440, 0)))) else (some (0, t439)))
set_option maxHeartbeats 8000000 in
set_option maxRecDepth 100000 in
theorem spec_BestCoil.calls (k : Nat) (A0 : Option Addr) (c0 : Nat) (l0 : List (S23)) (a1_0 : ByteArray) (a1_1 : Int) (r1 : Int) (r2 : Int) (w : World) (hr0 : Kd.C k23 w A0 l0.length l0) (hc0 : l0.length ≤ c0) (h : spec_BestCoil.f k l0 a1_0 a1_1 = some (r1, r2)) :
  Calls Tryd.prog 16 #[.slice A0 l0.length c0, .agg #[.string a1_0, .int .i64 a1_1]] w fun e w' => e = .returned (.tuple #[.int .i64 r1, .int .i64 r2]) ∧ Below w.heap.size w w' := by
 have hu32 := Tryd.underlying32
 have HR0 := ak_ hr0
 have HC0 := ak_ hc0
 clear hr0 hc0
 have HB := ak_ (Below.refl w.heap.size w)
 have H : ((spec_l23Code.f k l0 a1_0 a1_1).bind fun t439 => (if t439 = 0 then ((spec_l23Best.f k l0 a1_0 a1_1).bind fun t440 => (if t440 < 0 then (some (0, 3)) else (some (t440, 0)))) else (some (0, t439)))) = some (r1, r2) := h
 clear h
 replace H := ob_ H
 obtain ⟨t439, A30, H⟩ := H
 (try dsimp only at H)
 have A3 := ak_ A30
 clear A30
 by_cases c4 : t439 = 0
 rotate_left
 ·rw [if_neg c4] at H
  have c4b0 : (t439 == 0) = false := beq_eq_false_iff_ne.mpr c4
  have c4b1 : (t439 != 0) = true := bne_iff_ne.mpr c4
  simp only [Option.some.injEq, Prod.mk.injEq] at H
  obtain ⟨rfl, rfl⟩ := H
  go_enter Tryd.func16, Tryd.ntmps16
  go_wp2_with (first | ((with_reducible refine gate_dst (N := 3) rfl ?_); refine box_event ?hg (N := 3) ?hd (cs := #[.string a1_0, .int .i64 a1_1]) (t := 32) ?hr ?_; (case hd => rfl); (case hg => rfl); (case hr => first | (go_simp; done) | (go_simp; rfl)); intro gb438 hg w13 hbox hb; have BK438 := ak_ (hbox); have GW438 := ak_ ((by rw [hg]; exact (below_size hb_) : w.heap.size ≤ gb438)); have GE438 := ak_ ((by rw [hg]; exact (below_size hb_) : w.heap.size ≤ gb438)); replace HB := ak_ (below_step hb_ hb); skip; clear hb hbox hg) | ((with_reducible refine gate_callee (f := 71) rfl ?_); refine goesL_ (some 9) rfl rfl Tryd.func71 (by kernel_rfl) rfl #[.slice A0 l0.length c0, .pointer (some ⟨gb438, 0, none⟩)] rfl ln_ ?_; (with_reducible refine (spec_l23Code.calls k _ _ l0 _ a1_0 a1_1 t439 _ (kc_ (Kd.C_below HR0.out HB.out)) HC0.out ((blk_cell (t := 32) (cs := #[.string a1_0, .int .i64 a1_1]) (bk_ BK438) 0).trans rfl) ((blk_cell (t := 32) (cs := #[.string a1_0, .int .i64 a1_1]) (bk_ BK438) 1).trans rfl) A3.out).mono ?_); rintro e w14 ⟨rfl, hb⟩; refine ⟨_, rfl, ?_⟩; replace BK438 := ak_ (blk_below (g := gb438) (o := .cells #[.string a1_0, .int .i64 a1_1] 32 (0, 0)) (bk_ BK438) hb); replace HB := ak_ (below_step (hg_ GE438) hb); skip; clear hb))
  go_ret2
  exact ⟨ew_, (hg_ GE438)⟩

 rw [if_pos c4] at H
 have c4b0 : (t439 == 0) = true := beq_iff_eq.mpr c4
 have c4b1 : (t439 != 0) = false := bne_eq_false_iff_eq.mpr c4
 clear c4
 replace H := ob_ H
 obtain ⟨t440, A50, H⟩ := H
 (try dsimp only at H)
 have A5 := ak_ A50
 clear A50
 by_cases c6 : t440 < 0
 ·rw [if_pos c6] at H
  have c6b0 : decide (t440 < 0) = true := dt_ c6
  clear c6
  simp only [Option.some.injEq, Prod.mk.injEq] at H
  obtain ⟨rfl, rfl⟩ := H
  go_enter Tryd.func16, Tryd.ntmps16
  go_wp2_with (first | ((with_reducible refine gate_dst (N := 3) rfl ?_); refine box_event ?hg (N := 3) ?hd (cs := #[.string a1_0, .int .i64 a1_1]) (t := 32) ?hr ?_; (case hd => rfl); (case hg => rfl); (case hr => first | (go_simp; done) | (go_simp; rfl)); intro gb438 hg w7 hbox hb; have BK438 := ak_ (hbox); have GW438 := ak_ ((by rw [hg]; exact (below_size hb_) : w.heap.size ≤ gb438)); have GE438 := ak_ ((by rw [hg]; exact (below_size hb_) : w.heap.size ≤ gb438)); replace HB := ak_ (below_step hb_ hb); skip; clear hb hbox hg) | ((with_reducible refine gate_callee (f := 71) rfl ?_); refine goesL_ (some 9) rfl rfl Tryd.func71 (by kernel_rfl) rfl #[.slice A0 l0.length c0, .pointer (some ⟨gb438, 0, none⟩)] rfl ln_ ?_; (with_reducible refine (spec_l23Code.calls k _ _ l0 _ a1_0 a1_1 t439 _ (kc_ (Kd.C_below HR0.out HB.out)) HC0.out ((blk_cell (t := 32) (cs := #[.string a1_0, .int .i64 a1_1]) (bk_ BK438) 0).trans rfl) ((blk_cell (t := 32) (cs := #[.string a1_0, .int .i64 a1_1]) (bk_ BK438) 1).trans rfl) A3.out).mono ?_); rintro e w8 ⟨rfl, hb⟩; refine ⟨_, rfl, ?_⟩; replace BK438 := ak_ (blk_below (g := gb438) (o := .cells #[.string a1_0, .int .i64 a1_1] 32 (0, 0)) (bk_ BK438) hb); replace HB := ak_ (below_step (hg_ GE438) hb); skip; clear hb) | ((with_reducible refine gate_callee (f := 72) rfl ?_); refine goesL_ (some 14) rfl rfl Tryd.func72 (by kernel_rfl) rfl #[.slice A0 l0.length c0, .pointer (some ⟨gb438, 0, none⟩)] rfl ln_ ?_; (with_reducible refine (spec_l23Best.calls k _ _ l0 _ a1_0 a1_1 t440 _ (kc_ (Kd.C_below HR0.out HB.out)) HC0.out ((blk_cell (t := 32) (cs := #[.string a1_0, .int .i64 a1_1]) (bk_ BK438) 0).trans rfl) ((blk_cell (t := 32) (cs := #[.string a1_0, .int .i64 a1_1]) (bk_ BK438) 1).trans rfl) A5.out).mono ?_); rintro e w9 ⟨rfl, hb⟩; refine ⟨_, rfl, ?_⟩; replace BK438 := ak_ (blk_below (g := gb438) (o := .cells #[.string a1_0, .int .i64 a1_1] 32 (0, 0)) (bk_ BK438) hb); replace HB := ak_ (below_step (hg_ GE438) hb); skip; clear hb))
  go_ret2
  exact ⟨ew_, (hg_ GE438)⟩
 rw [if_neg c6] at H
 have c6b0 : decide (t440 < 0) = false := decide_eq_false c6
 clear c6
 simp only [Option.some.injEq, Prod.mk.injEq] at H
 obtain ⟨rfl, rfl⟩ := H
 go_enter Tryd.func16, Tryd.ntmps16
 go_wp2_with (first | ((with_reducible refine gate_dst (N := 3) rfl ?_); refine box_event ?hg (N := 3) ?hd (cs := #[.string a1_0, .int .i64 a1_1]) (t := 32) ?hr ?_; (case hd => rfl); (case hg => rfl); (case hr => first | (go_simp; done) | (go_simp; rfl)); intro gb438 hg w10 hbox hb; have BK438 := ak_ (hbox); have GW438 := ak_ ((by rw [hg]; exact (below_size hb_) : w.heap.size ≤ gb438)); have GE438 := ak_ ((by rw [hg]; exact (below_size hb_) : w.heap.size ≤ gb438)); replace HB := ak_ (below_step hb_ hb); skip; clear hb hbox hg) | ((with_reducible refine gate_callee (f := 71) rfl ?_); refine goesL_ (some 9) rfl rfl Tryd.func71 (by kernel_rfl) rfl #[.slice A0 l0.length c0, .pointer (some ⟨gb438, 0, none⟩)] rfl ln_ ?_; (with_reducible refine (spec_l23Code.calls k _ _ l0 _ a1_0 a1_1 t439 _ (kc_ (Kd.C_below HR0.out HB.out)) HC0.out ((blk_cell (t := 32) (cs := #[.string a1_0, .int .i64 a1_1]) (bk_ BK438) 0).trans rfl) ((blk_cell (t := 32) (cs := #[.string a1_0, .int .i64 a1_1]) (bk_ BK438) 1).trans rfl) A3.out).mono ?_); rintro e w11 ⟨rfl, hb⟩; refine ⟨_, rfl, ?_⟩; replace BK438 := ak_ (blk_below (g := gb438) (o := .cells #[.string a1_0, .int .i64 a1_1] 32 (0, 0)) (bk_ BK438) hb); replace HB := ak_ (below_step (hg_ GE438) hb); skip; clear hb) | ((with_reducible refine gate_callee (f := 72) rfl ?_); refine goesL_ (some 14) rfl rfl Tryd.func72 (by kernel_rfl) rfl #[.slice A0 l0.length c0, .pointer (some ⟨gb438, 0, none⟩)] rfl ln_ ?_; (with_reducible refine (spec_l23Best.calls k _ _ l0 _ a1_0 a1_1 t440 _ (kc_ (Kd.C_below HR0.out HB.out)) HC0.out ((blk_cell (t := 32) (cs := #[.string a1_0, .int .i64 a1_1]) (bk_ BK438) 0).trans rfl) ((blk_cell (t := 32) (cs := #[.string a1_0, .int .i64 a1_1]) (bk_ BK438) 1).trans rfl) A5.out).mono ?_); rintro e w12 ⟨rfl, hb⟩; refine ⟨_, rfl, ?_⟩; replace BK438 := ak_ (blk_below (g := gb438) (o := .cells #[.string a1_0, .int .i64 a1_1] 32 (0, 0)) (bk_ BK438) hb); replace HB := ak_ (below_step (hg_ GE438) hb); skip; clear hb))
 go_ret2
 exact ⟨ew_, (hg_ GE438)⟩
/-! ### spec_DrawLeftOf: function 17 -/
def spec_DrawLeftOf.f (k : Nat) (l0 : List Int) : Option ((List (S23)) × ByteArray) := (spec_l00From.f l0).bind fun bt441 => ((spec_l23Bent.f k bt441.1 bt441.2.1 bt441.2.2).bind fun bt445 => ((spec_l00Src_text.f bt441.1 bt445.2.1 bt445.2.2 (([(⟨#[104, 101, 109, 112]⟩ : ByteArray), (⟨#[109, 97, 110, 105, 108, 97]⟩ : ByteArray), (⟨#[106, 117, 116, 101]⟩ : ByteArray), (⟨#[]⟩ : ByteArray), (⟨#[72, 101, 109, 112]⟩ : ByteArray)] : List ByteArray))).bind fun bt453 => (some (bt445.1, bt453.1))))
set_option maxHeartbeats 8000000 in
set_option maxRecDepth 100000 in
theorem spec_DrawLeftOf.calls (k : Nat) (A0 : Option Addr) (c0 : Nat) (l0 : List Int) (r1 : List (S23)) (r2 : ByteArray) (w : World) (hr0 : Kd.C (Kd.int .u8) w A0 l0.length l0) (hc0 : l0.length ≤ c0) (h : spec_DrawLeftOf.f k l0 = some (r1, r2)) :
  Calls Tryd.prog 17 #[.slice A0 l0.length c0] w fun e w' => ∃ v0_ : Value, e = .returned (.tuple #[v0_, .string r2]) ∧ Kd.R k23 23 w' w.heap.size (fun _ => True) v0_ r1 ∧ Below w.heap.size w w' := by
 have HR0 := ak_ hr0
 have HC0 := ak_ hc0
 clear hr0 hc0
 have HB := ak_ (Below.refl w.heap.size w)
 have H : ((spec_l00From.f l0).bind fun bt441 => ((spec_l23Bent.f k bt441.1 bt441.2.1 bt441.2.2).bind fun bt445 => ((spec_l00Src_text.f bt441.1 bt445.2.1 bt445.2.2 (([(⟨#[104, 101, 109, 112]⟩ : ByteArray), (⟨#[109, 97, 110, 105, 108, 97]⟩ : ByteArray), (⟨#[106, 117, 116, 101]⟩ : ByteArray), (⟨#[]⟩ : ByteArray), (⟨#[72, 101, 109, 112]⟩ : ByteArray)] : List ByteArray))).bind fun bt453 => (some (bt445.1, bt453.1))))) = some (r1, r2) := h
 clear h
 replace H := ob_ H
 obtain ⟨⟨t441, t442, t443⟩, A20, H⟩ := H
 (try dsimp only at H)
 have A2 := ak_ A20
 clear A20
 replace H := ob_ H
 obtain ⟨⟨t445, t448, t449⟩, A30, H⟩ := H
 (try dsimp only at H)
 have A3 := ak_ A30
 clear A30
 obtain ⟨y450, hy450⟩ : ∃ y_ : List ByteArray, y_ = (([(⟨#[104, 101, 109, 112]⟩ : ByteArray), (⟨#[109, 97, 110, 105, 108, 97]⟩ : ByteArray), (⟨#[106, 117, 116, 101]⟩ : ByteArray), (⟨#[]⟩ : ByteArray), (⟨#[72, 101, 109, 112]⟩ : ByteArray)] : List ByteArray)) := ⟨_, rfl⟩
 replace H : ((spec_l00Src_text.f t441 t448 t449 y450).bind fun bt453 => (some (t445, bt453.1))) = some (r1, r2) := by first | (rw [hy450]; with_reducible exact H) | (have H2_ := (Option.bind_some _ _).symm.trans H; rw [hy450]; with_reducible exact H2_) | (have H2_ := (Option.bind_some _ _).symm.trans H; with_reducible exact H2_) | with_reducible exact H | (rw [hy450]; exact H) | exact H
 have Ny450 := ak_ hy450
 clear hy450
 replace H := ob_ H
 obtain ⟨⟨t453, t454, t455⟩, A40, H⟩ := H
 (try dsimp only at H)
 have A4 := ak_ A40
 clear A40
 simp only [Option.some.injEq, Prod.mk.injEq] at H
 obtain ⟨rfl, rfl⟩ := H
 go_enter Tryd.func17, Tryd.ntmps17
 go_wp2_with (first | ((with_reducible refine gate_callee (f := 76) rfl ?_); refine goesL_ (some 7) rfl rfl Tryd.func76 (by kernel_rfl) rfl #[.slice A0 l0.length c0] rfl ln_ ?_; (with_reducible refine (spec_l00From.calls _ _ l0 t441 t442 t443 w _ ?side1 ?side2 ?side3 A2.out).mono ?_); (case side1 => exact hb_); (case side2 => exact HR0.out); (case side3 => exact HC0.out); rintro e w5 ⟨g444, rfl, hi, hb, hb2⟩; refine ⟨_, rfl, ?_⟩; replace HB := ak_ (hb); have HI444 := ak_ (hi); skip; clear hb hb2 hi) | ((with_reducible refine gate_callee (f := 77) rfl ?_); refine goesL_ (some 9) rfl rfl Tryd.func77 (by kernel_rfl) rfl #[.pointer (some ⟨g444, 0, none⟩)] rfl ln_ ?_; (with_reducible refine (spec_l23Bent.calls k g444 t441 t442 t443 t445 t448 t449 w _ ?side1 ?side2 A3.out).mono ?_); (case side1 => exact isS155_a HI444); (case side2 => exact hz_ (IsS155.ge HI444.out)); rintro e w6 ⟨v446, rfl, ho0, hi, hb, hk⟩; refine ⟨_, rfl, ?_⟩; have HO447 := ak_ (Kd.R_lower ho0 (below_size (hz_ (IsS155.ge HI444.out)))); replace HB := ak_ (hb); replace HI444 := ak_ (hi); skip; clear hb hk hi ho0) | ((with_reducible refine gate_dst (N := 12) rfl ?_); refine Kd.R_lit Kd.string _ 9 ?hg (N := 12) ?hd (xs := ([(⟨#[104, 101, 109, 112]⟩ : ByteArray), (⟨#[109, 97, 110, 105, 108, 97]⟩ : ByteArray), (⟨#[106, 117, 116, 101]⟩ : ByteArray), (⟨#[]⟩ : ByteArray), (⟨#[72, 101, 109, 112]⟩ : ByteArray)] : List ByteArray)) (inner := [.string (⟨#[104, 101, 109, 112]⟩ : ByteArray), .string (⟨#[109, 97, 110, 105, 108, 97]⟩ : ByteArray), .string (⟨#[106, 117, 116, 101]⟩ : ByteArray), .string (⟨#[]⟩ : ByteArray), .string (⟨#[72, 101, 109, 112]⟩ : ByteArray)]) (ok := fun _ => True) (okp := fun _ => True) ?hr ?hp (fun _ hk => hk) trivial (Below.refl _ _) (Nat.le_refl _) (by simp) ?_; (case hd => rfl); (case hg => rfl); (case hr => first | (go_simp; done) | (go_simp; rfl)); (case hp => exact (Reps.one (show Kd.M Kd.string _ _ _ (⟨#[104, 101, 109, 112]⟩ : ByteArray) [.string (⟨#[104, 101, 109, 112]⟩ : ByteArray)] from rfl) (Reps.one (show Kd.M Kd.string _ _ _ (⟨#[109, 97, 110, 105, 108, 97]⟩ : ByteArray) [.string (⟨#[109, 97, 110, 105, 108, 97]⟩ : ByteArray)] from rfl) (Reps.one (show Kd.M Kd.string _ _ _ (⟨#[106, 117, 116, 101]⟩ : ByteArray) [.string (⟨#[106, 117, 116, 101]⟩ : ByteArray)] from rfl) (Reps.one (show Kd.M Kd.string _ _ _ (⟨#[]⟩ : ByteArray) [.string (⟨#[]⟩ : ByteArray)] from rfl) (Reps.one (show Kd.M Kd.string _ _ _ (⟨#[72, 101, 109, 112]⟩ : ByteArray) [.string (⟨#[72, 101, 109, 112]⟩ : ByteArray)] from rfl) (Reps.none _ _))))))); intro v451 w7 ho8 hb hg_ hnew_; clear hg_ hnew_; (first | rw [← Ny450.out] at ho8 | (simp only [Int.reduceToNat] at ho8; rw [← Ny450.out] at ho8)); have n0_ := ak_ (Kd.R_below (kr_ HO447) hb); have n1_ := ak_ (Kd.R_lower ho8 (below_size (hz_ (IsS155.ge HI444.out)))); have n2_ := ak_ (IsS155.below (isS155_a HI444) hb); have n3_ := ak_ (below_step (hz_ (IsS155.ge HI444.out)) hb); clear HO447 HI444 HB; have HO447 := n0_; have HO452 := n1_; have HI444 := n2_; have HB := n3_; clear n0_ n1_ n2_ n3_; clear hb ho8; obtain ⟨Ao9, co9, eo9⟩ := Kd.R_slice HO452.out; subst eo9) | ((with_reducible refine gate_callee (f := 78) rfl ?_); refine goesL_ (some 13) rfl rfl Tryd.func78 (by kernel_rfl) rfl #[.pointer (some ⟨g444, 0, none⟩), .slice Ao9 y450.length co9] rfl ln_ ?_; (with_reducible refine (spec_l00Src_text.calls g444 t441 t448 t449 _ _ y450 t453 t454 t455 w _ ?side1 ?side2 ?side3 ?side4 ?side5 A4.out).mono ?_); (case side1 => exact isS155_a HI444); (case side2 => exact hz_ (IsS155.ge HI444.out)); (case side3 => repeat (first | exact (Kd.R_reads' HO452.out).2.2 | (with_reducible refine Kd.C_alloc ?_ _) | (with_reducible refine Kd.C_drewN ?_ _) | (with_reducible refine Kd.C_drew ?_))); (case side4 => exact (Kd.R_reads' HO452.out).2.1); (case side5 => exact far_slice (IsS155.own_ne HI444.out HO452.out (by decide))); rintro e w10 ⟨rfl, hi, hb, hk⟩; refine ⟨_, rfl, ?_⟩; replace HO447 := ak_ (Kd.R_mono (Kd.R_keep (IsS155.apart (show IsS155 w _ g444 t441 t448 t449 from isS155_a HI444) (kr_ HO447) (by decide)) hk (fun _ h => h.2)) (fun _ h => h.1)); replace HO452 := ak_ (Kd.R_mono (Kd.R_keep (IsS155.apart (show IsS155 w _ g444 t441 t448 t449 from isS155_a HI444) (kr_ HO452) (by decide)) hk (fun _ h => h.2)) (fun _ h => h.1)); replace HB := ak_ (hb); replace HI444 := ak_ (hi); skip; clear hb hk hi))
 go_ret2
 exact ⟨_, ew_, by (with_reducible repeat (first | apply Kd.R_alloc | apply Kd.R_drewN | apply Kd.R_drew)); exact HO447.out, hz_ (IsS155.ge HI444.out)⟩

/-! ### impl_leftOf: function 80 -/
def impl_leftOf.l0 : Nat → ByteArray → Int → List (S23) → Int → Int → Option (Int)
 | 0, _, _, _, _, _ => none
 | k + 1, x1, x5, x8, x9, x10 => if x10 < x9 then (if 0 ≤ x10 then (if x10 < (x8.length : Int) then (if ((rd_T23 x8 x10).f0).toList = x1.toList then (impl_leftOf.l0 k x1 (wrap64 (x5 + ((rd_T23 x8 x10).f1))) x8 x9 (wrap64 (x10 + 1))) else (impl_leftOf.l0 k x1 x5 x8 x9 (wrap64 (x10 + 1)))) else (none)) else (none)) else (some x5)
def impl_leftOf.f (k : Nat) (l0 : List (S23)) (a1 : ByteArray) : Option (Int) := impl_leftOf.l0 k a1 0 l0 (l0.length : Int) 0
set_option maxHeartbeats 8000000 in
set_option maxRecDepth 100000 in
theorem impl_leftOf.calls (k : Nat) (A0 : Option Addr) (c0 : Nat) (l0 : List (S23)) (a1 : ByteArray) (r : Int) (w : World) (hr0 : Kd.C k23 w A0 l0.length l0) (hc0 : l0.length ≤ c0) (h : impl_leftOf.f k l0 a1 = some r) :
  Calls Tryd.prog 80 #[.slice A0 l0.length c0, .string a1] w fun e w' => e = .returned (.int .i64 r) ∧ Below w.heap.size w w' := by
 have hu23 := Tryd.underlying23
 have HR0 := ak_ hr0
 have HC0 := ak_ hc0
 clear hr0 hc0
 have HB := ak_ (Below.refl w.heap.size w)
 have H : (impl_leftOf.l0 k a1 0 l0 (l0.length : Int) 0) = some r := h
 clear h
 have H' := ak_ H
 clear H
 go_enter Tryd.func80, Tryd.ntmps80
 go_wp2
 go_loopg [5, 10] k (fun kq v5 v10 w' => ∃ (x5_1 : Int) (x10_1 : Int), v5 = .int .i64 x5_1 ∧ v10 = .int .i64 x10_1 ∧ Aside0 (impl_leftOf.l0 kq a1 x5_1 l0 (l0.length : Int) x10_1 = some r) ∧ Aside0 (kq ≤ k) ∧ Aside0 (Below w.heap.size w w'))
 case atStart => exact ⟨(0), (0), fr_, fr_, H', ⟨Nat.le_refl _⟩, ⟨hb_⟩⟩
 case round =>
  clear H'
  try clear p2
  obtain ⟨x5_1, x10_1, rfl, rfl, HA, HK1, HB⟩ := hrel
  cases gk with
  | zero => exact absurd HA.out (by simp [impl_leftOf.l0])
  | succ k1 =>
   have H := HA.out
   clear HA
   simp only [impl_leftOf.l0] at H
   by_cases c3 : x10_1 < (l0.length : Int)
   rotate_left
   ·rw [if_neg c3] at H
    have c3b0 : decide (x10_1 < (l0.length : Int)) = false := decide_eq_false c3
    clear c3
    obtain rfl := Option.some.inj H
    go_wp2
    go_ret
    exact ⟨ew_, hb_⟩

   rw [if_pos c3] at H
   have c3b0 : decide (x10_1 < (l0.length : Int)) = true := dt_ c3
   clear c3
   by_cases c4 : 0 ≤ x10_1
   rotate_left
   ·rw [if_neg c4] at H
    exact absurd H (by simp)
   rw [if_pos c4] at H
   have c4b0 : decide (0 ≤ x10_1) = true := dt_ c4
   clear c4
   by_cases c5 : x10_1 < (l0.length : Int)
   rotate_left
   ·rw [if_neg c5] at H
    exact absurd H (by simp)
   rw [if_pos c5] at H
   have c5b0 : decide (x10_1 < (l0.length : Int)) = true := dt_ c5
   clear c5
   by_cases c6 : ((rd_T23 l0 x10_1).f0).toList = a1.toList
   rotate_left
   ·rw [if_neg c6] at H
    have c6b0 : (((rd_T23 l0 x10_1).f0).toList == a1.toList) = false := beq_eq_false_iff_ne.mpr c6
    have c6b1 : (((rd_T23 l0 x10_1).f0).toList != a1.toList) = true := bne_iff_ne.mpr c6
    have H' := ak_ H
    clear H
    have p456 : 0 ≤ (x10_1 : Int) := od_
    have q456 : x10_1 < (l0.length : Int) := od_
    obtain ⟨ad456, e456, hx456_0, hx456_1⟩ := at_T23 HR0.out x10_1 p456 q456
    cases e456
    replace hx456_0 := cq_ HB hx456_0
    replace hx456_1 := cq_ HB hx456_1
    replace p456 := eq_true p456
    replace q456 := eq_true q456
    go_wp2_with (first | ((with_reducible refine gate_dst (N := 7) rfl ?_); refine box_event ?hg (N := 7) ?hd (cs := #[.string (⟨#[]⟩ : ByteArray), .int .i64 0]) (t := 23) ?hr ?_; (case hd => rfl); (case hg => rfl); (case hr => first | (go_simp; done) | (go_simp; rfl)); intro gb457 hg w9 hbox hb; have BK457 := ak_ (hbox); have GW457 := ak_ ((by rw [hg]; exact (below_size hb_) : w.heap.size ≤ gb457)); have GE457 := ak_ ((by rw [hg]; exact (below_size hb_) : w.heap.size ≤ gb457)); replace HB := ak_ (below_step hb_ hb); skip; clear hb hbox hg; have hcz10_0 : w9.cell? ⟨gb457, 0, none⟩ = some (.string (⟨#[]⟩ : ByteArray)) := (blk_cell BK457.out 0).trans rfl; have hcz10_1 : w9.cell? ⟨gb457, 1, none⟩ = some (.int .i64 0) := (blk_cell BK457.out 1).trans rfl; have hfz10_0 := blk_frozen BK457.out 0; have hfz10_1 := blk_frozen BK457.out 1))
    go_roundg k1
    case measure => have := HK1.out; omega
    case rel => exact ⟨(x5_1), (wrap64 (x10_1 + 1)), fr_, fr_, H', ⟨by have := HK1.out; omega⟩, ⟨(hg_ GE457)⟩⟩
   rw [if_pos c6] at H
   have c6b0 : (((rd_T23 l0 x10_1).f0).toList == a1.toList) = true := beq_iff_eq.mpr c6
   have c6b1 : (((rd_T23 l0 x10_1).f0).toList != a1.toList) = false := bne_eq_false_iff_eq.mpr c6
   clear c6
   have H' := ak_ H
   clear H
   have p456 : 0 ≤ (x10_1 : Int) := od_
   have q456 : x10_1 < (l0.length : Int) := od_
   obtain ⟨ad456, e456, hx456_0, hx456_1⟩ := at_T23 HR0.out x10_1 p456 q456
   cases e456
   replace hx456_0 := cq_ HB hx456_0
   replace hx456_1 := cq_ HB hx456_1
   replace p456 := eq_true p456
   replace q456 := eq_true q456
   go_wp2_with (first | ((with_reducible refine gate_dst (N := 7) rfl ?_); refine box_event ?hg (N := 7) ?hd (cs := #[.string (⟨#[]⟩ : ByteArray), .int .i64 0]) (t := 23) ?hr ?_; (case hd => rfl); (case hg => rfl); (case hr => first | (go_simp; done) | (go_simp; rfl)); intro gb457 hg w7 hbox hb; have BK457 := ak_ (hbox); have GW457 := ak_ ((by rw [hg]; exact (below_size hb_) : w.heap.size ≤ gb457)); have GE457 := ak_ ((by rw [hg]; exact (below_size hb_) : w.heap.size ≤ gb457)); replace HB := ak_ (below_step hb_ hb); skip; clear hb hbox hg; have hcz8_0 : w7.cell? ⟨gb457, 0, none⟩ = some (.string (⟨#[]⟩ : ByteArray)) := (blk_cell BK457.out 0).trans rfl; have hcz8_1 : w7.cell? ⟨gb457, 1, none⟩ = some (.int .i64 0) := (blk_cell BK457.out 1).trans rfl; have hfz8_0 := blk_frozen BK457.out 0; have hfz8_1 := blk_frozen BK457.out 1))
   go_roundg k1
   case measure => have := HK1.out; omega
   case rel => exact ⟨(wrap64 (x5_1 + ((rd_T23 l0 x10_1).f1))), (wrap64 (x10_1 + 1)), fr_, fr_, H', ⟨by have := HK1.out; omega⟩, ⟨(hg_ GE457)⟩⟩
/-! ### impl_LeftOf: function 18 -/
def impl_LeftOf.f (k : Nat) (l0 : List (S23)) (a1 : ByteArray) : Option (Int × Int) := (impl_ValidStockCoils.f k l0).bind fun t458 => (if t458 = true then ((impl_IsName.f k a1).bind fun t459 => (if t459 = true then ((impl_leftOf.f k l0 a1).bind fun t460 => (some (t460, 0))) else (some (0, 2)))) else (some (0, 1)))
set_option maxHeartbeats 8000000 in
set_option maxRecDepth 100000 in
theorem impl_LeftOf.calls (k : Nat) (A0 : Option Addr) (c0 : Nat) (l0 : List (S23)) (a1 : ByteArray) (r1 : Int) (r2 : Int) (w : World) (hr0 : Kd.C k23 w A0 l0.length l0) (hc0 : l0.length ≤ c0) (h : impl_LeftOf.f k l0 a1 = some (r1, r2)) :
  Calls Tryd.prog 18 #[.slice A0 l0.length c0, .string a1] w fun e w' => e = .returned (.tuple #[.int .i64 r1, .int .i64 r2]) ∧ Below w.heap.size w w' := by
 have HR0 := ak_ hr0
 have HC0 := ak_ hc0
 clear hr0 hc0
 have HB := ak_ (Below.refl w.heap.size w)
 have H : ((impl_ValidStockCoils.f k l0).bind fun t458 => (if t458 = true then ((impl_IsName.f k a1).bind fun t459 => (if t459 = true then ((impl_leftOf.f k l0 a1).bind fun t460 => (some (t460, 0))) else (some (0, 2)))) else (some (0, 1)))) = some (r1, r2) := h
 clear h
 replace H := ob_ H
 obtain ⟨t458, A30, H⟩ := H
 (try dsimp only at H)
 have A3 := ak_ A30
 clear A30
 by_cases c4 : t458 = true
 rotate_left
 ·replace c4 := Bool.eq_false_iff.mpr c4
  subst c4
  have H1 : (some (0, 1)) = some (r1, r2) := by rw [if_neg (show ¬ (false = true) by decide)] at H; exact H
  clear H
  have H := H1
  clear H1
  simp only [Option.some.injEq, Prod.mk.injEq] at H
  obtain ⟨rfl, rfl⟩ := H
  go_enter Tryd.func18, Tryd.ntmps18
  go_wp2_with (first | ((with_reducible refine gate_callee (f := 33) rfl ?_); refine goesL_ (some 7) rfl rfl Tryd.func33 (by kernel_rfl) rfl #[.slice A0 l0.length c0] rfl ln_ ?_; (with_reducible refine (impl_ValidStockCoils.calls k _ _ l0 false _ (kc_ HR0.out) HC0.out A3.out).mono ?_); rintro e w11 ⟨rfl, hb⟩; refine ⟨_, rfl, ?_⟩; replace HB := ak_ (below_step hb_ hb); skip; clear hb))
  go_ret2
  exact ⟨ew_, hb_⟩

 subst c4
 have H1 : ((impl_IsName.f k a1).bind fun t459 => (if t459 = true then ((impl_leftOf.f k l0 a1).bind fun t460 => (some (t460, 0))) else (some (0, 2)))) = some (r1, r2) := by rw [if_pos rfl] at H; exact H
 clear H
 have H := H1
 clear H1
 replace H := ob_ H
 obtain ⟨t459, A50, H⟩ := H
 (try dsimp only at H)
 have A5 := ak_ A50
 clear A50
 by_cases c6 : t459 = true
 rotate_left
 ·replace c6 := Bool.eq_false_iff.mpr c6
  subst c6
  have H1 : (some (0, 2)) = some (r1, r2) := by rw [if_neg (show ¬ (false = true) by decide)] at H; exact H
  clear H
  have H := H1
  clear H1
  simp only [Option.some.injEq, Prod.mk.injEq] at H
  obtain ⟨rfl, rfl⟩ := H
  go_enter Tryd.func18, Tryd.ntmps18
  go_wp2_with (first | ((with_reducible refine gate_callee (f := 33) rfl ?_); refine goesL_ (some 7) rfl rfl Tryd.func33 (by kernel_rfl) rfl #[.slice A0 l0.length c0] rfl ln_ ?_; (with_reducible refine (impl_ValidStockCoils.calls k _ _ l0 true _ (kc_ HR0.out) HC0.out A3.out).mono ?_); rintro e w10 ⟨rfl, hb⟩; refine ⟨_, rfl, ?_⟩; replace HB := ak_ (below_step hb_ hb); skip; clear hb) | ((with_reducible refine gate_callee (f := 79) rfl ?_); refine goesL_ (some 10) rfl rfl Tryd.func79 (by kernel_rfl) rfl #[.string a1] rfl ln_ ?_; (with_reducible refine (impl_IsName.calls k a1 false _ A5.out).mono ?_); rintro e w' ⟨rfl, ⟨nd, rfl⟩⟩; refine ⟨_, rfl, ?_⟩))
  go_ret2
  exact ⟨ew_, hb_⟩
 subst c6
 have H1 : ((impl_leftOf.f k l0 a1).bind fun t460 => (some (t460, 0))) = some (r1, r2) := by rw [if_pos rfl] at H; exact H
 clear H
 have H := H1
 clear H1
 replace H := ob_ H
 obtain ⟨t460, A70, H⟩ := H
 (try dsimp only at H)
 have A7 := ak_ A70
 clear A70
 simp only [Option.some.injEq, Prod.mk.injEq] at H
 obtain ⟨rfl, rfl⟩ := H
 go_enter Tryd.func18, Tryd.ntmps18
 go_wp2_with (first | ((with_reducible refine gate_callee (f := 33) rfl ?_); refine goesL_ (some 7) rfl rfl Tryd.func33 (by kernel_rfl) rfl #[.slice A0 l0.length c0] rfl ln_ ?_; (with_reducible refine (impl_ValidStockCoils.calls k _ _ l0 true _ (kc_ HR0.out) HC0.out A3.out).mono ?_); rintro e w8 ⟨rfl, hb⟩; refine ⟨_, rfl, ?_⟩; replace HB := ak_ (below_step hb_ hb); skip; clear hb) | ((with_reducible refine gate_callee (f := 79) rfl ?_); refine goesL_ (some 10) rfl rfl Tryd.func79 (by kernel_rfl) rfl #[.string a1] rfl ln_ ?_; (with_reducible refine (impl_IsName.calls k a1 true _ A5.out).mono ?_); rintro e w' ⟨rfl, ⟨nd, rfl⟩⟩; refine ⟨_, rfl, ?_⟩) | ((with_reducible refine gate_callee (f := 80) rfl ?_); refine goesL_ (some 14) rfl rfl Tryd.func80 (by kernel_rfl) rfl #[.slice A0 l0.length c0, .string a1] rfl ln_ ?_; (with_reducible refine (impl_leftOf.calls k _ _ l0 a1 t460 _ ?side1 ?side2 A7.out).mono ?_); (case side1 => exact kc_ (Kd.C_below HR0.out hb_)); (case side2 => exact HC0.out); rintro e w9 ⟨rfl, hb⟩; refine ⟨_, rfl, ?_⟩; replace HB := ak_ (below_step hb_ hb); skip; clear hb))
 go_ret2
 exact ⟨ew_, hb_⟩
/-! ### spec_l23Left: function 83 -/
def spec_l23Left.l0 : Nat → List (S23) → ByteArray → Int → Int → Option (Int)
 | 0, _, _, _, _ => none
 | k + 1, x0, x1, x5, x6 => if x6 < (x0.length : Int) then (if 0 ≤ x6 then (if ((rd_T23 x0 x6).f0).toList = x1.toList then (spec_l23Left.l0 k x0 x1 (wrap64 (x5 + ((rd_T23 x0 x6).f1))) (wrap64 (x6 + 1))) else (spec_l23Left.l0 k x0 x1 x5 (wrap64 (x6 + 1)))) else (none)) else (some x5)
def spec_l23Left.f (k : Nat) (l0 : List (S23)) (a1 : ByteArray) : Option (Int) := spec_l23Left.l0 k l0 a1 0 0
set_option maxHeartbeats 8000000 in
set_option maxRecDepth 100000 in
theorem spec_l23Left.calls (k : Nat) (A0 : Option Addr) (c0 : Nat) (l0 : List (S23)) (a1 : ByteArray) (r : Int) (w : World) (hr0 : Kd.C k23 w A0 l0.length l0) (hc0 : l0.length ≤ c0) (h : spec_l23Left.f k l0 a1 = some r) :
  Calls Tryd.prog 83 #[.slice A0 l0.length c0, .string a1] w fun e w' => e = .returned (.int .i64 r) ∧ Drawn0 w w' := by
 have HR0 := ak_ hr0
 have HC0 := ak_ hc0
 clear hr0 hc0
 have H : (spec_l23Left.l0 k l0 a1 0 0) = some r := h
 clear h
 have H' := ak_ H
 clear H
 go_enter Tryd.func83, Tryd.ntmps83
 go_wp2
 go_loopg [5, 6] k (fun kq v5 v6 w' => ∃ (x5_1 : Int) (x6_1 : Int), v5 = .int .i64 x5_1 ∧ v6 = .int .i64 x6_1 ∧ Aside0 (spec_l23Left.l0 kq l0 a1 x5_1 x6_1 = some r) ∧ Aside0 (kq ≤ k) ∧ Drawn0 w w')
 case atStart => exact ⟨(0), (0), fr_, fr_, H', ⟨Nat.le_refl _⟩, by repeat (first | exact Drawn0.refl _ | apply Drawn0.step)⟩
 case round =>
  clear H'
  try clear p2
  obtain ⟨x5_1, x6_1, rfl, rfl, HA, HK1, ⟨m1, rfl⟩⟩ := hrel
  cases gk with
  | zero => exact absurd HA.out (by simp [spec_l23Left.l0])
  | succ k1 =>
   have H := HA.out
   clear HA
   simp only [spec_l23Left.l0] at H
   by_cases c3 : x6_1 < (l0.length : Int)
   rotate_left
   ·rw [if_neg c3] at H
    have c3b0 : decide (x6_1 < (l0.length : Int)) = false := decide_eq_false c3
    clear c3
    obtain rfl := Option.some.inj H
    go_wp2
    go_ret
    exact ⟨by first | rfl | (simp; done) | (simp [*]; done), by repeat (first | exact Drawn0.refl _ | apply Drawn0.step)⟩

   rw [if_pos c3] at H
   have c3b0 : decide (x6_1 < (l0.length : Int)) = true := dt_ c3
   clear c3
   by_cases c4 : 0 ≤ x6_1
   rotate_left
   ·rw [if_neg c4] at H
    exact absurd H (by simp)
   rw [if_pos c4] at H
   have c4b0 : decide (0 ≤ x6_1) = true := dt_ c4
   clear c4
   by_cases c5 : ((rd_T23 l0 x6_1).f0).toList = a1.toList
   rotate_left
   ·rw [if_neg c5] at H
    have c5b0 : (((rd_T23 l0 x6_1).f0).toList == a1.toList) = false := beq_eq_false_iff_ne.mpr c5
    have c5b1 : (((rd_T23 l0 x6_1).f0).toList != a1.toList) = true := bne_iff_ne.mpr c5
    have H' := ak_ H
    clear H
    have p461 : 0 ≤ (x6_1 : Int) := od_
    have q461 : x6_1 < (l0.length : Int) := od_
    obtain ⟨ad461, e461, hx461_0, hx461_1⟩ := at_T23 HR0.out x6_1 p461 q461
    cases e461
    replace p461 := eq_true p461
    replace q461 := eq_true q461
    go_wp2
    go_roundg k1
    case measure => have := HK1.out; omega
    case rel => exact ⟨(x5_1), (wrap64 (x6_1 + 1)), fr_, fr_, H', ⟨by have := HK1.out; omega⟩, by repeat (first | exact Drawn0.refl _ | apply Drawn0.step)⟩
   rw [if_pos c5] at H
   have c5b0 : (((rd_T23 l0 x6_1).f0).toList == a1.toList) = true := beq_iff_eq.mpr c5
   have c5b1 : (((rd_T23 l0 x6_1).f0).toList != a1.toList) = false := bne_eq_false_iff_eq.mpr c5
   clear c5
   have H' := ak_ H
   clear H
   have p461 : 0 ≤ (x6_1 : Int) := od_
   have q461 : x6_1 < (l0.length : Int) := od_
   obtain ⟨ad461, e461, hx461_0, hx461_1⟩ := at_T23 HR0.out x6_1 p461 q461
   cases e461
   replace p461 := eq_true p461
   replace q461 := eq_true q461
   have p462 : 0 ≤ (x6_1 : Int) := od_
   have q462 : x6_1 < (l0.length : Int) := od_
   obtain ⟨ad462, e462, hx462_0, hx462_1⟩ := at_T23 HR0.out x6_1 p462 q462
   obtain rfl : ad461 = ad462 := (by injection e462)
   replace p462 := eq_true p462
   replace q462 := eq_true q462
   go_wp2
   go_roundg k1
   case measure => have := HK1.out; omega
   case rel => exact ⟨(wrap64 (x5_1 + ((rd_T23 l0 x6_1).f1))), (wrap64 (x6_1 + 1)), fr_, fr_, H', ⟨by have := HK1.out; omega⟩, by repeat (first | exact Drawn0.refl _ | apply Drawn0.step)⟩
/-! ### spec_LeftOf: function 19 -/
def spec_LeftOf.f (k : Nat) (l0 : List (S23)) (a1 : ByteArray) : Option (Int × Int) := (spec_l23Ok.f k l0).bind fun t463 => (if t463 = true then ((spec_IsName.f k a1).bind fun t464 => (if t464 = true then ((spec_l23Left.f k l0 a1).bind fun t465 => (some (t465, 0))) else (some (0, 2)))) else (some (0, 1)))
set_option maxHeartbeats 8000000 in
set_option maxRecDepth 100000 in
theorem spec_LeftOf.calls (k : Nat) (A0 : Option Addr) (c0 : Nat) (l0 : List (S23)) (a1 : ByteArray) (r1 : Int) (r2 : Int) (w : World) (hr0 : Kd.C k23 w A0 l0.length l0) (hc0 : l0.length ≤ c0) (h : spec_LeftOf.f k l0 a1 = some (r1, r2)) :
  Calls Tryd.prog 19 #[.slice A0 l0.length c0, .string a1] w fun e w' => e = .returned (.tuple #[.int .i64 r1, .int .i64 r2]) ∧ Below w.heap.size w w' := by
 have HR0 := ak_ hr0
 have HC0 := ak_ hc0
 clear hr0 hc0
 have HB := ak_ (Below.refl w.heap.size w)
 have H : ((spec_l23Ok.f k l0).bind fun t463 => (if t463 = true then ((spec_IsName.f k a1).bind fun t464 => (if t464 = true then ((spec_l23Left.f k l0 a1).bind fun t465 => (some (t465, 0))) else (some (0, 2)))) else (some (0, 1)))) = some (r1, r2) := h
 clear h
 replace H := ob_ H
 obtain ⟨t463, A30, H⟩ := H
 (try dsimp only at H)
 have A3 := ak_ A30
 clear A30
 by_cases c4 : t463 = true
 rotate_left
 ·replace c4 := Bool.eq_false_iff.mpr c4
  subst c4
  have H1 : (some (0, 1)) = some (r1, r2) := by rw [if_neg (show ¬ (false = true) by decide)] at H; exact H
  clear H
  have H := H1
  clear H1
  simp only [Option.some.injEq, Prod.mk.injEq] at H
  obtain ⟨rfl, rfl⟩ := H
  go_enter Tryd.func19, Tryd.ntmps19
  go_wp2_with (first | ((with_reducible refine gate_callee (f := 81) rfl ?_); refine goesL_ (some 7) rfl rfl Tryd.func81 (by kernel_rfl) rfl #[.slice A0 l0.length c0] rfl ln_ ?_; (with_reducible refine (spec_l23Ok.calls k _ _ l0 false _ (kc_ HR0.out) HC0.out A3.out).mono ?_); rintro e w10 ⟨rfl, hb⟩; refine ⟨_, rfl, ?_⟩; replace HB := ak_ (below_step hb_ hb); skip; clear hb))
  go_ret2
  exact ⟨ew_, hb_⟩

 subst c4
 have H1 : ((spec_IsName.f k a1).bind fun t464 => (if t464 = true then ((spec_l23Left.f k l0 a1).bind fun t465 => (some (t465, 0))) else (some (0, 2)))) = some (r1, r2) := by rw [if_pos rfl] at H; exact H
 clear H
 have H := H1
 clear H1
 replace H := ob_ H
 obtain ⟨t464, A50, H⟩ := H
 (try dsimp only at H)
 have A5 := ak_ A50
 clear A50
 by_cases c6 : t464 = true
 rotate_left
 ·replace c6 := Bool.eq_false_iff.mpr c6
  subst c6
  have H1 : (some (0, 2)) = some (r1, r2) := by rw [if_neg (show ¬ (false = true) by decide)] at H; exact H
  clear H
  have H := H1
  clear H1
  simp only [Option.some.injEq, Prod.mk.injEq] at H
  obtain ⟨rfl, rfl⟩ := H
  go_enter Tryd.func19, Tryd.ntmps19
  go_wp2_with (first | ((with_reducible refine gate_callee (f := 81) rfl ?_); refine goesL_ (some 7) rfl rfl Tryd.func81 (by kernel_rfl) rfl #[.slice A0 l0.length c0] rfl ln_ ?_; (with_reducible refine (spec_l23Ok.calls k _ _ l0 true _ (kc_ HR0.out) HC0.out A3.out).mono ?_); rintro e w9 ⟨rfl, hb⟩; refine ⟨_, rfl, ?_⟩; replace HB := ak_ (below_step hb_ hb); skip; clear hb) | ((with_reducible refine gate_callee (f := 82) rfl ?_); refine goesL_ (some 10) rfl rfl Tryd.func82 (by kernel_rfl) rfl #[.string a1] rfl ln_ ?_; (with_reducible refine (spec_IsName.calls k a1 false _ A5.out).mono ?_); rintro e w' ⟨rfl, ⟨nd, rfl⟩⟩; refine ⟨_, rfl, ?_⟩))
  go_ret2
  exact ⟨ew_, hb_⟩
 subst c6
 have H1 : ((spec_l23Left.f k l0 a1).bind fun t465 => (some (t465, 0))) = some (r1, r2) := by rw [if_pos rfl] at H; exact H
 clear H
 have H := H1
 clear H1
 replace H := ob_ H
 obtain ⟨t465, A70, H⟩ := H
 (try dsimp only at H)
 have A7 := ak_ A70
 clear A70
 simp only [Option.some.injEq, Prod.mk.injEq] at H
 obtain ⟨rfl, rfl⟩ := H
 go_enter Tryd.func19, Tryd.ntmps19
 go_wp2_with (first | ((with_reducible refine gate_callee (f := 81) rfl ?_); refine goesL_ (some 7) rfl rfl Tryd.func81 (by kernel_rfl) rfl #[.slice A0 l0.length c0] rfl ln_ ?_; (with_reducible refine (spec_l23Ok.calls k _ _ l0 true _ (kc_ HR0.out) HC0.out A3.out).mono ?_); rintro e w8 ⟨rfl, hb⟩; refine ⟨_, rfl, ?_⟩; replace HB := ak_ (below_step hb_ hb); skip; clear hb) | ((with_reducible refine gate_callee (f := 82) rfl ?_); refine goesL_ (some 10) rfl rfl Tryd.func82 (by kernel_rfl) rfl #[.string a1] rfl ln_ ?_; (with_reducible refine (spec_IsName.calls k a1 true _ A5.out).mono ?_); rintro e w' ⟨rfl, ⟨nd, rfl⟩⟩; refine ⟨_, rfl, ?_⟩) | ((with_reducible refine gate_callee (f := 83) rfl ?_); refine goesL_ (some 14) rfl rfl Tryd.func83 (by kernel_rfl) rfl #[.slice A0 l0.length c0, .string a1] rfl ln_ ?_; (with_reducible refine (spec_l23Left.calls k _ _ l0 a1 t465 _ ?side1 ?side2 A7.out).mono ?_); (case side1 => exact kc_ (Kd.C_below HR0.out hb_)); (case side2 => exact HC0.out); rintro e w' ⟨rfl, ⟨nd, rfl⟩⟩; refine ⟨_, rfl, ?_⟩))
 go_ret2
 exact ⟨ew_, hb_⟩
/-! ### spec_DrawThrowShort: function 20 -/
def spec_DrawThrowShort.f (k : Nat) (l0 : List Int) : Option ((List (S23)) × Int) := (spec_l00From.f l0).bind fun bt466 => ((spec_l23Bent.f k bt466.1 bt466.2.1 bt466.2.2).bind fun bt470 => ((spec_l00Src_one.f bt466.1 bt470.2.1 bt470.2.2 8).bind fun bt475 => (if bt475.1 = true then ((spec_l00Src_among.f bt466.1 bt475.2.1 bt475.2.2 (([(-1), 0, 100000, 100001] : List Int))).bind fun bt481 => (some (bt470.1, bt481.1))) else ((spec_l00Src_pick.f bt466.1 bt475.2.1 bt475.2.2 500).bind fun bt484 => (some (bt470.1, bt484.1))))))
set_option maxHeartbeats 8000000 in
set_option maxRecDepth 100000 in
theorem spec_DrawThrowShort.calls (k : Nat) (A0 : Option Addr) (c0 : Nat) (l0 : List Int) (r1 : List (S23)) (r2 : Int) (w : World) (hr0 : Kd.C (Kd.int .u8) w A0 l0.length l0) (hc0 : l0.length ≤ c0) (h : spec_DrawThrowShort.f k l0 = some (r1, r2)) :
  Calls Tryd.prog 20 #[.slice A0 l0.length c0] w fun e w' => ∃ v0_ : Value, e = .returned (.tuple #[v0_, .int .i64 r2]) ∧ Kd.R k23 23 w' w.heap.size (fun _ => True) v0_ r1 ∧ Below w.heap.size w w' := by
 have HR0 := ak_ hr0
 have HC0 := ak_ hc0
 clear hr0 hc0
 have HB := ak_ (Below.refl w.heap.size w)
 have H : ((spec_l00From.f l0).bind fun bt466 => ((spec_l23Bent.f k bt466.1 bt466.2.1 bt466.2.2).bind fun bt470 => ((spec_l00Src_one.f bt466.1 bt470.2.1 bt470.2.2 8).bind fun bt475 => (if bt475.1 = true then ((spec_l00Src_among.f bt466.1 bt475.2.1 bt475.2.2 (([(-1), 0, 100000, 100001] : List Int))).bind fun bt481 => (some (bt470.1, bt481.1))) else ((spec_l00Src_pick.f bt466.1 bt475.2.1 bt475.2.2 500).bind fun bt484 => (some (bt470.1, bt484.1))))))) = some (r1, r2) := h
 clear h
 replace H := ob_ H
 obtain ⟨⟨t466, t467, t468⟩, A20, H⟩ := H
 (try dsimp only at H)
 have A2 := ak_ A20
 clear A20
 replace H := ob_ H
 obtain ⟨⟨t470, t473, t474⟩, A30, H⟩ := H
 (try dsimp only at H)
 have A3 := ak_ A30
 clear A30
 replace H := ob_ H
 obtain ⟨⟨t475, t476, t477⟩, A40, H⟩ := H
 (try dsimp only at H)
 have A4 := ak_ A40
 clear A40
 by_cases c5 : t475 = true
 rotate_left
 ·replace c5 := Bool.eq_false_iff.mpr c5
  subst c5
  have H1 : ((spec_l00Src_pick.f t466 t476 t477 500).bind fun bt484 => (some (t470, bt484.1))) = some (r1, r2) := by rw [if_neg (show ¬ (false = true) by decide)] at H; exact H
  clear H
  have H := H1
  clear H1
  replace H := ob_ H
  obtain ⟨⟨t484, t485, t486⟩, A140, H⟩ := H
  (try dsimp only at H)
  have A14 := ak_ A140
  clear A140
  simp only [Option.some.injEq, Prod.mk.injEq] at H
  obtain ⟨rfl, rfl⟩ := H
  go_enter Tryd.func20, Tryd.ntmps20
  go_wp2_with (first | ((with_reducible refine gate_callee (f := 76) rfl ?_); refine goesL_ (some 7) rfl rfl Tryd.func76 (by kernel_rfl) rfl #[.slice A0 l0.length c0] rfl ln_ ?_; (with_reducible refine (spec_l00From.calls _ _ l0 t466 t467 t468 w _ ?side1 ?side2 ?side3 A2.out).mono ?_); (case side1 => exact hb_); (case side2 => exact HR0.out); (case side3 => exact HC0.out); rintro e w15 ⟨g469, rfl, hi, hb, hb2⟩; refine ⟨_, rfl, ?_⟩; replace HB := ak_ (hb); have HI469 := ak_ (hi); skip; clear hb hb2 hi) | ((with_reducible refine gate_callee (f := 77) rfl ?_); refine goesL_ (some 9) rfl rfl Tryd.func77 (by kernel_rfl) rfl #[.pointer (some ⟨g469, 0, none⟩)] rfl ln_ ?_; (with_reducible refine (spec_l23Bent.calls k g469 t466 t467 t468 t470 t473 t474 w _ ?side1 ?side2 A3.out).mono ?_); (case side1 => exact isS155_a HI469); (case side2 => exact hz_ (IsS155.ge HI469.out)); rintro e w16 ⟨v471, rfl, ho0, hi, hb, hk⟩; refine ⟨_, rfl, ?_⟩; have HO472 := ak_ (Kd.R_lower ho0 (below_size (hz_ (IsS155.ge HI469.out)))); replace HB := ak_ (hb); replace HI469 := ak_ (hi); skip; clear hb hk hi ho0) | ((with_reducible refine gate_callee (f := 84) rfl ?_); refine goesL_ (some 11) rfl rfl Tryd.func84 (by kernel_rfl) rfl #[.pointer (some ⟨g469, 0, none⟩), .int .i64 8] rfl ln_ ?_; (with_reducible refine (spec_l00Src_one.calls g469 t466 t473 t474 8 false t476 t477 w _ ?side1 ?side2 A4.out).mono ?_); (case side1 => exact isS155_a HI469); (case side2 => exact hz_ (IsS155.ge HI469.out)); rintro e w17 ⟨rfl, hi, hb, hk⟩; refine ⟨_, rfl, ?_⟩; replace HO472 := ak_ (Kd.R_mono (Kd.R_keep (IsS155.apart (show IsS155 w _ g469 t466 t473 t474 from isS155_a HI469) (kr_ HO472) (by decide)) hk (fun _ h => h.2)) (fun _ h => h.1)); replace HB := ak_ (hb); replace HI469 := ak_ (hi); skip; clear hb hk hi) | ((with_reducible refine gate_callee (f := 86) rfl ?_); refine goesL_ (some 18) rfl rfl Tryd.func86 (by kernel_rfl) rfl #[.pointer (some ⟨g469, 0, none⟩), .int .i64 500] rfl ln_ ?_; (with_reducible refine (spec_l00Src_pick.calls g469 t466 t476 t477 500 t484 t485 t486 w _ ?side1 ?side2 A14.out).mono ?_); (case side1 => exact isS155_a HI469); (case side2 => exact hz_ (IsS155.ge HI469.out)); rintro e w18 ⟨rfl, hi, hb, hk⟩; refine ⟨_, rfl, ?_⟩; replace HO472 := ak_ (Kd.R_mono (Kd.R_keep (IsS155.apart (show IsS155 w _ g469 t466 t476 t477 from isS155_a HI469) (kr_ HO472) (by decide)) hk (fun _ h => h.2)) (fun _ h => h.1)); replace HB := ak_ (hb); replace HI469 := ak_ (hi); skip; clear hb hk hi))
  go_ret2
  exact ⟨_, ew_, by (with_reducible repeat (first | apply Kd.R_alloc | apply Kd.R_drewN | apply Kd.R_drew)); exact HO472.out, hz_ (IsS155.ge HI469.out)⟩

 subst c5
 have H1 : ((spec_l00Src_among.f t466 t476 t477 (([(-1), 0, 100000, 100001] : List Int))).bind fun bt481 => (some (t470, bt481.1))) = some (r1, r2) := by rw [if_pos rfl] at H; exact H
 clear H
 have H := H1
 clear H1
 obtain ⟨y478, hy478⟩ : ∃ y_ : List Int, y_ = (([(-1), 0, 100000, 100001] : List Int)) := ⟨_, rfl⟩
 replace H : ((spec_l00Src_among.f t466 t476 t477 y478).bind fun bt481 => (some (t470, bt481.1))) = some (r1, r2) := by first | (rw [hy478]; with_reducible exact H) | (have H2_ := (Option.bind_some _ _).symm.trans H; rw [hy478]; with_reducible exact H2_) | (have H2_ := (Option.bind_some _ _).symm.trans H; with_reducible exact H2_) | with_reducible exact H | (rw [hy478]; exact H) | exact H
 have Ny478 := ak_ hy478
 clear hy478
 replace H := ob_ H
 obtain ⟨⟨t481, t482, t483⟩, A60, H⟩ := H
 (try dsimp only at H)
 have A6 := ak_ A60
 clear A60
 simp only [Option.some.injEq, Prod.mk.injEq] at H
 obtain ⟨rfl, rfl⟩ := H
 go_enter Tryd.func20, Tryd.ntmps20
 go_wp2_with (first | ((with_reducible refine gate_callee (f := 76) rfl ?_); refine goesL_ (some 7) rfl rfl Tryd.func76 (by kernel_rfl) rfl #[.slice A0 l0.length c0] rfl ln_ ?_; (with_reducible refine (spec_l00From.calls _ _ l0 t466 t467 t468 w _ ?side1 ?side2 ?side3 A2.out).mono ?_); (case side1 => exact hb_); (case side2 => exact HR0.out); (case side3 => exact HC0.out); rintro e w7 ⟨g469, rfl, hi, hb, hb2⟩; refine ⟨_, rfl, ?_⟩; replace HB := ak_ (hb); have HI469 := ak_ (hi); skip; clear hb hb2 hi) | ((with_reducible refine gate_callee (f := 77) rfl ?_); refine goesL_ (some 9) rfl rfl Tryd.func77 (by kernel_rfl) rfl #[.pointer (some ⟨g469, 0, none⟩)] rfl ln_ ?_; (with_reducible refine (spec_l23Bent.calls k g469 t466 t467 t468 t470 t473 t474 w _ ?side1 ?side2 A3.out).mono ?_); (case side1 => exact isS155_a HI469); (case side2 => exact hz_ (IsS155.ge HI469.out)); rintro e w8 ⟨v471, rfl, ho0, hi, hb, hk⟩; refine ⟨_, rfl, ?_⟩; have HO472 := ak_ (Kd.R_lower ho0 (below_size (hz_ (IsS155.ge HI469.out)))); replace HB := ak_ (hb); replace HI469 := ak_ (hi); skip; clear hb hk hi ho0) | ((with_reducible refine gate_callee (f := 84) rfl ?_); refine goesL_ (some 11) rfl rfl Tryd.func84 (by kernel_rfl) rfl #[.pointer (some ⟨g469, 0, none⟩), .int .i64 8] rfl ln_ ?_; (with_reducible refine (spec_l00Src_one.calls g469 t466 t473 t474 8 true t476 t477 w _ ?side1 ?side2 A4.out).mono ?_); (case side1 => exact isS155_a HI469); (case side2 => exact hz_ (IsS155.ge HI469.out)); rintro e w9 ⟨rfl, hi, hb, hk⟩; refine ⟨_, rfl, ?_⟩; replace HO472 := ak_ (Kd.R_mono (Kd.R_keep (IsS155.apart (show IsS155 w _ g469 t466 t473 t474 from isS155_a HI469) (kr_ HO472) (by decide)) hk (fun _ h => h.2)) (fun _ h => h.1)); replace HB := ak_ (hb); replace HI469 := ak_ (hi); skip; clear hb hk hi) | ((with_reducible refine gate_dst (N := 14) rfl ?_); refine Kd.R_lit (Kd.int .i64) _ 2 ?hg (N := 14) ?hd (xs := ([(-1), 0, 100000, 100001] : List Int)) (inner := [.int .i64 (-1), .int .i64 0, .int .i64 100000, .int .i64 100001]) (ok := fun _ => True) (okp := fun _ => True) ?hr ?hp (fun _ hk => hk) trivial (Below.refl _ _) (Nat.le_refl _) (by simp) ?_; (case hd => rfl); (case hg => rfl); (case hr => first | (go_simp; done) | (go_simp; rfl)); (case hp => exact (Reps.one (show Kd.M (Kd.int .i64) _ _ _ (-1) [.int .i64 (-1)] from rfl) (Reps.one (show Kd.M (Kd.int .i64) _ _ _ 0 [.int .i64 0] from rfl) (Reps.one (show Kd.M (Kd.int .i64) _ _ _ 100000 [.int .i64 100000] from rfl) (Reps.one (show Kd.M (Kd.int .i64) _ _ _ 100001 [.int .i64 100001] from rfl) (Reps.none _ _)))))); intro v479 w10 ho11 hb hg_ hnew_; clear hg_ hnew_; (first | rw [← Ny478.out] at ho11 | (simp only [Int.reduceToNat] at ho11; rw [← Ny478.out] at ho11)); have n0_ := ak_ (Kd.R_below (kr_ HO472) hb); have n1_ := ak_ (Kd.R_lower ho11 (below_size (hz_ (IsS155.ge HI469.out)))); have n2_ := ak_ (IsS155.below (isS155_a HI469) hb); have n3_ := ak_ (below_step (hz_ (IsS155.ge HI469.out)) hb); clear HO472 HI469 HB; have HO472 := n0_; have HO480 := n1_; have HI469 := n2_; have HB := n3_; clear n0_ n1_ n2_ n3_; clear hb ho11; obtain ⟨Ao12, co12, eo12⟩ := Kd.R_slice HO480.out; subst eo12) | ((with_reducible refine gate_callee (f := 85) rfl ?_); refine goesL_ (some 15) rfl rfl Tryd.func85 (by kernel_rfl) rfl #[.pointer (some ⟨g469, 0, none⟩), .slice Ao12 y478.length co12] rfl ln_ ?_; (with_reducible refine (spec_l00Src_among.calls g469 t466 t476 t477 _ _ y478 t481 t482 t483 w _ ?side1 ?side2 ?side3 ?side4 ?side5 A6.out).mono ?_); (case side1 => exact isS155_a HI469); (case side2 => exact hz_ (IsS155.ge HI469.out)); (case side3 => repeat (first | exact (Kd.R_reads' HO480.out).2.2 | (with_reducible refine Kd.C_alloc ?_ _) | (with_reducible refine Kd.C_drewN ?_ _) | (with_reducible refine Kd.C_drew ?_))); (case side4 => exact (Kd.R_reads' HO480.out).2.1); (case side5 => exact far_slice (IsS155.own_ne HI469.out HO480.out (by decide))); rintro e w13 ⟨rfl, hi, hb, hk⟩; refine ⟨_, rfl, ?_⟩; replace HO472 := ak_ (Kd.R_mono (Kd.R_keep (IsS155.apart (show IsS155 w _ g469 t466 t476 t477 from isS155_a HI469) (kr_ HO472) (by decide)) hk (fun _ h => h.2)) (fun _ h => h.1)); replace HO480 := ak_ (Kd.R_mono (Kd.R_keep (IsS155.apart (show IsS155 w _ g469 t466 t476 t477 from isS155_a HI469) (kr_ HO480) (by decide)) hk (fun _ h => h.2)) (fun _ h => h.1)); replace HB := ak_ (hb); replace HI469 := ak_ (hi); skip; clear hb hk hi))
 go_ret2
 exact ⟨_, ew_, by (with_reducible repeat (first | apply Kd.R_alloc | apply Kd.R_drewN | apply Kd.R_drew)); exact HO472.out, hz_ (IsS155.ge HI469.out)⟩
/-! ### impl_ThrowShort: function 21 -/
def impl_ThrowShort.l0 : Nat → Int → List (S23) → List (S23) → Int → Int → Option ((List (S23)) × Int)
 | 0, _, _, _, _, _ => none
 | k + 1, x1, x6, x16, x17, x18 => if x18 < x17 then (if 0 ≤ x18 then (if x18 < (x16.length : Int) then (if ((rd_T23 x16 x18).f1) ≥ x1 then (if x6.length < 5864062014805 then (impl_ThrowShort.l0 k x1 (x6 ++ [(⟨(rd_T23 x16 x18).f0, (rd_T23 x16 x18).f1⟩ : S23)]) x16 x17 (wrap64 (x18 + 1))) else (none)) else (impl_ThrowShort.l0 k x1 x6 x16 x17 (wrap64 (x18 + 1)))) else (none)) else (none)) else (some (x6, 0))
def impl_ThrowShort.f (k : Nat) (l0 : List (S23)) (a1 : Int) : Option ((List (S23)) × Int) := (impl_ValidStockCoils.f k l0).bind fun t487 => (if t487 = true then ((impl_within.f a1 0 100000).bind fun t488 => (if t488 = true then (impl_ThrowShort.l0 k a1 (([] : List (S23))) l0 (l0.length : Int) 0) else (some (([] : List (S23)), 2)))) else (some (([] : List (S23)), 1)))
set_option maxHeartbeats 8000000 in
set_option maxRecDepth 100000 in
theorem impl_ThrowShort.calls (k : Nat) (A0 : Option Addr) (c0 : Nat) (l0 : List (S23)) (a1 : Int) (r1 : List (S23)) (r2 : Int) (w : World) (hr0 : Kd.C k23 w A0 l0.length l0) (hc0 : l0.length ≤ c0) (h : impl_ThrowShort.f k l0 a1 = some (r1, r2)) :
  Calls Tryd.prog 21 #[.slice A0 l0.length c0, .int .i64 a1] w fun e w' => ∃ v0_ : Value, e = .returned (.tuple #[v0_, .int .i64 r2]) ∧ Kd.R k23 23 w' w.heap.size (fun _ => True) v0_ r1 ∧ Below w.heap.size w w' := by
 have hu23 := Tryd.underlying23
 have HR0 := ak_ hr0
 have HC0 := ak_ hc0
 clear hr0 hc0
 have HB := ak_ (Below.refl w.heap.size w)
 have H : ((impl_ValidStockCoils.f k l0).bind fun t487 => (if t487 = true then ((impl_within.f a1 0 100000).bind fun t488 => (if t488 = true then (impl_ThrowShort.l0 k a1 (([] : List (S23))) l0 (l0.length : Int) 0) else (some (([] : List (S23)), 2)))) else (some (([] : List (S23)), 1)))) = some (r1, r2) := h
 clear h
 replace H := ob_ H
 obtain ⟨t487, A30, H⟩ := H
 (try dsimp only at H)
 have A3 := ak_ A30
 clear A30
 by_cases c4 : t487 = true
 rotate_left
 ·replace c4 := Bool.eq_false_iff.mpr c4
  subst c4
  have H1 : (some (([] : List (S23)), 1)) = some (r1, r2) := by rw [if_neg (show ¬ (false = true) by decide)] at H; exact H
  clear H
  have H := H1
  clear H1
  simp only [Option.some.injEq, Prod.mk.injEq] at H
  obtain ⟨rfl, rfl⟩ := H
  go_enter Tryd.func21, Tryd.ntmps21
  go_wp2_with (first | ((with_reducible refine gate_callee (f := 33) rfl ?_); refine goesL_ (some 10) rfl rfl Tryd.func33 (by kernel_rfl) rfl #[.slice A0 l0.length c0] rfl ln_ ?_; (with_reducible refine (impl_ValidStockCoils.calls k _ _ l0 false _ (kc_ HR0.out) HC0.out A3.out).mono ?_); rintro e w21 ⟨rfl, hb⟩; refine ⟨_, rfl, ?_⟩; replace HB := ak_ (below_step hb_ hb); skip; clear hb))
  go_ret2
  exact ⟨_, ew_, by first | exact Kd.R_nil _ _ _ _ _ | exact Kd.N_nil _ _ _ _ _ | exact Kd.V_nil _ _ _ _ _ | exact Kd.Q_nil _ _ _ _ _ | exact Kd.S_nil _ _ _ _ _, hb_⟩

 subst c4
 have H1 : ((impl_within.f a1 0 100000).bind fun t488 => (if t488 = true then (impl_ThrowShort.l0 k a1 (([] : List (S23))) l0 (l0.length : Int) 0) else (some (([] : List (S23)), 2)))) = some (r1, r2) := by rw [if_pos rfl] at H; exact H
 clear H
 have H := H1
 clear H1
 replace H := ob_ H
 obtain ⟨t488, A50, H⟩ := H
 (try dsimp only at H)
 have A5 := ak_ A50
 clear A50
 by_cases c6 : t488 = true
 rotate_left
 ·replace c6 := Bool.eq_false_iff.mpr c6
  subst c6
  have H1 : (some (([] : List (S23)), 2)) = some (r1, r2) := by rw [if_neg (show ¬ (false = true) by decide)] at H; exact H
  clear H
  have H := H1
  clear H1
  simp only [Option.some.injEq, Prod.mk.injEq] at H
  obtain ⟨rfl, rfl⟩ := H
  go_enter Tryd.func21, Tryd.ntmps21
  go_wp2_with (first | ((with_reducible refine gate_callee (f := 33) rfl ?_); refine goesL_ (some 10) rfl rfl Tryd.func33 (by kernel_rfl) rfl #[.slice A0 l0.length c0] rfl ln_ ?_; (with_reducible refine (impl_ValidStockCoils.calls k _ _ l0 true _ (kc_ HR0.out) HC0.out A3.out).mono ?_); rintro e w20 ⟨rfl, hb⟩; refine ⟨_, rfl, ?_⟩; replace HB := ak_ (below_step hb_ hb); skip; clear hb) | ((with_reducible refine gate_callee (f := 87) rfl ?_); refine goesL_ (some 13) rfl rfl Tryd.func87 (by kernel_rfl) rfl #[.int .i64 a1, .int .i64 0, .int .i64 100000] rfl ln_ ?_; (with_reducible refine (impl_within.calls a1 0 100000 false _ A5.out).mono ?_); rintro e w' ⟨rfl, ⟨nd, rfl⟩⟩; refine ⟨_, rfl, ?_⟩))
  go_ret2
  exact ⟨_, ew_, by first | exact Kd.R_nil _ _ _ _ _ | exact Kd.N_nil _ _ _ _ _ | exact Kd.V_nil _ _ _ _ _ | exact Kd.Q_nil _ _ _ _ _ | exact Kd.S_nil _ _ _ _ _, hb_⟩
 subst c6
 have H1 : (impl_ThrowShort.l0 k a1 (([] : List (S23))) l0 (l0.length : Int) 0) = some (r1, r2) := by rw [if_pos rfl] at H; exact H
 clear H
 have H := H1
 clear H1
 obtain ⟨y489, hy489⟩ : ∃ y_ : List (S23), y_ = (([] : List (S23))) := ⟨_, rfl⟩
 replace H : (impl_ThrowShort.l0 k a1 y489 l0 (l0.length : Int) 0) = some (r1, r2) := by first | (rw [hy489]; with_reducible exact H) | (have H2_ := (Option.bind_some _ _).symm.trans H; rw [hy489]; with_reducible exact H2_) | (have H2_ := (Option.bind_some _ _).symm.trans H; with_reducible exact H2_) | with_reducible exact H | (rw [hy489]; exact H) | exact H
 have Ny489 := ak_ hy489
 clear hy489
 have H' := ak_ H
 clear H
 go_enter Tryd.func21, Tryd.ntmps21
 go_wp2_with (first | ((with_reducible refine gate_callee (f := 33) rfl ?_); refine goesL_ (some 10) rfl rfl Tryd.func33 (by kernel_rfl) rfl #[.slice A0 l0.length c0] rfl ln_ ?_; (with_reducible refine (impl_ValidStockCoils.calls k _ _ l0 true _ (kc_ HR0.out) HC0.out A3.out).mono ?_); rintro e w7 ⟨rfl, hb⟩; refine ⟨_, rfl, ?_⟩; replace HB := ak_ (below_step hb_ hb); skip; clear hb) | ((with_reducible refine gate_callee (f := 87) rfl ?_); refine goesL_ (some 13) rfl rfl Tryd.func87 (by kernel_rfl) rfl #[.int .i64 a1, .int .i64 0, .int .i64 100000] rfl ln_ ?_; (with_reducible refine (impl_within.calls a1 0 100000 true _ A5.out).mono ?_); rintro e w' ⟨rfl, ⟨nd, rfl⟩⟩; refine ⟨_, rfl, ?_⟩) | ((with_reducible refine gate_dst (N := 15) rfl ?_); refine Kd.R_lit k23 _ 23 ?hg (N := 15) ?hd (xs := ([] : List (S23))) (inner := []) (ok := fun _ => True) (okp := fun _ => True) ?hr ?hp (fun _ hk => hk) trivial (Below.refl _ _) (Nat.le_refl _) (by simp) ?_; (case hd => rfl); (case hg => rfl); (case hr => first | (go_simp; done) | (go_simp; rfl)); (case hp => exact (Reps.none _ _)); intro v490 w8 ho9 hb hg_ hnew_; clear hg_ hnew_; (first | rw [← Ny489.out] at ho9 | (simp only [Int.reduceToNat] at ho9; rw [← Ny489.out] at ho9)); have HO491 := ak_ (Kd.R_lower ho9 (below_size hb_)); replace HB := ak_ (below_step hb_ hb); skip; clear hb ho9))
 go_loopg [6, 18] k (fun kq v6 v18 w' => ∃ (x6_1 : List (S23)) (x18_1 : Int), v18 = .int .i64 x18_1 ∧ Aside0 (impl_ThrowShort.l0 kq a1 x6_1 l0 (l0.length : Int) x18_1 = some (r1, r2)) ∧ Aside0 (kq ≤ k) ∧ Aside0 (Kd.R k23 23 w' w.heap.size (fun _ => True) v6 x6_1) ∧ Aside0 (Below w.heap.size w w'))
 case atStart => exact ⟨(y489), (0), fr_, H', ⟨Nat.le_refl _⟩, ⟨kr_ HO491⟩, ⟨hb_⟩⟩
 case round =>
  clear H'
  try clear c2
  try clear p2
  try clear c3
  try clear c4
  try clear c6
  try clear c8
  obtain ⟨x6_1, x18_1, rfl, HA, HK1, HO_6, HB⟩ := hrel
  cases gk with
  | zero => exact absurd HA.out (by simp [impl_ThrowShort.l0])
  | succ k1 =>
   have H := HA.out
   clear HA
   simp only [impl_ThrowShort.l0] at H
   by_cases c10 : x18_1 < (l0.length : Int)
   rotate_left
   ·rw [if_neg c10] at H
    have c10b0 : decide (x18_1 < (l0.length : Int)) = false := decide_eq_false c10
    clear c10
    simp only [Option.some.injEq, Prod.mk.injEq] at H
    obtain ⟨rfl, rfl⟩ := H
    go_wp2
    go_ret2
    exact ⟨_, ew_, by (with_reducible repeat (first | apply Kd.R_alloc | apply Kd.R_drewN | apply Kd.R_drew)); exact HO_6.out, hb_⟩
   rw [if_pos c10] at H
   have c10b0 : decide (x18_1 < (l0.length : Int)) = true := dt_ c10
   clear c10
   by_cases c11 : 0 ≤ x18_1
   rotate_left
   ·rw [if_neg c11] at H
    exact absurd H (by simp)
   rw [if_pos c11] at H
   have c11b0 : decide (0 ≤ x18_1) = true := dt_ c11
   clear c11
   by_cases c12 : x18_1 < (l0.length : Int)
   rotate_left
   ·rw [if_neg c12] at H
    exact absurd H (by simp)
   rw [if_pos c12] at H
   have c12b0 : decide (x18_1 < (l0.length : Int)) = true := dt_ c12
   clear c12
   by_cases c13 : ((rd_T23 l0 x18_1).f1) ≥ a1
   rotate_left
   ·rw [if_neg c13] at H
    have c13b0 : decide (a1 ≤ ((rd_T23 l0 x18_1).f1)) = false := decide_eq_false c13
    clear c13
    have H' := ak_ H
    clear H
    have p492 : 0 ≤ (x18_1 : Int) := od_
    have q492 : x18_1 < (l0.length : Int) := od_
    obtain ⟨ad492, e492, hx492_0, hx492_1⟩ := at_T23 HR0.out x18_1 p492 q492
    cases e492
    replace hx492_0 := cq_ HB hx492_0
    replace hx492_1 := cq_ HB hx492_1
    replace p492 := eq_true p492
    replace q492 := eq_true q492
    go_wp2_with (first | ((with_reducible refine gate_dst (N := 8) rfl ?_); refine box_event ?hg (N := 8) ?hd (cs := #[.string (⟨#[]⟩ : ByteArray), .int .i64 0]) (t := 23) ?hr ?_; (case hd => rfl); (case hg => rfl); (case hr => first | (go_simp; done) | (go_simp; rfl)); intro gb493 hg w18 hbox hb; replace HO_6 := ak_ (Kd.R_below (Kd.R_elderB (kr_ HO_6) gb493 (Nat.le_of_eq hg.symm)) hb); have BK493 := ak_ (hbox); have GW493 := ak_ ((by rw [hg]; exact (below_size hb_) : w.heap.size ≤ gb493)); have GE493 := ak_ ((by rw [hg]; exact (below_size hb_) : w.heap.size ≤ gb493)); replace HB := ak_ (below_step hb_ hb); skip; clear hb hbox hg; have hcz19_0 : w18.cell? ⟨gb493, 0, none⟩ = some (.string (⟨#[]⟩ : ByteArray)) := (blk_cell BK493.out 0).trans rfl; have hcz19_1 : w18.cell? ⟨gb493, 1, none⟩ = some (.int .i64 0) := (blk_cell BK493.out 1).trans rfl; have hfz19_0 := blk_frozen BK493.out 0; have hfz19_1 := blk_frozen BK493.out 1))
    go_roundg k1
    case measure => have := HK1.out; omega
    case rel => exact ⟨(x6_1), (wrap64 (x18_1 + 1)), fr_, H', ⟨by have := HK1.out; omega⟩, ⟨by (with_reducible repeat (first | apply Kd.R_alloc | apply Kd.R_drewN | apply Kd.R_drew)); exact Kd.R_mono (Kd.R_far (p := ⟨gb493, 1, none⟩) (Kd.R_far (p := ⟨gb493, 0, none⟩) (Kd.R_mono HO_6.out (fun k_ hk => (⟨hk, hk.2⟩ : _ ∧ k_ ≠ gb493))) (fun _ hk => hk.2) (.string ((rd_T23 l0 x18_1).f0))) (fun _ hk => hk.2) (.int .i64 ((rd_T23 l0 x18_1).f1))) (fun _ hk => trivial)⟩, ⟨(hg_ GE493)⟩⟩
   rw [if_pos c13] at H
   have c13b0 : decide (a1 ≤ ((rd_T23 l0 x18_1).f1)) = true := dt_ c13
   clear c13
   by_cases c14 : x6_1.length < 5864062014805
   rotate_left
   ·rw [if_neg c14] at H
    exact absurd H (by simp)
   rw [if_pos c14] at H
   have LMc14 := ak_ c14
   clear c14
   obtain ⟨y494, hy494⟩ : ∃ y_ : List (S23), y_ = (x6_1 ++ [(⟨(rd_T23 l0 x18_1).f0, (rd_T23 l0 x18_1).f1⟩ : S23)]) := ⟨_, rfl⟩
   replace H : (impl_ThrowShort.l0 k1 a1 y494 l0 (l0.length : Int) (wrap64 (x18_1 + 1))) = some (r1, r2) := by first | (rw [hy494]; with_reducible exact H) | (have H2_ := (Option.bind_some _ _).symm.trans H; rw [hy494]; with_reducible exact H2_) | (have H2_ := (Option.bind_some _ _).symm.trans H; with_reducible exact H2_) | with_reducible exact H | (rw [hy494]; exact H) | exact H
   have Ny494 := ak_ hy494
   clear hy494
   have H' := ak_ H
   clear H
   have p492 : 0 ≤ (x18_1 : Int) := od_
   have q492 : x18_1 < (l0.length : Int) := od_
   obtain ⟨ad492, e492, hx492_0, hx492_1⟩ := at_T23 HR0.out x18_1 p492 q492
   cases e492
   replace hx492_0 := cq_ HB hx492_0
   replace hx492_1 := cq_ HB hx492_1
   replace p492 := eq_true p492
   replace q492 := eq_true q492
   go_wp2_with (first | ((with_reducible refine gate_dst (N := 8) rfl ?_); refine box_event ?hg (N := 8) ?hd (cs := #[.string (⟨#[]⟩ : ByteArray), .int .i64 0]) (t := 23) ?hr ?_; (case hd => rfl); (case hg => rfl); (case hr => first | (go_simp; done) | (go_simp; rfl)); intro gb493 hg w15 hbox hb; replace HO_6 := ak_ (Kd.R_below (Kd.R_elderB (kr_ HO_6) gb493 (Nat.le_of_eq hg.symm)) hb); have BK493 := ak_ (hbox); have GW493 := ak_ ((by rw [hg]; exact (below_size hb_) : w.heap.size ≤ gb493)); have GE493 := ak_ ((by rw [hg]; exact (below_size hb_) : w.heap.size ≤ gb493)); replace HB := ak_ (below_step hb_ hb); skip; clear hb hbox hg; have hcz16_0 : w15.cell? ⟨gb493, 0, none⟩ = some (.string (⟨#[]⟩ : ByteArray)) := (blk_cell BK493.out 0).trans rfl; have hcz16_1 : w15.cell? ⟨gb493, 1, none⟩ = some (.int .i64 0) := (blk_cell BK493.out 1).trans rfl; have hfz16_0 := blk_frozen BK493.out 0; have hfz16_1 := blk_frozen BK493.out 1) | ((with_reducible refine gate_builtin (b := .append) (xs := #[.tmp 26, .tmp 28]) rfl ?_); at_builtin; refine Kd.R_append k23 (w0 := w) w.heap.size rfl (.tmp 26) (.tmp 28) 30 23 (.agg #[(.string ⟨#[]⟩), (.int .i64 0)]) 24 rfl Tryd.underlying30 info23 rfl (by decide) (by omega) u6 x6_1 (⟨(rd_T23 l0 x18_1).f0, (rd_T23 l0 x18_1).f1⟩ : S23) [.string ((rd_T23 l0 x18_1).f0), .int .i64 ((rd_T23 l0 x18_1).f1)] (fun k_ => k_ ≠ gb493) (fun _ => False) rfl (by first | (go_simp; done) | (go_simp; rfl)) ?aP (fun _ hk => hk.elim) ?aF ?aO ?aB ?aS ?aL ?_; (case aP => exact k23_mkM _ _ _ (⟨(rd_T23 l0 x18_1).f0, (rd_T23 l0 x18_1).f1⟩ : S23)); (case aB => exact (hg_ GE493)); (case aF => exact (fun k_ hk => Kd.freshB (g := gb493) (o := .cells #[.string ((rd_T23 l0 x18_1).f0), .int .i64 ((rd_T23 l0 x18_1).f1)] 23 (0, 0)) (by (with_reducible repeat (first | refine blk_drewN ?_ _ | refine blk_drew ?_ | refine blk_alloc ?_ _)); refine blk_put (cs := #[.string ((rd_T23 l0 x18_1).f0), .int .i64 0]) ?_ 1 _ rfl; (with_reducible repeat (first | refine blk_drewN ?_ _ | refine blk_drew ?_ | refine blk_alloc ?_ _)); refine blk_put (cs := #[.string (⟨#[]⟩ : ByteArray), .int .i64 0]) ?_ 0 _ rfl; (with_reducible repeat (first | refine blk_drewN ?_ _ | refine blk_drew ?_ | refine blk_alloc ?_ _)); exact BK493.out) k_ hk)); (case aO => exact (by (with_reducible repeat (first | apply Kd.R_alloc | apply Kd.R_drewN | apply Kd.R_drew)); exact Kd.R_mono (Kd.R_far (p := ⟨gb493, 1, none⟩) (Kd.R_far (p := ⟨gb493, 0, none⟩) (Kd.R_mono HO_6.out (fun k_ hk => (⟨hk, hk.2⟩ : _ ∧ k_ ≠ gb493))) (fun _ hk => hk.2) (.string ((rd_T23 l0 x18_1).f0))) (fun _ hk => hk.2) (.int .i64 ((rd_T23 l0 x18_1).f1))) (fun _ hk => hk.1.2))); (case aS => exact (below_size (hg_ GE493))); (case aL => have := LMc14.out; omega); intro v495 w17 ho hb hg hat; rw [← Ny494.out] at ho; replace BK493 := ak_ (blk_grown (g := gb493) (o := .cells #[.string ((rd_T23 l0 x18_1).f0), .int .i64 ((rd_T23 l0 x18_1).f1)] 23 (0, 0)) (by (with_reducible repeat (first | refine blk_drewN ?_ _ | refine blk_drew ?_ | refine blk_alloc ?_ _)); refine blk_put (cs := #[.string ((rd_T23 l0 x18_1).f0), .int .i64 0]) ?_ 1 _ rfl; (with_reducible repeat (first | refine blk_drewN ?_ _ | refine blk_drew ?_ | refine blk_alloc ?_ _)); refine blk_put (cs := #[.string (⟨#[]⟩ : ByteArray), .int .i64 0]) ?_ 0 _ rfl; (with_reducible repeat (first | refine blk_drewN ?_ _ | refine blk_drew ?_ | refine blk_alloc ?_ _)); exact BK493.out) hg (Kd.R_away HO_6.out (fun _ hk => hk.2))); replace HB := ak_ (hb); have HO496 := ak_ (ho); clear HO_6; clear ho hb hg hat))
   go_roundg k1
   case measure => have := HK1.out; omega
   case rel => exact ⟨(y494), (wrap64 (x18_1 + 1)), fr_, H', ⟨by have := HK1.out; omega⟩, ⟨by (with_reducible repeat (first | apply Kd.R_alloc | apply Kd.R_drewN | apply Kd.R_drew)); exact Kd.R_mono HO496.out (fun _ hk => trivial)⟩, ⟨(hg_ GE493)⟩⟩
/-! ### spec_ThrowShort: function 22 -/
def spec_ThrowShort.l0 : Nat → List (S23) → Int → List (S23) → Int → Option ((List (S23)) × Int)
 | 0, _, _, _, _ => none
 | k + 1, x0, x1, x6, x7 => if x7 < (x0.length : Int) then (if 0 ≤ x7 then (if ((rd_T23 x0 x7).f1) ≥ x1 then (if x6.length < 5864062014805 then (spec_ThrowShort.l0 k x0 x1 (x6 ++ [(⟨(rd_T23 x0 x7).f0, (rd_T23 x0 x7).f1⟩ : S23)]) (wrap64 (x7 + 1))) else (none)) else (spec_ThrowShort.l0 k x0 x1 x6 (wrap64 (x7 + 1)))) else (none)) else (some (x6, 0))
def spec_ThrowShort.f (k : Nat) (l0 : List (S23)) (a1 : Int) : Option ((List (S23)) × Int) := (spec_l23Ok.f k l0).bind fun t497 => (if t497 = true then ((spec_l00In.f a1 0 100000).bind fun t498 => (if t498 = true then (spec_ThrowShort.l0 k l0 a1 (([] : List (S23))) 0) else (some (([] : List (S23)), 2)))) else (some (([] : List (S23)), 1)))
set_option maxHeartbeats 8000000 in
set_option maxRecDepth 100000 in
theorem spec_ThrowShort.calls (k : Nat) (A0 : Option Addr) (c0 : Nat) (l0 : List (S23)) (a1 : Int) (r1 : List (S23)) (r2 : Int) (w : World) (hr0 : Kd.C k23 w A0 l0.length l0) (hc0 : l0.length ≤ c0) (h : spec_ThrowShort.f k l0 a1 = some (r1, r2)) :
  Calls Tryd.prog 22 #[.slice A0 l0.length c0, .int .i64 a1] w fun e w' => ∃ v0_ : Value, e = .returned (.tuple #[v0_, .int .i64 r2]) ∧ Kd.R k23 23 w' w.heap.size (fun _ => True) v0_ r1 ∧ Below w.heap.size w w' := by
 have hu23 := Tryd.underlying23
 have HR0 := ak_ hr0
 have HC0 := ak_ hc0
 clear hr0 hc0
 have HB := ak_ (Below.refl w.heap.size w)
 have H : ((spec_l23Ok.f k l0).bind fun t497 => (if t497 = true then ((spec_l00In.f a1 0 100000).bind fun t498 => (if t498 = true then (spec_ThrowShort.l0 k l0 a1 (([] : List (S23))) 0) else (some (([] : List (S23)), 2)))) else (some (([] : List (S23)), 1)))) = some (r1, r2) := h
 clear h
 replace H := ob_ H
 obtain ⟨t497, A30, H⟩ := H
 (try dsimp only at H)
 have A3 := ak_ A30
 clear A30
 by_cases c4 : t497 = true
 rotate_left
 ·replace c4 := Bool.eq_false_iff.mpr c4
  subst c4
  have H1 : (some (([] : List (S23)), 1)) = some (r1, r2) := by rw [if_neg (show ¬ (false = true) by decide)] at H; exact H
  clear H
  have H := H1
  clear H1
  simp only [Option.some.injEq, Prod.mk.injEq] at H
  obtain ⟨rfl, rfl⟩ := H
  go_enter Tryd.func22, Tryd.ntmps22
  go_wp2_with (first | ((with_reducible refine gate_callee (f := 81) rfl ?_); refine goesL_ (some 9) rfl rfl Tryd.func81 (by kernel_rfl) rfl #[.slice A0 l0.length c0] rfl ln_ ?_; (with_reducible refine (spec_l23Ok.calls k _ _ l0 false _ (kc_ HR0.out) HC0.out A3.out).mono ?_); rintro e w16 ⟨rfl, hb⟩; refine ⟨_, rfl, ?_⟩; replace HB := ak_ (below_step hb_ hb); skip; clear hb))
  go_ret2
  exact ⟨_, ew_, by first | exact Kd.R_nil _ _ _ _ _ | exact Kd.N_nil _ _ _ _ _ | exact Kd.V_nil _ _ _ _ _ | exact Kd.Q_nil _ _ _ _ _ | exact Kd.S_nil _ _ _ _ _, hb_⟩

 subst c4
 have H1 : ((spec_l00In.f a1 0 100000).bind fun t498 => (if t498 = true then (spec_ThrowShort.l0 k l0 a1 (([] : List (S23))) 0) else (some (([] : List (S23)), 2)))) = some (r1, r2) := by rw [if_pos rfl] at H; exact H
 clear H
 have H := H1
 clear H1
 replace H := ob_ H
 obtain ⟨t498, A50, H⟩ := H
 (try dsimp only at H)
 have A5 := ak_ A50
 clear A50
 by_cases c6 : t498 = true
 rotate_left
 ·replace c6 := Bool.eq_false_iff.mpr c6
  subst c6
  have H1 : (some (([] : List (S23)), 2)) = some (r1, r2) := by rw [if_neg (show ¬ (false = true) by decide)] at H; exact H
  clear H
  have H := H1
  clear H1
  simp only [Option.some.injEq, Prod.mk.injEq] at H
  obtain ⟨rfl, rfl⟩ := H
  go_enter Tryd.func22, Tryd.ntmps22
  go_wp2_with (first | ((with_reducible refine gate_callee (f := 81) rfl ?_); refine goesL_ (some 9) rfl rfl Tryd.func81 (by kernel_rfl) rfl #[.slice A0 l0.length c0] rfl ln_ ?_; (with_reducible refine (spec_l23Ok.calls k _ _ l0 true _ (kc_ HR0.out) HC0.out A3.out).mono ?_); rintro e w15 ⟨rfl, hb⟩; refine ⟨_, rfl, ?_⟩; replace HB := ak_ (below_step hb_ hb); skip; clear hb) | ((with_reducible refine gate_callee (f := 88) rfl ?_); refine goesL_ (some 12) rfl rfl Tryd.func88 (by kernel_rfl) rfl #[.int .i64 a1, .int .i64 0, .int .i64 100000] rfl ln_ ?_; (with_reducible refine (spec_l00In.calls a1 0 100000 false _ A5.out).mono ?_); rintro e w' ⟨rfl, ⟨nd, rfl⟩⟩; refine ⟨_, rfl, ?_⟩))
  go_ret2
  exact ⟨_, ew_, by first | exact Kd.R_nil _ _ _ _ _ | exact Kd.N_nil _ _ _ _ _ | exact Kd.V_nil _ _ _ _ _ | exact Kd.Q_nil _ _ _ _ _ | exact Kd.S_nil _ _ _ _ _, hb_⟩
 subst c6
 have H1 : (spec_ThrowShort.l0 k l0 a1 (([] : List (S23))) 0) = some (r1, r2) := by rw [if_pos rfl] at H; exact H
 clear H
 have H := H1
 clear H1
 obtain ⟨y499, hy499⟩ : ∃ y_ : List (S23), y_ = (([] : List (S23))) := ⟨_, rfl⟩
 replace H : (spec_ThrowShort.l0 k l0 a1 y499 0) = some (r1, r2) := by first | (rw [hy499]; with_reducible exact H) | (have H2_ := (Option.bind_some _ _).symm.trans H; rw [hy499]; with_reducible exact H2_) | (have H2_ := (Option.bind_some _ _).symm.trans H; with_reducible exact H2_) | with_reducible exact H | (rw [hy499]; exact H) | exact H
 have Ny499 := ak_ hy499
 clear hy499
 have H' := ak_ H
 clear H
 go_enter Tryd.func22, Tryd.ntmps22
 go_wp2_with (first | ((with_reducible refine gate_callee (f := 81) rfl ?_); refine goesL_ (some 9) rfl rfl Tryd.func81 (by kernel_rfl) rfl #[.slice A0 l0.length c0] rfl ln_ ?_; (with_reducible refine (spec_l23Ok.calls k _ _ l0 true _ (kc_ HR0.out) HC0.out A3.out).mono ?_); rintro e w7 ⟨rfl, hb⟩; refine ⟨_, rfl, ?_⟩; replace HB := ak_ (below_step hb_ hb); skip; clear hb) | ((with_reducible refine gate_callee (f := 88) rfl ?_); refine goesL_ (some 12) rfl rfl Tryd.func88 (by kernel_rfl) rfl #[.int .i64 a1, .int .i64 0, .int .i64 100000] rfl ln_ ?_; (with_reducible refine (spec_l00In.calls a1 0 100000 true _ A5.out).mono ?_); rintro e w' ⟨rfl, ⟨nd, rfl⟩⟩; refine ⟨_, rfl, ?_⟩) | ((with_reducible refine gate_dst (N := 14) rfl ?_); refine Kd.R_lit k23 _ 23 ?hg (N := 14) ?hd (xs := ([] : List (S23))) (inner := []) (ok := fun _ => True) (okp := fun _ => True) ?hr ?hp (fun _ hk => hk) trivial (Below.refl _ _) (Nat.le_refl _) (by simp) ?_; (case hd => rfl); (case hg => rfl); (case hr => first | (go_simp; done) | (go_simp; rfl)); (case hp => exact (Reps.none _ _)); intro v500 w8 ho9 hb hg_ hnew_; clear hg_ hnew_; (first | rw [← Ny499.out] at ho9 | (simp only [Int.reduceToNat] at ho9; rw [← Ny499.out] at ho9)); have HO501 := ak_ (Kd.R_lower ho9 (below_size hb_)); replace HB := ak_ (below_step hb_ hb); skip; clear hb ho9))
 go_loopg [6, 7] k (fun kq v6 v7 w' => ∃ (x6_1 : List (S23)) (x7_1 : Int), v7 = .int .i64 x7_1 ∧ Aside0 (spec_ThrowShort.l0 kq l0 a1 x6_1 x7_1 = some (r1, r2)) ∧ Aside0 (kq ≤ k) ∧ Aside0 (Kd.R k23 23 w' w.heap.size (fun _ => True) v6 x6_1) ∧ Aside0 (Below w.heap.size w w'))
 case atStart => exact ⟨(y499), (0), fr_, H', ⟨Nat.le_refl _⟩, ⟨kr_ HO501⟩, ⟨hb_⟩⟩
 case round =>
  clear H'
  try clear c2
  try clear p2
  try clear c4
  try clear c6
  try clear c8
  obtain ⟨x6_1, x7_1, rfl, HA, HK1, HO_6, HB⟩ := hrel
  cases gk with
  | zero => exact absurd HA.out (by simp [spec_ThrowShort.l0])
  | succ k1 =>
   have H := HA.out
   clear HA
   simp only [spec_ThrowShort.l0] at H
   by_cases c10 : x7_1 < (l0.length : Int)
   rotate_left
   ·rw [if_neg c10] at H
    have c10b0 : decide (x7_1 < (l0.length : Int)) = false := decide_eq_false c10
    clear c10
    simp only [Option.some.injEq, Prod.mk.injEq] at H
    obtain ⟨rfl, rfl⟩ := H
    go_wp2
    go_ret2
    exact ⟨_, ew_, by (with_reducible repeat (first | apply Kd.R_alloc | apply Kd.R_drewN | apply Kd.R_drew)); exact HO_6.out, hb_⟩
   rw [if_pos c10] at H
   have c10b0 : decide (x7_1 < (l0.length : Int)) = true := dt_ c10
   clear c10
   by_cases c11 : 0 ≤ x7_1
   rotate_left
   ·rw [if_neg c11] at H
    exact absurd H (by simp)
   rw [if_pos c11] at H
   have c11b0 : decide (0 ≤ x7_1) = true := dt_ c11
   clear c11
   by_cases c12 : ((rd_T23 l0 x7_1).f1) ≥ a1
   rotate_left
   ·rw [if_neg c12] at H
    have c12b0 : decide (a1 ≤ ((rd_T23 l0 x7_1).f1)) = false := decide_eq_false c12
    clear c12
    have H' := ak_ H
    clear H
    have p502 : 0 ≤ (x7_1 : Int) := od_
    have q502 : x7_1 < (l0.length : Int) := od_
    obtain ⟨ad502, e502, hx502_0, hx502_1⟩ := at_T23 HR0.out x7_1 p502 q502
    cases e502
    replace hx502_0 := cq_ HB hx502_0
    replace hx502_1 := cq_ HB hx502_1
    replace p502 := eq_true p502
    replace q502 := eq_true q502
    go_wp2
    go_roundg k1
    case measure => have := HK1.out; omega
    case rel => exact ⟨(x6_1), (wrap64 (x7_1 + 1)), fr_, H', ⟨by have := HK1.out; omega⟩, ⟨kr_ HO_6⟩, ⟨hb_⟩⟩
   rw [if_pos c12] at H
   have c12b0 : decide (a1 ≤ ((rd_T23 l0 x7_1).f1)) = true := dt_ c12
   clear c12
   by_cases c13 : x6_1.length < 5864062014805
   rotate_left
   ·rw [if_neg c13] at H
    exact absurd H (by simp)
   rw [if_pos c13] at H
   have LMc13 := ak_ c13
   clear c13
   obtain ⟨y504, hy504⟩ : ∃ y_ : List (S23), y_ = (x6_1 ++ [(⟨(rd_T23 l0 x7_1).f0, (rd_T23 l0 x7_1).f1⟩ : S23)]) := ⟨_, rfl⟩
   replace H : (spec_ThrowShort.l0 k1 l0 a1 y504 (wrap64 (x7_1 + 1))) = some (r1, r2) := by first | (rw [hy504]; with_reducible exact H) | (have H2_ := (Option.bind_some _ _).symm.trans H; rw [hy504]; with_reducible exact H2_) | (have H2_ := (Option.bind_some _ _).symm.trans H; with_reducible exact H2_) | with_reducible exact H | (rw [hy504]; exact H) | exact H
   have Ny504 := ak_ hy504
   clear hy504
   have H' := ak_ H
   clear H
   have p502 : 0 ≤ (x7_1 : Int) := od_
   have q502 : x7_1 < (l0.length : Int) := od_
   obtain ⟨ad502, e502, hx502_0, hx502_1⟩ := at_T23 HR0.out x7_1 p502 q502
   cases e502
   replace hx502_0 := cq_ HB hx502_0
   replace hx502_1 := cq_ HB hx502_1
   replace p502 := eq_true p502
   replace q502 := eq_true q502
   have p503 : 0 ≤ (x7_1 : Int) := od_
   have q503 : x7_1 < (l0.length : Int) := od_
   obtain ⟨ad503, e503, hx503_0, hx503_1⟩ := at_T23 HR0.out x7_1 p503 q503
   obtain rfl : ad502 = ad503 := (by injection e503)
   replace hx503_0 := cq_ HB hx503_0
   replace hx503_1 := cq_ HB hx503_1
   replace p503 := eq_true p503
   replace q503 := eq_true q503
   go_wp2_with (first | ((with_reducible refine gate_builtin (b := .append) (xs := #[.tmp 28, .tmp 33]) rfl ?_); at_builtin; refine Kd.R_append k23 (w0 := w) w.heap.size rfl (.tmp 28) (.tmp 33) 30 23 (.agg #[(.string ⟨#[]⟩), (.int .i64 0)]) 24 rfl Tryd.underlying30 info23 rfl (by decide) (by omega) u6 x6_1 (⟨(rd_T23 l0 x7_1).f0, (rd_T23 l0 x7_1).f1⟩ : S23) [.string ((rd_T23 l0 x7_1).f0), .int .i64 ((rd_T23 l0 x7_1).f1)] (fun _ => True) (fun _ => False) rfl rfl ?aP (fun _ hk => hk.elim) ?aF ?aO ?aB ?aS ?aL ?_; (case aP => exact k23_mkM _ _ _ (⟨(rd_T23 l0 x7_1).f0, (rd_T23 l0 x7_1).f1⟩ : S23)); (case aB => exact hb_); (case aF => exact (fun _ _ => trivial)); (case aO => exact (kr_ HO_6)); (case aS => exact (below_size hb_)); (case aL => have := LMc13.out; omega); intro v505 w14 ho hb hg hat; rw [← Ny504.out] at ho; replace HB := ak_ (hb); have HO506 := ak_ (ho); clear HO_6; clear ho hb hg hat))
   go_roundg k1
   case measure => have := HK1.out; omega
   case rel => exact ⟨(y504), (wrap64 (x7_1 + 1)), fr_, H', ⟨by have := HK1.out; omega⟩, ⟨kr_ HO506⟩, ⟨hb_⟩⟩
/-! ### spec_DrawAddCoil: function 23 -/
def spec_DrawAddCoil.f (k : Nat) (l0 : List Int) : Option ((List (S23)) × ByteArray × Int) := (spec_l00From.f l0).bind fun bt508 => ((spec_l23Bent.f k bt508.1 bt508.2.1 bt508.2.2).bind fun bt512 => ((spec_l23New.f bt508.1 bt512.2.1 bt512.2.2).bind fun bt517 => ((spec_l00Src_one.f bt508.1 bt517.2.2.1 bt517.2.2.2 8).bind fun bt522 => (if bt522.1 = true then ((spec_l00Src_among.f bt508.1 bt522.2.1 bt522.2.2 (([(-1), 0, 1, 100000, 100001] : List Int))).bind fun bt528 => (some (bt512.1, bt517.1, bt528.1))) else (some (bt512.1, bt517.1, bt517.2.1))))))
set_option maxHeartbeats 8000000 in
set_option maxRecDepth 100000 in
theorem spec_DrawAddCoil.calls (k : Nat) (A0 : Option Addr) (c0 : Nat) (l0 : List Int) (r1 : List (S23)) (r2 : ByteArray) (r3 : Int) (w : World) (hr0 : Kd.C (Kd.int .u8) w A0 l0.length l0) (hc0 : l0.length ≤ c0) (h : spec_DrawAddCoil.f k l0 = some (r1, r2, r3)) :
  Calls Tryd.prog 23 #[.slice A0 l0.length c0] w fun e w' => ∃ v0_ : Value, e = .returned (.tuple #[v0_, .agg #[.string r2, .int .i64 r3]]) ∧ Kd.R k23 23 w' w.heap.size (fun _ => True) v0_ r1 ∧ Below w.heap.size w w' := by
 have hu23 := Tryd.underlying23
 have HR0 := ak_ hr0
 have HC0 := ak_ hc0
 clear hr0 hc0
 have HB := ak_ (Below.refl w.heap.size w)
 have H : ((spec_l00From.f l0).bind fun bt508 => ((spec_l23Bent.f k bt508.1 bt508.2.1 bt508.2.2).bind fun bt512 => ((spec_l23New.f bt508.1 bt512.2.1 bt512.2.2).bind fun bt517 => ((spec_l00Src_one.f bt508.1 bt517.2.2.1 bt517.2.2.2 8).bind fun bt522 => (if bt522.1 = true then ((spec_l00Src_among.f bt508.1 bt522.2.1 bt522.2.2 (([(-1), 0, 1, 100000, 100001] : List Int))).bind fun bt528 => (some (bt512.1, bt517.1, bt528.1))) else (some (bt512.1, bt517.1, bt517.2.1))))))) = some (r1, r2, r3) := h
 clear h
 replace H := ob_ H
 obtain ⟨⟨t508, t509, t510⟩, A20, H⟩ := H
 (try dsimp only at H)
 have A2 := ak_ A20
 clear A20
 replace H := ob_ H
 obtain ⟨⟨t512, t515, t516⟩, A30, H⟩ := H
 (try dsimp only at H)
 have A3 := ak_ A30
 clear A30
 replace H := ob_ H
 obtain ⟨⟨t517, t518, t519, t520⟩, A40, H⟩ := H
 (try dsimp only at H)
 have A4 := ak_ A40
 clear A40
 replace H := ob_ H
 obtain ⟨⟨t522, t523, t524⟩, A50, H⟩ := H
 (try dsimp only at H)
 have A5 := ak_ A50
 clear A50
 by_cases c6 : t522 = true
 rotate_left
 ·replace c6 := Bool.eq_false_iff.mpr c6
  subst c6
  have H1 : (some (t512, t517, t518)) = some (r1, r2, r3) := by rw [if_neg (show ¬ (false = true) by decide)] at H; exact H
  clear H
  have H := H1
  clear H1
  simp only [Option.some.injEq, Prod.mk.injEq] at H
  obtain ⟨rfl, rfl, rfl⟩ := H
  go_enter Tryd.func23, Tryd.ntmps23
  try go_wp2_with (first | ((with_reducible refine gate_dst (N := 3) rfl ?_); refine box_event ?hg (N := 3) ?hd (cs := #[.string (⟨#[]⟩ : ByteArray), .int .i64 0]) (t := 23) ?hr ?_; (case hd => rfl); (case hg => rfl); (case hr => first | (go_simp; done) | (go_simp; rfl)); intro gb507 hg w26 hbox hb; have BK507 := ak_ (hbox); have GW507 := ak_ ((by rw [hg]; exact (below_size hb_) : w.heap.size ≤ gb507)); have GE507 := ak_ ((by rw [hg]; exact (below_size hb_) : w.heap.size ≤ gb507)); replace HB := ak_ (below_step hb_ hb); skip; clear hb hbox hg) | ((with_reducible refine gate_callee (f := 76) rfl ?_); refine goesL_ (some 8) rfl rfl Tryd.func76 (by kernel_rfl) rfl #[.slice A0 l0.length c0] rfl ln_ ?_; (with_reducible refine (spec_l00From.calls _ _ l0 t508 t509 t510 w _ ?side1 HR0.out HC0.out A2.out).mono ?_); (case side1 => repeat (first | (with_reducible first | exact HB.out | apply below_alloc | apply pw_below_drewN | apply below_drew1 | refine below_set ?_ GE507.out) | exact HB.out)); rintro e w27 ⟨g511, rfl, hi, hb, hb2⟩; refine ⟨_, rfl, ?_⟩; replace HB := ak_ (hb); have HI511 := ak_ (hi); have NB511_507 := ak_ (IsS155.ne_blk hi (blk_below (g := gb507) (o := .cells #[.string (⟨#[]⟩ : ByteArray), .int .i64 0] 23 (0, 0)) (bk_ BK507) hb2) (by decide)); have NB507_511 := ak_ (Ne.symm (IsS155.ne_blk hi (blk_below (g := gb507) (o := .cells #[.string (⟨#[]⟩ : ByteArray), .int .i64 0] 23 (0, 0)) (bk_ BK507) hb2) (by decide))); replace BK507 := ak_ (blk_below (g := gb507) (o := .cells #[.string (⟨#[]⟩ : ByteArray), .int .i64 0] 23 (0, 0)) (bk_ BK507) hb2); skip; clear hb hb2 hi) | ((with_reducible refine gate_callee (f := 77) rfl ?_); refine goesL_ (some 10) rfl rfl Tryd.func77 (by kernel_rfl) rfl #[.pointer (some ⟨g511, 0, none⟩)] rfl ln_ ?_; (with_reducible refine (spec_l23Bent.calls k g511 t508 t509 t510 t512 t515 t516 w _ ?side1 ?side2 A3.out).mono ?_); (case side1 => repeat (first | (with_reducible first | exact HI511.out | apply IsS155.alloc | apply IsS155.drewN | apply IsS155.drew | apply IsS155.set_1 | apply IsS155.set_2 | refine IsS155.far ?_ NB511_507.out _) | exact HI511.out)); (case side2 => repeat (first | (with_reducible first | exact HB.out | apply below_alloc | apply pw_below_drewN | apply below_drew1 | refine below_set ?_ (IsS155.ge HI511.out) | refine below_set ?_ GE507.out) | exact HB.out)); rintro e w28 ⟨v513, rfl, ho0, hi, hb, hk⟩; refine ⟨_, rfl, ?_⟩; have HO514 := ak_ (Kd.R_lower (Kd.R_newB ho0 (g := gb507) (o := .cells #[.string (⟨#[]⟩ : ByteArray), .int .i64 0] 23 (0, 0)) (bk_ BK507)) (below_size (by repeat (first | (with_reducible first | exact HB.out | apply below_alloc | apply pw_below_drewN | apply below_drew1 | refine below_set ?_ (IsS155.ge HI511.out) | refine below_set ?_ GE507.out) | exact HB.out)))); replace BK507 := ak_ (KeepBut.blk hk (g' := gb507) (o := .cells #[.string (⟨#[]⟩ : ByteArray), .int .i64 0] 23 (0, 0)) (bk_ BK507) NB507_511.out (by simp)); replace HB := ak_ (hb); replace HI511 := ak_ (hi); skip; clear hb hk hi ho0) | ((with_reducible refine gate_callee (f := 89) rfl ?_); refine goesL_ (some 12) rfl rfl Tryd.func89 (by kernel_rfl) rfl #[.pointer (some ⟨g511, 0, none⟩)] rfl ln_ ?_; (with_reducible refine (spec_l23New.calls g511 t508 t515 t516 t517 t518 t519 t520 w _ ?side1 ?side2 A4.out).mono ?_); (case side1 => repeat (first | (with_reducible first | exact HI511.out | apply IsS155.alloc | apply IsS155.drewN | apply IsS155.drew | apply IsS155.set_1 | apply IsS155.set_2 | refine IsS155.far ?_ NB511_507.out _) | exact HI511.out)); (case side2 => repeat (first | (with_reducible first | exact HB.out | apply below_alloc | apply pw_below_drewN | apply below_drew1 | refine below_set ?_ (IsS155.ge HI511.out) | refine below_set ?_ GE507.out) | exact HB.out)); rintro e w29 ⟨rfl, hi, hb, hk⟩; refine ⟨_, rfl, ?_⟩; replace BK507 := ak_ (KeepBut.blk hk (g' := gb507) (o := .cells #[.string (⟨#[]⟩ : ByteArray), .int .i64 0] 23 (0, 0)) (bk_ BK507) NB507_511.out (by simp)); replace HO514 := ak_ (Kd.R_mono (Kd.R_keep (IsS155.apart (show IsS155 w _ g511 t508 t515 t516 from by repeat (first | (with_reducible first | exact HI511.out | apply IsS155.alloc | apply IsS155.drewN | apply IsS155.drew | apply IsS155.set_1 | apply IsS155.set_2 | refine IsS155.far ?_ NB511_507.out _) | exact HI511.out)) (kr_ HO514) (by decide)) hk (fun _ h => h.2)) (fun _ h => h.1)); replace HB := ak_ (hb); replace HI511 := ak_ (hi); skip; clear hb hk hi) | ((with_reducible refine gate_dst (N := 6) rfl ?_); refine box_event ?hg (N := 6) ?hd (cs := #[.string (⟨#[]⟩ : ByteArray), .int .i64 0]) (t := 23) ?hr ?_; (case hd => rfl); (case hg => rfl); (case hr => first | (go_simp; done) | (go_simp; rfl)); intro gb521 hg w30 hbox hb; replace HO514 := ak_ (Kd.R_below (Kd.R_elderB (kr_ HO514) gb521 (Nat.le_of_eq hg.symm)) hb); have BK521 := ak_ (hbox); have GW521 := ak_ ((by rw [hg]; exact (below_size (by repeat (first | (with_reducible first | exact HB.out | apply below_alloc | apply pw_below_drewN | apply below_drew1 | refine below_set ?_ (IsS155.ge HI511.out) | refine below_set ?_ GE507.out) | exact HB.out))) : w.heap.size ≤ gb521)); have GE521 := ak_ ((by rw [hg]; exact (below_size (by repeat (first | (with_reducible first | exact HB.out | apply below_alloc | apply pw_below_drewN | apply below_drew1 | refine below_set ?_ (IsS155.ge HI511.out) | refine below_set ?_ GE507.out) | exact HB.out))) : w.heap.size ≤ gb521)); replace HB := ak_ (below_step (by repeat (first | (with_reducible first | exact HB.out | apply below_alloc | apply pw_below_drewN | apply below_drew1 | refine below_set ?_ (IsS155.ge HI511.out) | refine below_set ?_ GE507.out) | exact HB.out)) hb); have NB507_521 := ak_ ((by rw [hg]; exact Nat.ne_of_lt (blk_lt (g := gb507) (o := .cells #[.string (⟨#[]⟩ : ByteArray), .int .i64 0] 23 (0, 0)) (bk_ BK507)) : gb507 ≠ gb521)); have NB521_507 := ak_ ((by rw [hg]; exact Nat.ne_of_gt (blk_lt (g := gb507) (o := .cells #[.string (⟨#[]⟩ : ByteArray), .int .i64 0] 23 (0, 0)) (bk_ BK507)) : gb521 ≠ gb507)); replace BK507 := ak_ (blk_below (g := gb507) (o := .cells #[.string (⟨#[]⟩ : ByteArray), .int .i64 0] 23 (0, 0)) (bk_ BK507) hb); have NB511_521 := ak_ ((by rw [hg]; exact Nat.ne_of_lt (IsS155.lt (show IsS155 w _ g511 t508 t519 t520 from by repeat (first | (with_reducible first | exact HI511.out | apply IsS155.alloc | apply IsS155.drewN | apply IsS155.drew | apply IsS155.set_1 | apply IsS155.set_2 | refine IsS155.far ?_ NB511_507.out _) | exact HI511.out))) : g511 ≠ gb521)); have NB521_511 := ak_ ((by rw [hg]; exact Nat.ne_of_gt (IsS155.lt (show IsS155 w _ g511 t508 t519 t520 from by repeat (first | (with_reducible first | exact HI511.out | apply IsS155.alloc | apply IsS155.drewN | apply IsS155.drew | apply IsS155.set_1 | apply IsS155.set_2 | refine IsS155.far ?_ NB511_507.out _) | exact HI511.out))) : gb521 ≠ g511)); replace HI511 := ak_ (IsS155.below (by repeat (first | (with_reducible first | exact HI511.out | apply IsS155.alloc | apply IsS155.drewN | apply IsS155.drew | apply IsS155.set_1 | apply IsS155.set_2 | refine IsS155.far ?_ NB511_507.out _) | exact HI511.out)) hb); skip; clear hb hbox hg; have hnb31 := NB521_507.out; have hnc31 := NB507_521.out; have hnb32 := NB521_511.out; have hnc32 := NB511_521.out; have hcz33_0 : w30.cell? ⟨gb521, 0, none⟩ = some (.string (⟨#[]⟩ : ByteArray)) := (blk_cell BK521.out 0).trans rfl; have hcz33_1 : w30.cell? ⟨gb521, 1, none⟩ = some (.int .i64 0) := (blk_cell BK521.out 1).trans rfl; have hfz33_0 := blk_frozen BK521.out 0; have hfz33_1 := blk_frozen BK521.out 1) | ((with_reducible refine gate_callee (f := 84) rfl ?_); refine goesL_ (some 14) rfl rfl Tryd.func84 (by kernel_rfl) rfl #[.pointer (some ⟨g511, 0, none⟩), .int .i64 8] rfl ln_ ?_; (with_reducible refine (spec_l00Src_one.calls g511 t508 t519 t520 8 false t523 t524 w _ ?side1 ?side2 A5.out).mono ?_); (case side1 => repeat (first | (with_reducible first | exact HI511.out | apply IsS155.alloc | apply IsS155.drewN | apply IsS155.drew | apply IsS155.set_1 | apply IsS155.set_2 | refine IsS155.far ?_ NB511_507.out _ | refine IsS155.far ?_ NB511_521.out _) | exact HI511.out)); (case side2 => repeat (first | (with_reducible first | exact HB.out | apply below_alloc | apply pw_below_drewN | apply below_drew1 | refine below_set ?_ (IsS155.ge HI511.out) | refine below_set ?_ GE507.out | refine below_set ?_ GE521.out) | exact HB.out)); rintro e w34 ⟨rfl, hi, hb, hk⟩; refine ⟨_, rfl, ?_⟩; replace BK507 := ak_ (KeepBut.blk hk (g' := gb507) (o := .cells #[.string (⟨#[]⟩ : ByteArray), .int .i64 0] 23 (0, 0)) (by (with_reducible repeat (first | refine blk_drewN ?_ _ | refine blk_drew ?_ | refine blk_alloc ?_ _)); refine blk_far ?_ NB507_521.out _; (with_reducible repeat (first | refine blk_drewN ?_ _ | refine blk_drew ?_ | refine blk_alloc ?_ _)); refine blk_far ?_ NB507_521.out _; (with_reducible repeat (first | refine blk_drewN ?_ _ | refine blk_drew ?_ | refine blk_alloc ?_ _)); exact BK507.out) NB507_511.out (by simp)); replace HO514 := ak_ (Kd.R_mono (Kd.R_keep (IsS155.apart (show IsS155 w _ g511 t508 t519 t520 from by repeat (first | (with_reducible first | exact HI511.out | apply IsS155.alloc | apply IsS155.drewN | apply IsS155.drew | apply IsS155.set_1 | apply IsS155.set_2 | refine IsS155.far ?_ NB511_507.out _ | refine IsS155.far ?_ NB511_521.out _) | exact HI511.out)) (by (with_reducible repeat (first | apply Kd.R_alloc | apply Kd.R_drewN | apply Kd.R_drew)); exact (Kd.R_mono (Kd.R_far (p := ⟨gb521, 1, none⟩) (Kd.R_far (p := ⟨gb521, 0, none⟩) (Kd.R_mono HO514.out (fun k_ hk => (⟨hk, hk.2⟩ : _ ∧ k_ ≠ gb521))) (fun _ hk => hk.2) (.string t517)) (fun _ hk => hk.2) (.int .i64 t518)) (fun _ h_ => h_.1))) (by decide)) hk (fun _ h => h.2)) (fun _ h => h.1)); replace BK521 := ak_ (KeepBut.blk hk (g' := gb521) (o := .cells #[.string t517, .int .i64 t518] 23 (0, 0)) (by (with_reducible repeat (first | refine blk_drewN ?_ _ | refine blk_drew ?_ | refine blk_alloc ?_ _)); refine blk_put (cs := #[.string t517, .int .i64 0]) ?_ 1 _ rfl; (with_reducible repeat (first | refine blk_drewN ?_ _ | refine blk_drew ?_ | refine blk_alloc ?_ _)); refine blk_put (cs := #[.string (⟨#[]⟩ : ByteArray), .int .i64 0]) ?_ 0 _ rfl; (with_reducible repeat (first | refine blk_drewN ?_ _ | refine blk_drew ?_ | refine blk_alloc ?_ _)); exact BK521.out) NB521_511.out (by simp)); replace HB := ak_ (hb); replace HI511 := ak_ (hi); skip; clear hb hk hi))
  have n0_ := ak_ (Kd.R_drew HO514.out)
  have n1_ := ak_ (blk_drew BK507.out)
  have n2_ := ak_ (blk_drew BK521.out)
  have n3_ := ak_ (IsS155.drew HI511.out)
  have n4_ := ak_ (below_drew1 HB.out)
  clear HO514
  clear BK507
  clear BK521
  clear HI511
  clear HB
  have HO514 := n0_
  have BK507 := n1_
  have BK521 := n2_
  have HI511 := n3_
  have HB := n4_
  clear n0_ n1_ n2_ n3_ n4_
  refine start_ (n := 4) (S := fun w' => w'.cell? ⟨gb521, 0, none⟩ = some (.string t517) ∧ w'.cell? ⟨gb521, 1, none⟩ = some (.int .i64 t518)) (ds := []) #[F_,F_,F_,F_] (by kernel_rfl) rfl rfl ⟨(blk_cell BK521.out 0).trans rfl, (blk_cell BK521.out 1).trans rfl⟩ (fun hHeld => ?_)
  generalize w34.drew = w35 at HO514 BK507 BK521 HI511 HB hHeld ⊢
  refine pure_ (i := 0) (N := some 19) (v := ?_) (a' := ?_) #[T_,F_,F_,F_] rfl rfl (by kernel_rfl) (fun _ _ _ h => h) (Or.inl ⟨by rfl, ?_⟩) ?_ ?_
  rotate_left
  ·intro w'
   go_simp
   with_reducible rfl
  rotate_left
  ·simp only [Act.put, sT_, s0_, sS_, i64_w, i32_w]
   rfl
  refine pure_ (i := 2) (N := some 2) (v := ?_) (a' := ?_) #[T_,F_,T_,F_] rfl rfl (by kernel_rfl) (fun _ _ _ h => h) (Or.inl ⟨by rfl, ?_⟩) ?_ ?_
  rotate_left
  ·intro w'
   go_simp
   with_reducible rfl
  rotate_left
  ·simp only [Act.put, sT_, s0_, sS_, i64_w, i32_w]
   rfl
  refine take_ (i := 1) (N := some 20) (v := ?_) (a' := ?_) #[T_,T_,T_,F_] rfl rfl (by kernel_rfl) (fun _ _ _ h => h) (Or.inl ⟨by rfl, ?_⟩) hHeld ?_ ?_
  rotate_left
  ·rintro w' ⟨s0, s1⟩
   go_simp
   with_reducible rfl
  rotate_left
  ·simp only [Act.put, sT_, s0_, sS_, i64_w, i32_w]
   rfl
  refine one_ (i := 3) (N := none) #[T_,T_,T_,T_] rfl rfl (by kernel_rfl) (by decide) (fun K hK => ?_)
  have hs36 : w35.cell? ⟨gb507, 0, none⟩ = some (.string (⟨#[]⟩ : ByteArray)) := (blk_cell BK507.out 0).trans rfl
  have hfs36 := blk_frozen BK507.out 0
  have hns36_1 := NB521_507.out
  have hms36_1 := NB507_521.out
  have hs37 : w35.cell? ⟨gb507, 1, none⟩ = some (.int .i64 0) := (blk_cell BK507.out 1).trans rfl
  have hfs37 := blk_frozen BK507.out 1
  have hns37_1 := NB521_507.out
  have hms37_1 := NB507_521.out
  refine skip_ (w1 := ?_) (by rfl) rfl ?_ ?_
  rotate_left
  ·go_simp
   rfl
  refine hK.out _ _ ⟨((cell_far (p := ⟨gb507, _, none⟩) NB521_507.out _).trans (((cell_far (p := ⟨gb507, _, none⟩) NB521_507.out _).trans (hHeld.1)))), ((cell_far (p := ⟨gb507, _, none⟩) NB521_507.out _).trans (((cell_far (p := ⟨gb507, _, none⟩) NB521_507.out _).trans (hHeld.2))))⟩ (fun hHeld => ?_)
  clear hK K
  refine done_ (by kernel_rfl) ?_
  try go_wp2
  refine bodyPost_ret (results_tc rfl _ _ gb507 23 #[.string t517, .int .i64 t518] (0, 0) _ rfl (by (with_reducible repeat (first | refine blk_drewN ?_ _ | refine blk_drew ?_ | refine blk_alloc ?_ _)); refine blk_put (cs := #[.string t517, .int .i64 0]) ?_ 1 _ rfl; (with_reducible repeat (first | refine blk_drewN ?_ _ | refine blk_drew ?_ | refine blk_alloc ?_ _)); refine blk_put (cs := #[.string (⟨#[]⟩ : ByteArray), .int .i64 0]) ?_ 0 _ rfl; (with_reducible repeat (first | refine blk_drewN ?_ _ | refine blk_drew ?_ | refine blk_alloc ?_ _)); exact BK507.out) Tryd.underlying23 rfl (by kernel_rfl)) rfl ?_
  exact ⟨_, ew_, by (with_reducible repeat (first | apply Kd.R_alloc | apply Kd.R_drewN | apply Kd.R_drew)); exact Kd.R_mono (Kd.R_far (p := ⟨gb507, 1, none⟩) (Kd.R_far (p := ⟨gb507, 0, none⟩) (Kd.R_mono HO514.out (fun k_ hk => (⟨hk, hk.1.2⟩ : _ ∧ k_ ≠ gb507))) (fun _ hk => hk.2) (.string t517)) (fun _ hk => hk.2) (.int .i64 t518)) (fun _ hk => trivial), by repeat (first | (with_reducible first | exact HB.out | apply below_alloc | apply pw_below_drewN | apply below_drew1 | refine below_set ?_ (IsS155.ge HI511.out) | refine below_set ?_ GE507.out | refine below_set ?_ GE521.out) | exact HB.out)⟩

 subst c6
 have H1 : ((spec_l00Src_among.f t508 t523 t524 (([(-1), 0, 1, 100000, 100001] : List Int))).bind fun bt528 => (some (t512, t517, bt528.1))) = some (r1, r2, r3) := by rw [if_pos rfl] at H; exact H
 clear H
 have H := H1
 clear H1
 obtain ⟨y525, hy525⟩ : ∃ y_ : List Int, y_ = (([(-1), 0, 1, 100000, 100001] : List Int)) := ⟨_, rfl⟩
 replace H : ((spec_l00Src_among.f t508 t523 t524 y525).bind fun bt528 => (some (t512, t517, bt528.1))) = some (r1, r2, r3) := by first | (rw [hy525]; with_reducible exact H) | (have H2_ := (Option.bind_some _ _).symm.trans H; rw [hy525]; with_reducible exact H2_) | (have H2_ := (Option.bind_some _ _).symm.trans H; with_reducible exact H2_) | with_reducible exact H | (rw [hy525]; exact H) | exact H
 have Ny525 := ak_ hy525
 clear hy525
 replace H := ob_ H
 obtain ⟨⟨t528, t529, t530⟩, A70, H⟩ := H
 (try dsimp only at H)
 have A7 := ak_ A70
 clear A70
 simp only [Option.some.injEq, Prod.mk.injEq] at H
 obtain ⟨rfl, rfl, rfl⟩ := H
 go_enter Tryd.func23, Tryd.ntmps23
 try go_wp2_with (first | ((with_reducible refine gate_dst (N := 3) rfl ?_); refine box_event ?hg (N := 3) ?hd (cs := #[.string (⟨#[]⟩ : ByteArray), .int .i64 0]) (t := 23) ?hr ?_; (case hd => rfl); (case hg => rfl); (case hr => first | (go_simp; done) | (go_simp; rfl)); intro gb507 hg w8 hbox hb; have BK507 := ak_ (hbox); have GW507 := ak_ ((by rw [hg]; exact (below_size hb_) : w.heap.size ≤ gb507)); have GE507 := ak_ ((by rw [hg]; exact (below_size hb_) : w.heap.size ≤ gb507)); replace HB := ak_ (below_step hb_ hb); skip; clear hb hbox hg) | ((with_reducible refine gate_callee (f := 76) rfl ?_); refine goesL_ (some 8) rfl rfl Tryd.func76 (by kernel_rfl) rfl #[.slice A0 l0.length c0] rfl ln_ ?_; (with_reducible refine (spec_l00From.calls _ _ l0 t508 t509 t510 w _ ?side1 HR0.out HC0.out A2.out).mono ?_); (case side1 => repeat (first | (with_reducible first | exact HB.out | apply below_alloc | apply pw_below_drewN | apply below_drew1 | refine below_set ?_ GE507.out) | exact HB.out)); rintro e w9 ⟨g511, rfl, hi, hb, hb2⟩; refine ⟨_, rfl, ?_⟩; replace HB := ak_ (hb); have HI511 := ak_ (hi); have NB511_507 := ak_ (IsS155.ne_blk hi (blk_below (g := gb507) (o := .cells #[.string (⟨#[]⟩ : ByteArray), .int .i64 0] 23 (0, 0)) (bk_ BK507) hb2) (by decide)); have NB507_511 := ak_ (Ne.symm (IsS155.ne_blk hi (blk_below (g := gb507) (o := .cells #[.string (⟨#[]⟩ : ByteArray), .int .i64 0] 23 (0, 0)) (bk_ BK507) hb2) (by decide))); replace BK507 := ak_ (blk_below (g := gb507) (o := .cells #[.string (⟨#[]⟩ : ByteArray), .int .i64 0] 23 (0, 0)) (bk_ BK507) hb2); skip; clear hb hb2 hi) | ((with_reducible refine gate_callee (f := 77) rfl ?_); refine goesL_ (some 10) rfl rfl Tryd.func77 (by kernel_rfl) rfl #[.pointer (some ⟨g511, 0, none⟩)] rfl ln_ ?_; (with_reducible refine (spec_l23Bent.calls k g511 t508 t509 t510 t512 t515 t516 w _ ?side1 ?side2 A3.out).mono ?_); (case side1 => repeat (first | (with_reducible first | exact HI511.out | apply IsS155.alloc | apply IsS155.drewN | apply IsS155.drew | apply IsS155.set_1 | apply IsS155.set_2 | refine IsS155.far ?_ NB511_507.out _) | exact HI511.out)); (case side2 => repeat (first | (with_reducible first | exact HB.out | apply below_alloc | apply pw_below_drewN | apply below_drew1 | refine below_set ?_ (IsS155.ge HI511.out) | refine below_set ?_ GE507.out) | exact HB.out)); rintro e w10 ⟨v513, rfl, ho0, hi, hb, hk⟩; refine ⟨_, rfl, ?_⟩; have HO514 := ak_ (Kd.R_lower (Kd.R_newB ho0 (g := gb507) (o := .cells #[.string (⟨#[]⟩ : ByteArray), .int .i64 0] 23 (0, 0)) (bk_ BK507)) (below_size (by repeat (first | (with_reducible first | exact HB.out | apply below_alloc | apply pw_below_drewN | apply below_drew1 | refine below_set ?_ (IsS155.ge HI511.out) | refine below_set ?_ GE507.out) | exact HB.out)))); replace BK507 := ak_ (KeepBut.blk hk (g' := gb507) (o := .cells #[.string (⟨#[]⟩ : ByteArray), .int .i64 0] 23 (0, 0)) (bk_ BK507) NB507_511.out (by simp)); replace HB := ak_ (hb); replace HI511 := ak_ (hi); skip; clear hb hk hi ho0) | ((with_reducible refine gate_callee (f := 89) rfl ?_); refine goesL_ (some 12) rfl rfl Tryd.func89 (by kernel_rfl) rfl #[.pointer (some ⟨g511, 0, none⟩)] rfl ln_ ?_; (with_reducible refine (spec_l23New.calls g511 t508 t515 t516 t517 t518 t519 t520 w _ ?side1 ?side2 A4.out).mono ?_); (case side1 => repeat (first | (with_reducible first | exact HI511.out | apply IsS155.alloc | apply IsS155.drewN | apply IsS155.drew | apply IsS155.set_1 | apply IsS155.set_2 | refine IsS155.far ?_ NB511_507.out _) | exact HI511.out)); (case side2 => repeat (first | (with_reducible first | exact HB.out | apply below_alloc | apply pw_below_drewN | apply below_drew1 | refine below_set ?_ (IsS155.ge HI511.out) | refine below_set ?_ GE507.out) | exact HB.out)); rintro e w11 ⟨rfl, hi, hb, hk⟩; refine ⟨_, rfl, ?_⟩; replace BK507 := ak_ (KeepBut.blk hk (g' := gb507) (o := .cells #[.string (⟨#[]⟩ : ByteArray), .int .i64 0] 23 (0, 0)) (bk_ BK507) NB507_511.out (by simp)); replace HO514 := ak_ (Kd.R_mono (Kd.R_keep (IsS155.apart (show IsS155 w _ g511 t508 t515 t516 from by repeat (first | (with_reducible first | exact HI511.out | apply IsS155.alloc | apply IsS155.drewN | apply IsS155.drew | apply IsS155.set_1 | apply IsS155.set_2 | refine IsS155.far ?_ NB511_507.out _) | exact HI511.out)) (kr_ HO514) (by decide)) hk (fun _ h => h.2)) (fun _ h => h.1)); replace HB := ak_ (hb); replace HI511 := ak_ (hi); skip; clear hb hk hi) | ((with_reducible refine gate_dst (N := 6) rfl ?_); refine box_event ?hg (N := 6) ?hd (cs := #[.string (⟨#[]⟩ : ByteArray), .int .i64 0]) (t := 23) ?hr ?_; (case hd => rfl); (case hg => rfl); (case hr => first | (go_simp; done) | (go_simp; rfl)); intro gb521 hg w12 hbox hb; replace HO514 := ak_ (Kd.R_below (Kd.R_elderB (kr_ HO514) gb521 (Nat.le_of_eq hg.symm)) hb); have BK521 := ak_ (hbox); have GW521 := ak_ ((by rw [hg]; exact (below_size (by repeat (first | (with_reducible first | exact HB.out | apply below_alloc | apply pw_below_drewN | apply below_drew1 | refine below_set ?_ (IsS155.ge HI511.out) | refine below_set ?_ GE507.out) | exact HB.out))) : w.heap.size ≤ gb521)); have GE521 := ak_ ((by rw [hg]; exact (below_size (by repeat (first | (with_reducible first | exact HB.out | apply below_alloc | apply pw_below_drewN | apply below_drew1 | refine below_set ?_ (IsS155.ge HI511.out) | refine below_set ?_ GE507.out) | exact HB.out))) : w.heap.size ≤ gb521)); replace HB := ak_ (below_step (by repeat (first | (with_reducible first | exact HB.out | apply below_alloc | apply pw_below_drewN | apply below_drew1 | refine below_set ?_ (IsS155.ge HI511.out) | refine below_set ?_ GE507.out) | exact HB.out)) hb); have NB507_521 := ak_ ((by rw [hg]; exact Nat.ne_of_lt (blk_lt (g := gb507) (o := .cells #[.string (⟨#[]⟩ : ByteArray), .int .i64 0] 23 (0, 0)) (bk_ BK507)) : gb507 ≠ gb521)); have NB521_507 := ak_ ((by rw [hg]; exact Nat.ne_of_gt (blk_lt (g := gb507) (o := .cells #[.string (⟨#[]⟩ : ByteArray), .int .i64 0] 23 (0, 0)) (bk_ BK507)) : gb521 ≠ gb507)); replace BK507 := ak_ (blk_below (g := gb507) (o := .cells #[.string (⟨#[]⟩ : ByteArray), .int .i64 0] 23 (0, 0)) (bk_ BK507) hb); have NB511_521 := ak_ ((by rw [hg]; exact Nat.ne_of_lt (IsS155.lt (show IsS155 w _ g511 t508 t519 t520 from by repeat (first | (with_reducible first | exact HI511.out | apply IsS155.alloc | apply IsS155.drewN | apply IsS155.drew | apply IsS155.set_1 | apply IsS155.set_2 | refine IsS155.far ?_ NB511_507.out _) | exact HI511.out))) : g511 ≠ gb521)); have NB521_511 := ak_ ((by rw [hg]; exact Nat.ne_of_gt (IsS155.lt (show IsS155 w _ g511 t508 t519 t520 from by repeat (first | (with_reducible first | exact HI511.out | apply IsS155.alloc | apply IsS155.drewN | apply IsS155.drew | apply IsS155.set_1 | apply IsS155.set_2 | refine IsS155.far ?_ NB511_507.out _) | exact HI511.out))) : gb521 ≠ g511)); replace HI511 := ak_ (IsS155.below (by repeat (first | (with_reducible first | exact HI511.out | apply IsS155.alloc | apply IsS155.drewN | apply IsS155.drew | apply IsS155.set_1 | apply IsS155.set_2 | refine IsS155.far ?_ NB511_507.out _) | exact HI511.out)) hb); skip; clear hb hbox hg; have hnb13 := NB521_507.out; have hnc13 := NB507_521.out; have hnb14 := NB521_511.out; have hnc14 := NB511_521.out; have hcz15_0 : w12.cell? ⟨gb521, 0, none⟩ = some (.string (⟨#[]⟩ : ByteArray)) := (blk_cell BK521.out 0).trans rfl; have hcz15_1 : w12.cell? ⟨gb521, 1, none⟩ = some (.int .i64 0) := (blk_cell BK521.out 1).trans rfl; have hfz15_0 := blk_frozen BK521.out 0; have hfz15_1 := blk_frozen BK521.out 1) | ((with_reducible refine gate_callee (f := 84) rfl ?_); refine goesL_ (some 14) rfl rfl Tryd.func84 (by kernel_rfl) rfl #[.pointer (some ⟨g511, 0, none⟩), .int .i64 8] rfl ln_ ?_; (with_reducible refine (spec_l00Src_one.calls g511 t508 t519 t520 8 true t523 t524 w _ ?side1 ?side2 A5.out).mono ?_); (case side1 => repeat (first | (with_reducible first | exact HI511.out | apply IsS155.alloc | apply IsS155.drewN | apply IsS155.drew | apply IsS155.set_1 | apply IsS155.set_2 | refine IsS155.far ?_ NB511_507.out _ | refine IsS155.far ?_ NB511_521.out _) | exact HI511.out)); (case side2 => repeat (first | (with_reducible first | exact HB.out | apply below_alloc | apply pw_below_drewN | apply below_drew1 | refine below_set ?_ (IsS155.ge HI511.out) | refine below_set ?_ GE507.out | refine below_set ?_ GE521.out) | exact HB.out)); rintro e w16 ⟨rfl, hi, hb, hk⟩; refine ⟨_, rfl, ?_⟩; replace BK507 := ak_ (KeepBut.blk hk (g' := gb507) (o := .cells #[.string (⟨#[]⟩ : ByteArray), .int .i64 0] 23 (0, 0)) (by (with_reducible repeat (first | refine blk_drewN ?_ _ | refine blk_drew ?_ | refine blk_alloc ?_ _)); refine blk_far ?_ NB507_521.out _; (with_reducible repeat (first | refine blk_drewN ?_ _ | refine blk_drew ?_ | refine blk_alloc ?_ _)); refine blk_far ?_ NB507_521.out _; (with_reducible repeat (first | refine blk_drewN ?_ _ | refine blk_drew ?_ | refine blk_alloc ?_ _)); exact BK507.out) NB507_511.out (by simp)); replace HO514 := ak_ (Kd.R_mono (Kd.R_keep (IsS155.apart (show IsS155 w _ g511 t508 t519 t520 from by repeat (first | (with_reducible first | exact HI511.out | apply IsS155.alloc | apply IsS155.drewN | apply IsS155.drew | apply IsS155.set_1 | apply IsS155.set_2 | refine IsS155.far ?_ NB511_507.out _ | refine IsS155.far ?_ NB511_521.out _) | exact HI511.out)) (by (with_reducible repeat (first | apply Kd.R_alloc | apply Kd.R_drewN | apply Kd.R_drew)); exact (Kd.R_mono (Kd.R_far (p := ⟨gb521, 1, none⟩) (Kd.R_far (p := ⟨gb521, 0, none⟩) (Kd.R_mono HO514.out (fun k_ hk => (⟨hk, hk.2⟩ : _ ∧ k_ ≠ gb521))) (fun _ hk => hk.2) (.string t517)) (fun _ hk => hk.2) (.int .i64 t518)) (fun _ h_ => h_.1))) (by decide)) hk (fun _ h => h.2)) (fun _ h => h.1)); replace BK521 := ak_ (KeepBut.blk hk (g' := gb521) (o := .cells #[.string t517, .int .i64 t518] 23 (0, 0)) (by (with_reducible repeat (first | refine blk_drewN ?_ _ | refine blk_drew ?_ | refine blk_alloc ?_ _)); refine blk_put (cs := #[.string t517, .int .i64 0]) ?_ 1 _ rfl; (with_reducible repeat (first | refine blk_drewN ?_ _ | refine blk_drew ?_ | refine blk_alloc ?_ _)); refine blk_put (cs := #[.string (⟨#[]⟩ : ByteArray), .int .i64 0]) ?_ 0 _ rfl; (with_reducible repeat (first | refine blk_drewN ?_ _ | refine blk_drew ?_ | refine blk_alloc ?_ _)); exact BK521.out) NB521_511.out (by simp)); replace HB := ak_ (hb); replace HI511 := ak_ (hi); skip; clear hb hk hi) | ((with_reducible refine gate_dst (N := 16) rfl ?_); refine Kd.R_lit (Kd.int .i64) _ 2 ?hg (N := 16) ?hd (xs := ([(-1), 0, 1, 100000, 100001] : List Int)) (inner := [.int .i64 (-1), .int .i64 0, .int .i64 1, .int .i64 100000, .int .i64 100001]) (ok := fun _ => True) (okp := fun _ => True) ?hr ?hp (fun _ hk => hk) trivial (Below.refl _ _) (Nat.le_refl _) (by simp) ?_; (case hd => rfl); (case hg => rfl); (case hr => first | (go_simp; done) | (go_simp; rfl)); (case hp => exact (Reps.one (show Kd.M (Kd.int .i64) _ _ _ (-1) [.int .i64 (-1)] from rfl) (Reps.one (show Kd.M (Kd.int .i64) _ _ _ 0 [.int .i64 0] from rfl) (Reps.one (show Kd.M (Kd.int .i64) _ _ _ 1 [.int .i64 1] from rfl) (Reps.one (show Kd.M (Kd.int .i64) _ _ _ 100000 [.int .i64 100000] from rfl) (Reps.one (show Kd.M (Kd.int .i64) _ _ _ 100001 [.int .i64 100001] from rfl) (Reps.none _ _))))))); intro v526 w17 ho18 hb hg_ hnew_; clear hg_ hnew_; (first | rw [← Ny525.out] at ho18 | (simp only [Int.reduceToNat] at ho18; rw [← Ny525.out] at ho18)); replace HO514 := ak_ (Kd.R_below (kr_ HO514) hb); have HO527 := ak_ (Kd.R_lower ho18 (below_size (by repeat (first | (with_reducible first | exact HB.out | apply below_alloc | apply pw_below_drewN | apply below_drew1 | refine below_set ?_ (IsS155.ge HI511.out) | refine below_set ?_ GE507.out | refine below_set ?_ GE521.out) | exact HB.out)))); replace BK507 := ak_ (blk_below (g := gb507) (o := .cells #[.string (⟨#[]⟩ : ByteArray), .int .i64 0] 23 (0, 0)) (bk_ BK507) hb); replace BK521 := ak_ (blk_below (g := gb521) (o := .cells #[.string t517, .int .i64 t518] 23 (0, 0)) (bk_ BK521) hb); replace HB := ak_ (below_step (by repeat (first | (with_reducible first | exact HB.out | apply below_alloc | apply pw_below_drewN | apply below_drew1 | refine below_set ?_ (IsS155.ge HI511.out) | refine below_set ?_ GE507.out | refine below_set ?_ GE521.out) | exact HB.out)) hb); replace HI511 := ak_ (IsS155.below (by repeat (first | (with_reducible first | exact HI511.out | apply IsS155.alloc | apply IsS155.drewN | apply IsS155.drew | apply IsS155.set_1 | apply IsS155.set_2 | refine IsS155.far ?_ NB511_507.out _ | refine IsS155.far ?_ NB511_521.out _) | exact HI511.out)) hb); skip; clear hb ho18; obtain ⟨Ao19, co19, eo19⟩ := Kd.R_slice HO527.out; subst eo19) | ((with_reducible refine gate_callee (f := 85) rfl ?_); refine goesL_ (some 17) rfl rfl Tryd.func85 (by kernel_rfl) rfl #[.pointer (some ⟨g511, 0, none⟩), .slice Ao19 y525.length co19] rfl ln_ ?_; (with_reducible refine (spec_l00Src_among.calls g511 t508 t523 t524 _ _ y525 t528 t529 t530 w _ ?side1 ?side2 ?side3 ((Kd.R_reads' HO527.out).2.1) (far_slice (IsS155.own_ne HI511.out HO527.out (by decide))) A7.out).mono ?_); (case side1 => repeat (first | (with_reducible first | exact HI511.out | apply IsS155.alloc | apply IsS155.drewN | apply IsS155.drew | apply IsS155.set_1 | apply IsS155.set_2 | refine IsS155.far ?_ NB511_507.out _ | refine IsS155.far ?_ NB511_521.out _) | exact HI511.out)); (case side2 => repeat (first | (with_reducible first | exact HB.out | apply below_alloc | apply pw_below_drewN | apply below_drew1 | refine below_set ?_ (IsS155.ge HI511.out) | refine below_set ?_ GE507.out | refine below_set ?_ GE521.out) | exact HB.out)); (case side3 => repeat (first | exact (Kd.R_reads' HO527.out).2.2 | (with_reducible refine Kd.C_alloc ?_ _) | (with_reducible refine Kd.C_drewN ?_ _) | (with_reducible refine Kd.C_drew ?_))); rintro e w20 ⟨rfl, hi, hb, hk⟩; refine ⟨_, rfl, ?_⟩; replace BK507 := ak_ (KeepBut.blk hk (g' := gb507) (o := .cells #[.string (⟨#[]⟩ : ByteArray), .int .i64 0] 23 (0, 0)) (bk_ BK507) NB507_511.out (by simp)); replace HO514 := ak_ (Kd.R_mono (Kd.R_keep (IsS155.apart (show IsS155 w _ g511 t508 t523 t524 from by repeat (first | (with_reducible first | exact HI511.out | apply IsS155.alloc | apply IsS155.drewN | apply IsS155.drew | apply IsS155.set_1 | apply IsS155.set_2 | refine IsS155.far ?_ NB511_507.out _ | refine IsS155.far ?_ NB511_521.out _) | exact HI511.out)) (kr_ HO514) (by decide)) hk (fun _ h => h.2)) (fun _ h => h.1)); replace BK521 := ak_ (KeepBut.blk hk (g' := gb521) (o := .cells #[.string t517, .int .i64 t518] 23 (0, 0)) (bk_ BK521) NB521_511.out (by simp)); replace HO527 := ak_ (Kd.R_mono (Kd.R_keep (IsS155.apart (show IsS155 w _ g511 t508 t523 t524 from by repeat (first | (with_reducible first | exact HI511.out | apply IsS155.alloc | apply IsS155.drewN | apply IsS155.drew | apply IsS155.set_1 | apply IsS155.set_2 | refine IsS155.far ?_ NB511_507.out _ | refine IsS155.far ?_ NB511_521.out _) | exact HI511.out)) (kr_ HO527) (by decide)) hk (fun _ h => h.2)) (fun _ h => h.1)); replace HB := ak_ (hb); replace HI511 := ak_ (hi); skip; (try clear hb); (try clear hb2); (try clear hk); (try clear hi); have hcz21_0 : w20.cell? ⟨gb521, 0, none⟩ = some (.string t517) := (blk_cell BK521.out 0).trans rfl; have hcz21_1 : w20.cell? ⟨gb521, 1, none⟩ = some (.int .i64 t518) := (blk_cell BK521.out 1).trans rfl; have hfz21_0 := blk_frozen BK521.out 0; have hfz21_1 := blk_frozen BK521.out 1))
 have n0_ : Aside0 (Kd.R k23 23 (w20.setCell ⟨gb521, 1, none⟩ (.int .i64 t528)) w.heap.size (fun k_ => k_ ≠ gb507 ∧ k_ ≠ gb521) v513 t512) := ⟨by (with_reducible repeat (first | apply Kd.R_alloc | apply Kd.R_drewN | apply Kd.R_drew)); exact Kd.R_mono (Kd.R_far (p := ⟨gb521, 1, none⟩) (Kd.R_mono HO514.out (fun k_ hk => (⟨hk, hk.2⟩ : _ ∧ k_ ≠ gb521))) (fun _ hk => hk.2) (.int .i64 t528)) (fun _ hk => ⟨hk.1.1.2, hk.1.2⟩)⟩
 have n1_ : Aside0 (Kd.R (Kd.int .i64) 2 (w20.setCell ⟨gb521, 1, none⟩ (.int .i64 t528)) w.heap.size (fun _ => True) (.slice Ao19 y525.length co19) y525) := ⟨by (with_reducible repeat (first | apply Kd.R_alloc | apply Kd.R_drewN | apply Kd.R_drew)); exact Kd.R_mono (Kd.R_far (p := ⟨gb521, 1, none⟩) (Kd.R_types HO527.out BK521.out (by decide)) (fun _ hk => hk.2) (.int .i64 t528)) (fun _ hk => trivial)⟩
 have n2_ : Aside0 ((w20.setCell ⟨gb521, 1, none⟩ (.int .i64 t528)).heap[gb507]? = some (.cells #[.string (⟨#[]⟩ : ByteArray), .int .i64 0] 23 (0, 0))) := ⟨by (with_reducible repeat (first | refine blk_drewN ?_ _ | refine blk_drew ?_ | refine blk_alloc ?_ _)); refine blk_far ?_ NB507_521.out _; (with_reducible repeat (first | refine blk_drewN ?_ _ | refine blk_drew ?_ | refine blk_alloc ?_ _)); exact BK507.out⟩
 have n3_ : Aside0 ((w20.setCell ⟨gb521, 1, none⟩ (.int .i64 t528)).heap[gb521]? = some (.cells #[.string t517, .int .i64 t528] 23 (0, 0))) := ⟨by (with_reducible repeat (first | refine blk_drewN ?_ _ | refine blk_drew ?_ | refine blk_alloc ?_ _)); refine blk_put (cs := #[.string t517, .int .i64 t518]) ?_ 1 _ rfl; (with_reducible repeat (first | refine blk_drewN ?_ _ | refine blk_drew ?_ | refine blk_alloc ?_ _)); exact BK521.out⟩
 have n4_ : Aside0 (IsS155 w (w20.setCell ⟨gb521, 1, none⟩ (.int .i64 t528)) g511 t508 t529 t530) := ⟨by repeat (first | (with_reducible first | exact HI511.out | apply IsS155.alloc | apply IsS155.drewN | apply IsS155.drew | apply IsS155.set_1 | apply IsS155.set_2 | refine IsS155.far ?_ NB511_507.out _ | refine IsS155.far ?_ NB511_521.out _) | exact HI511.out)⟩
 have n5_ : Aside0 (Below w.heap.size w (w20.setCell ⟨gb521, 1, none⟩ (.int .i64 t528))) := ⟨by repeat (first | (with_reducible first | exact HB.out | apply below_alloc | apply pw_below_drewN | apply below_drew1 | refine below_set ?_ (IsS155.ge HI511.out) | refine below_set ?_ GE507.out | refine below_set ?_ GE521.out) | exact HB.out)⟩
 (try clear HO514)
 (try clear HO527)
 (try clear BK507)
 (try clear BK521)
 (try clear HI511)
 (try clear HB)
 generalize (w20.setCell ⟨gb521, 1, none⟩ (.int .i64 t528)) = w22 at n0_ n1_ n2_ n3_ n4_ n5_ ⊢
 have HO514 := n0_
 have HO527 := n1_
 have BK507 := n2_
 have BK521 := n3_
 have HI511 := n4_
 have HB := n5_
 clear n0_ n1_ n2_ n3_ n4_ n5_
 have n0_ := ak_ (Kd.R_drew HO514.out)
 have n1_ := ak_ (Kd.R_drew HO527.out)
 have n2_ := ak_ (blk_drew BK507.out)
 have n3_ := ak_ (blk_drew BK521.out)
 have n4_ := ak_ (IsS155.drew HI511.out)
 have n5_ := ak_ (below_drew1 HB.out)
 clear HO514
 clear HO527
 clear BK507
 clear BK521
 clear HI511
 clear HB
 have HO514 := n0_
 have HO527 := n1_
 have BK507 := n2_
 have BK521 := n3_
 have HI511 := n4_
 have HB := n5_
 clear n0_ n1_ n2_ n3_ n4_ n5_
 refine start_ (n := 4) (S := fun w' => w'.cell? ⟨gb521, 0, none⟩ = some (.string t517) ∧ w'.cell? ⟨gb521, 1, none⟩ = some (.int .i64 t528)) (ds := []) #[F_,F_,F_,F_] (by kernel_rfl) rfl rfl ⟨(blk_cell BK521.out 0).trans rfl, (blk_cell BK521.out 1).trans rfl⟩ (fun hHeld => ?_)
 generalize w22.drew = w23 at HO514 HO527 BK507 BK521 HI511 HB hHeld ⊢
 refine pure_ (i := 0) (N := some 19) (v := ?_) (a' := ?_) #[T_,F_,F_,F_] rfl rfl (by kernel_rfl) (fun _ _ _ h => h) (Or.inl ⟨by rfl, ?_⟩) ?_ ?_
 rotate_left
 ·intro w'
  go_simp
  with_reducible rfl
 rotate_left
 ·simp only [Act.put, sT_, s0_, sS_, i64_w, i32_w]
  rfl
 refine pure_ (i := 2) (N := some 2) (v := ?_) (a' := ?_) #[T_,F_,T_,F_] rfl rfl (by kernel_rfl) (fun _ _ _ h => h) (Or.inl ⟨by rfl, ?_⟩) ?_ ?_
 rotate_left
 ·intro w'
  go_simp
  with_reducible rfl
 rotate_left
 ·simp only [Act.put, sT_, s0_, sS_, i64_w, i32_w]
  rfl
 refine take_ (i := 1) (N := some 20) (v := ?_) (a' := ?_) #[T_,T_,T_,F_] rfl rfl (by kernel_rfl) (fun _ _ _ h => h) (Or.inl ⟨by rfl, ?_⟩) hHeld ?_ ?_
 rotate_left
 ·rintro w' ⟨s0, s1⟩
  go_simp
  with_reducible rfl
 rotate_left
 ·simp only [Act.put, sT_, s0_, sS_, i64_w, i32_w]
  rfl
 refine one_ (i := 3) (N := none) #[T_,T_,T_,T_] rfl rfl (by kernel_rfl) (by decide) (fun K hK => ?_)
 have hs24 : w23.cell? ⟨gb507, 0, none⟩ = some (.string (⟨#[]⟩ : ByteArray)) := (blk_cell BK507.out 0).trans rfl
 have hfs24 := blk_frozen BK507.out 0
 have hns24_1 := NB521_507.out
 have hms24_1 := NB507_521.out
 have hs25 : w23.cell? ⟨gb507, 1, none⟩ = some (.int .i64 0) := (blk_cell BK507.out 1).trans rfl
 have hfs25 := blk_frozen BK507.out 1
 have hns25_1 := NB521_507.out
 have hms25_1 := NB507_521.out
 refine skip_ (w1 := ?_) (by rfl) rfl ?_ ?_
 rotate_left
 ·go_simp
  rfl
 refine hK.out _ _ ⟨((cell_far (p := ⟨gb507, _, none⟩) NB521_507.out _).trans (((cell_far (p := ⟨gb507, _, none⟩) NB521_507.out _).trans (hHeld.1)))), ((cell_far (p := ⟨gb507, _, none⟩) NB521_507.out _).trans (((cell_far (p := ⟨gb507, _, none⟩) NB521_507.out _).trans (hHeld.2))))⟩ (fun hHeld => ?_)
 clear hK K
 refine done_ (by kernel_rfl) ?_
 try go_wp2
 refine bodyPost_ret (results_tc rfl _ _ gb507 23 #[.string t517, .int .i64 t528] (0, 0) _ rfl (by (with_reducible repeat (first | refine blk_drewN ?_ _ | refine blk_drew ?_ | refine blk_alloc ?_ _)); refine blk_put (cs := #[.string t517, .int .i64 0]) ?_ 1 _ rfl; (with_reducible repeat (first | refine blk_drewN ?_ _ | refine blk_drew ?_ | refine blk_alloc ?_ _)); refine blk_put (cs := #[.string (⟨#[]⟩ : ByteArray), .int .i64 0]) ?_ 0 _ rfl; (with_reducible repeat (first | refine blk_drewN ?_ _ | refine blk_drew ?_ | refine blk_alloc ?_ _)); exact BK507.out) Tryd.underlying23 rfl (by kernel_rfl)) rfl ?_
 exact ⟨_, ew_, by (with_reducible repeat (first | apply Kd.R_alloc | apply Kd.R_drewN | apply Kd.R_drew)); exact Kd.R_mono (Kd.R_far (p := ⟨gb507, 1, none⟩) (Kd.R_far (p := ⟨gb507, 0, none⟩) (Kd.R_mono HO514.out (fun k_ hk => (⟨hk, hk.1⟩ : _ ∧ k_ ≠ gb507))) (fun _ hk => hk.2) (.string t517)) (fun _ hk => hk.2) (.int .i64 t528)) (fun _ hk => trivial), by repeat (first | (with_reducible first | exact HB.out | apply below_alloc | apply pw_below_drewN | apply below_drew1 | refine below_set ?_ (IsS155.ge HI511.out) | refine below_set ?_ GE507.out | refine below_set ?_ GE521.out) | exact HB.out)⟩
end Go.Proofs.YtfenjlkopofopaaDoor.P
end
