/- Texts of this claim, packed: Px16. -/
import Derived.Test.YtfenjlkopofopaaDoorZYtfenjlkopofopaaDoorCardFnCoils3
section
-- Written by gprint.py (own program, over the printer of the kit) out of the translation. Lean checks it.
namespace Go.Proofs.YtfenjlkopofopaaDoor.P
open Go.RowKit Go.Proofs.YtfenjlkopofopaaDoorW.PrintWords Go.Proofs.YtfenjlkopofopaaDoorW.PrintLast Go.Proofs.YtfenjlkopofopaaDoorW.PrintMore Go.Proofs.YtfenjlkopofopaaDoorW.Pk
open Bool renaming true → T_, false → F_
open List renaming setIfInBounds_toArray → sT_, set_cons_zero → s0_, set_cons_succ → sS_
attribute [local go_sem] max2_int min2_int max_two min_two max_three min_three max_four min_four   -- for this text's walks alone
set_option linter.unusedVariables false
set_option linter.unusedSimpArgs false

attribute [local go_sem high] eqA23
/-! ### impl_AddCoil: function 24 -/
def impl_AddCoil.f (k : Nat) (l0 : List (S23)) (a1_0 : ByteArray) (a1_1 : Int) : Option ((List (S23)) × Int) := (impl_ValidStockCoils.f k l0).bind fun t532 => (if t532 = true then ((impl_validCoil.f k a1_0 a1_1).bind fun t533 => (if t533 = true then (if (l0.length : Int) = 40 then (some (([] : List (S23)), 5)) else ((some (([] : List (S23)) : List (S23))).bind fun y534 => (if y534.length + l0.length < 5864062014805 then ((some (y534 ++ l0 : List (S23))).bind fun y537 => ((some (([(⟨a1_0, a1_1⟩ : S23)] : List (S23)) : List (S23))).bind fun y540 => (if y537.length + y540.length < 5864062014805 then (some ((y537 ++ y540), 0)) else (none)))) else (none)))) else (some (([] : List (S23)), 2)))) else (some (([] : List (S23)), 1)))
def impl_AddCoil.T7 : Bool × List (List Nat × List Nat) := (true, [([], []), ([], []), ([0, 1], [0, 1]), ([], []), ([3], [3]), ([2, 4, 2], [2, 4]), ([5, 5, 0, 1, 2, 3, 4, 5], [5]), ([6, 0, 1, 2, 3, 4, 5, 6], [])])
def impl_AddCoil.B7 : List Nat := [0, 0, 3, 0, 8, 31, 63, 127]
theorem impl_AddCoil.tab7 : rtab .any (opsOf Tryd.f24 7) = impl_AddCoil.T7 := by kernel_rfl
theorem impl_AddCoil.bits7 : waitsOk impl_AddCoil.T7.2 impl_AddCoil.B7 = true := by kernel_rfl
set_option maxHeartbeats 8000000 in
set_option maxRecDepth 100000 in
theorem impl_AddCoil.calls (k : Nat) (A0 : Option Addr) (c0 : Nat) (l0 : List (S23)) (a1_0 : ByteArray) (a1_1 : Int) (r1 : List (S23)) (r2 : Int) (w : World) (hr0 : Kd.C k23 w A0 l0.length l0) (hc0 : l0.length ≤ c0) (h : impl_AddCoil.f k l0 a1_0 a1_1 = some (r1, r2)) :
  Calls Tryd.prog 24 #[.slice A0 l0.length c0, .agg #[.string a1_0, .int .i64 a1_1]] w fun e w' => ∃ v0_ : Value, e = .returned (.tuple #[v0_, .int .i64 r2]) ∧ Kd.R k23 23 w' w.heap.size (fun _ => True) v0_ r1 ∧ Below w.heap.size w w' := by
 have hu23 := Tryd.underlying23
 have HR0 := ak_ hr0
 have HC0 := ak_ hc0
 clear hr0 hc0
 have HB := ak_ (Below.refl w.heap.size w)
 have H : ((impl_ValidStockCoils.f k l0).bind fun t532 => (if t532 = true then ((impl_validCoil.f k a1_0 a1_1).bind fun t533 => (if t533 = true then (if (l0.length : Int) = 40 then (some (([] : List (S23)), 5)) else ((some (([] : List (S23)) : List (S23))).bind fun y534 => (if y534.length + l0.length < 5864062014805 then ((some (y534 ++ l0 : List (S23))).bind fun y537 => ((some (([(⟨a1_0, a1_1⟩ : S23)] : List (S23)) : List (S23))).bind fun y540 => (if y537.length + y540.length < 5864062014805 then (some ((y537 ++ y540), 0)) else (none)))) else (none)))) else (some (([] : List (S23)), 2)))) else (some (([] : List (S23)), 1)))) = some (r1, r2) := h
 clear h
 replace H := ob_ H
 obtain ⟨t532, A30, H⟩ := H
 (try dsimp only at H)
 have A3 := ak_ A30
 clear A30
 by_cases c4 : t532 = true
 rotate_left
 ·replace c4 := Bool.eq_false_iff.mpr c4
  subst c4
  have H1 : (some (([] : List (S23)), 1)) = some (r1, r2) := by rw [if_neg (show ¬ (false = true) by decide)] at H; exact H
  clear H
  have H := H1
  clear H1
  simp only [Option.some.injEq, Prod.mk.injEq] at H
  obtain ⟨rfl, rfl⟩ := H
  go_enter Tryd.func24, Tryd.ntmps24
  go_wp2_with (first | ((with_reducible refine gate_dst (N := 3) rfl ?_); refine box_event ?hg (N := 3) ?hd (cs := #[.string a1_0, .int .i64 a1_1]) (t := 23) ?hr ?_; (case hd => rfl); (case hg => rfl); (case hr => first | (go_simp; done) | (go_simp; rfl)); intro gb531 hg w31 hbox hb; have BK531 := ak_ (hbox); have GW531 := ak_ ((by rw [hg]; exact (below_size hb_) : w.heap.size ≤ gb531)); have GE531 := ak_ ((by rw [hg]; exact (below_size hb_) : w.heap.size ≤ gb531)); replace HB := ak_ (below_step hb_ hb); skip; clear hb hbox hg) | ((with_reducible refine gate_callee (f := 33) rfl ?_); refine goesL_ (some 8) rfl rfl Tryd.func33 (by kernel_rfl) rfl #[.slice A0 l0.length c0] rfl ln_ ?_; (with_reducible refine (impl_ValidStockCoils.calls k _ _ l0 false _ (kc_ (Kd.C_below HR0.out HB.out)) HC0.out A3.out).mono ?_); rintro e w32 ⟨rfl, hb⟩; refine ⟨_, rfl, ?_⟩; replace BK531 := ak_ (blk_below (g := gb531) (o := .cells #[.string a1_0, .int .i64 a1_1] 23 (0, 0)) (bk_ BK531) hb); replace HB := ak_ (below_step (hg_ GE531) hb); skip; clear hb))
  go_ret2
  exact ⟨_, ew_, by first | exact Kd.R_nil _ _ _ _ _ | exact Kd.N_nil _ _ _ _ _ | exact Kd.V_nil _ _ _ _ _ | exact Kd.Q_nil _ _ _ _ _ | exact Kd.S_nil _ _ _ _ _, (hg_ GE531)⟩

 subst c4
 have H1 : ((impl_validCoil.f k a1_0 a1_1).bind fun t533 => (if t533 = true then (if (l0.length : Int) = 40 then (some (([] : List (S23)), 5)) else ((some (([] : List (S23)) : List (S23))).bind fun y534 => (if y534.length + l0.length < 5864062014805 then ((some (y534 ++ l0 : List (S23))).bind fun y537 => ((some (([(⟨a1_0, a1_1⟩ : S23)] : List (S23)) : List (S23))).bind fun y540 => (if y537.length + y540.length < 5864062014805 then (some ((y537 ++ y540), 0)) else (none)))) else (none)))) else (some (([] : List (S23)), 2)))) = some (r1, r2) := by rw [if_pos rfl] at H; exact H
 clear H
 have H := H1
 clear H1
 replace H := ob_ H
 obtain ⟨t533, A50, H⟩ := H
 (try dsimp only at H)
 have A5 := ak_ A50
 clear A50
 by_cases c6 : t533 = true
 rotate_left
 ·replace c6 := Bool.eq_false_iff.mpr c6
  subst c6
  have H1 : (some (([] : List (S23)), 2)) = some (r1, r2) := by rw [if_neg (show ¬ (false = true) by decide)] at H; exact H
  clear H
  have H := H1
  clear H1
  simp only [Option.some.injEq, Prod.mk.injEq] at H
  obtain ⟨rfl, rfl⟩ := H
  go_enter Tryd.func24, Tryd.ntmps24
  go_wp2_with (first | ((with_reducible refine gate_dst (N := 3) rfl ?_); refine box_event ?hg (N := 3) ?hd (cs := #[.string a1_0, .int .i64 a1_1]) (t := 23) ?hr ?_; (case hd => rfl); (case hg => rfl); (case hr => first | (go_simp; done) | (go_simp; rfl)); intro gb531 hg w27 hbox hb; have BK531 := ak_ (hbox); have GW531 := ak_ ((by rw [hg]; exact (below_size hb_) : w.heap.size ≤ gb531)); have GE531 := ak_ ((by rw [hg]; exact (below_size hb_) : w.heap.size ≤ gb531)); replace HB := ak_ (below_step hb_ hb); skip; clear hb hbox hg) | ((with_reducible refine gate_callee (f := 33) rfl ?_); refine goesL_ (some 8) rfl rfl Tryd.func33 (by kernel_rfl) rfl #[.slice A0 l0.length c0] rfl ln_ ?_; (with_reducible refine (impl_ValidStockCoils.calls k _ _ l0 true _ (kc_ (Kd.C_below HR0.out HB.out)) HC0.out A3.out).mono ?_); rintro e w28 ⟨rfl, hb⟩; refine ⟨_, rfl, ?_⟩; replace BK531 := ak_ (blk_below (g := gb531) (o := .cells #[.string a1_0, .int .i64 a1_1] 23 (0, 0)) (bk_ BK531) hb); replace HB := ak_ (below_step (hg_ GE531) hb); skip; (try clear hb); (try clear hb2); (try clear hk); (try clear hi); have hcz29_0 : w28.cell? ⟨gb531, 0, none⟩ = some (.string a1_0) := (blk_cell BK531.out 0).trans rfl; have hcz29_1 : w28.cell? ⟨gb531, 1, none⟩ = some (.int .i64 a1_1) := (blk_cell BK531.out 1).trans rfl; have hfz29_0 := blk_frozen BK531.out 0; have hfz29_1 := blk_frozen BK531.out 1) | ((with_reducible refine gate_callee (f := 69) rfl ?_); refine goesL_ (some 12) rfl rfl Tryd.func69 (by kernel_rfl) rfl #[.agg #[.string a1_0, .int .i64 a1_1]] rfl ln_ ?_; (with_reducible refine (impl_validCoil.calls k a1_0 a1_1 false _ A5.out).mono ?_); rintro e w30 ⟨rfl, hb⟩; refine ⟨_, rfl, ?_⟩; replace BK531 := ak_ (blk_below (g := gb531) (o := .cells #[.string a1_0, .int .i64 a1_1] 23 (0, 0)) (bk_ BK531) hb); replace HB := ak_ (below_step (hg_ GE531) hb); skip; clear hb))
  go_ret2
  exact ⟨_, ew_, by first | exact Kd.R_nil _ _ _ _ _ | exact Kd.N_nil _ _ _ _ _ | exact Kd.V_nil _ _ _ _ _ | exact Kd.Q_nil _ _ _ _ _ | exact Kd.S_nil _ _ _ _ _, (hg_ GE531)⟩
 subst c6
 have H1 : (if (l0.length : Int) = 40 then (some (([] : List (S23)), 5)) else ((some (([] : List (S23)) : List (S23))).bind fun y534 => (if y534.length + l0.length < 5864062014805 then ((some (y534 ++ l0 : List (S23))).bind fun y537 => ((some (([(⟨a1_0, a1_1⟩ : S23)] : List (S23)) : List (S23))).bind fun y540 => (if y537.length + y540.length < 5864062014805 then (some ((y537 ++ y540), 0)) else (none)))) else (none)))) = some (r1, r2) := by rw [if_pos rfl] at H; exact H
 clear H
 have H := H1
 clear H1
 by_cases c7 : (l0.length : Int) = 40
 ·rw [if_pos c7] at H
  have c7b0 : ((l0.length : Int) == 40) = true := beq_iff_eq.mpr c7
  have c7b1 : ((l0.length : Int) != 40) = false := bne_eq_false_iff_eq.mpr c7
  clear c7
  simp only [Option.some.injEq, Prod.mk.injEq] at H
  obtain ⟨rfl, rfl⟩ := H
  go_enter Tryd.func24, Tryd.ntmps24
  go_wp2_with (first | ((with_reducible refine gate_dst (N := 3) rfl ?_); refine box_event ?hg (N := 3) ?hd (cs := #[.string a1_0, .int .i64 a1_1]) (t := 23) ?hr ?_; (case hd => rfl); (case hg => rfl); (case hr => first | (go_simp; done) | (go_simp; rfl)); intro gb531 hg w8 hbox hb; have BK531 := ak_ (hbox); have GW531 := ak_ ((by rw [hg]; exact (below_size hb_) : w.heap.size ≤ gb531)); have GE531 := ak_ ((by rw [hg]; exact (below_size hb_) : w.heap.size ≤ gb531)); replace HB := ak_ (below_step hb_ hb); skip; clear hb hbox hg) | ((with_reducible refine gate_callee (f := 33) rfl ?_); refine goesL_ (some 8) rfl rfl Tryd.func33 (by kernel_rfl) rfl #[.slice A0 l0.length c0] rfl ln_ ?_; (with_reducible refine (impl_ValidStockCoils.calls k _ _ l0 true _ (kc_ (Kd.C_below HR0.out HB.out)) HC0.out A3.out).mono ?_); rintro e w9 ⟨rfl, hb⟩; refine ⟨_, rfl, ?_⟩; replace BK531 := ak_ (blk_below (g := gb531) (o := .cells #[.string a1_0, .int .i64 a1_1] 23 (0, 0)) (bk_ BK531) hb); replace HB := ak_ (below_step (hg_ GE531) hb); skip; (try clear hb); (try clear hb2); (try clear hk); (try clear hi); have hcz10_0 : w9.cell? ⟨gb531, 0, none⟩ = some (.string a1_0) := (blk_cell BK531.out 0).trans rfl; have hcz10_1 : w9.cell? ⟨gb531, 1, none⟩ = some (.int .i64 a1_1) := (blk_cell BK531.out 1).trans rfl; have hfz10_0 := blk_frozen BK531.out 0; have hfz10_1 := blk_frozen BK531.out 1) | ((with_reducible refine gate_callee (f := 69) rfl ?_); refine goesL_ (some 12) rfl rfl Tryd.func69 (by kernel_rfl) rfl #[.agg #[.string a1_0, .int .i64 a1_1]] rfl ln_ ?_; (with_reducible refine (impl_validCoil.calls k a1_0 a1_1 true _ A5.out).mono ?_); rintro e w11 ⟨rfl, hb⟩; refine ⟨_, rfl, ?_⟩; replace BK531 := ak_ (blk_below (g := gb531) (o := .cells #[.string a1_0, .int .i64 a1_1] 23 (0, 0)) (bk_ BK531) hb); replace HB := ak_ (below_step (hg_ GE531) hb); skip; clear hb))
  go_ret2
  exact ⟨_, ew_, by first | exact Kd.R_nil _ _ _ _ _ | exact Kd.N_nil _ _ _ _ _ | exact Kd.V_nil _ _ _ _ _ | exact Kd.Q_nil _ _ _ _ _ | exact Kd.S_nil _ _ _ _ _, (hg_ GE531)⟩
 rw [if_neg c7] at H
 have c7b0 : ((l0.length : Int) == 40) = false := beq_eq_false_iff_ne.mpr c7
 have c7b1 : ((l0.length : Int) != 40) = true := bne_iff_ne.mpr c7
 obtain ⟨y534, hy534⟩ : ∃ y_ : List (S23), y_ = (([] : List (S23))) := ⟨_, rfl⟩
 replace H : (if y534.length + l0.length < 5864062014805 then ((some (y534 ++ l0 : List (S23))).bind fun y537 => ((some (([(⟨a1_0, a1_1⟩ : S23)] : List (S23)) : List (S23))).bind fun y540 => (if y537.length + y540.length < 5864062014805 then (some ((y537 ++ y540), 0)) else (none)))) else (none)) = some (r1, r2) := by first | (rw [hy534]; with_reducible exact H) | (have H2_ := (Option.bind_some _ _).symm.trans H; rw [hy534]; with_reducible exact H2_) | (have H2_ := (Option.bind_some _ _).symm.trans H; with_reducible exact H2_) | with_reducible exact H | (rw [hy534]; exact H) | exact H
 have Ny534 := ak_ hy534
 clear hy534
 by_cases c12 : y534.length + l0.length < 5864062014805
 rotate_left
 ·rw [if_neg c12] at H
  exact absurd H (by simp)
 rw [if_pos c12] at H
 have LMc12 := ak_ c12
 clear c12
 obtain ⟨y537, hy537⟩ : ∃ y_ : List (S23), y_ = (y534 ++ l0) := ⟨_, rfl⟩
 replace H : ((some (([(⟨a1_0, a1_1⟩ : S23)] : List (S23)) : List (S23))).bind fun y540 => (if y537.length + y540.length < 5864062014805 then (some ((y537 ++ y540), 0)) else (none))) = some (r1, r2) := by first | (rw [hy537]; with_reducible exact H) | (have H2_ := (Option.bind_some _ _).symm.trans H; rw [hy537]; with_reducible exact H2_) | (have H2_ := (Option.bind_some _ _).symm.trans H; with_reducible exact H2_) | with_reducible exact H | (rw [hy537]; exact H) | exact H
 have Ny537 := ak_ hy537
 clear hy537
 obtain ⟨y540, hy540⟩ : ∃ y_ : List (S23), y_ = (([(⟨a1_0, a1_1⟩ : S23)] : List (S23))) := ⟨_, rfl⟩
 replace H : (if y537.length + y540.length < 5864062014805 then (some ((y537 ++ y540), 0)) else (none)) = some (r1, r2) := by first | (rw [hy540]; with_reducible exact H) | (have H2_ := (Option.bind_some _ _).symm.trans H; rw [hy540]; with_reducible exact H2_) | (have H2_ := (Option.bind_some _ _).symm.trans H; with_reducible exact H2_) | with_reducible exact H | (rw [hy540]; exact H) | exact H
 have Ny540 := ak_ hy540
 clear hy540
 by_cases c13 : y537.length + y540.length < 5864062014805
 rotate_left
 ·rw [if_neg c13] at H
  exact absurd H (by simp)
 rw [if_pos c13] at H
 have LMc13 := ak_ c13
 clear c13
 obtain ⟨y543, hy543⟩ : ∃ y_ : List (S23), y_ = (y537 ++ y540) := ⟨_, rfl⟩
 replace H : (some (y543, 0)) = some (r1, r2) := by first | (rw [hy543]; with_reducible exact H) | (have H2_ := (Option.bind_some _ _).symm.trans H; rw [hy543]; with_reducible exact H2_) | (have H2_ := (Option.bind_some _ _).symm.trans H; with_reducible exact H2_) | with_reducible exact H | (rw [hy543]; exact H) | exact H
 have Ny543 := ak_ hy543
 clear hy543
 simp only [Option.some.injEq, Prod.mk.injEq] at H
 obtain ⟨rfl, rfl⟩ := H
 go_enter Tryd.func24, Tryd.ntmps24
 try go_wp2_with (first | ((with_reducible refine gate_dst (N := 3) rfl ?_); refine box_event ?hg (N := 3) ?hd (cs := #[.string a1_0, .int .i64 a1_1]) (t := 23) ?hr ?_; (case hd => rfl); (case hg => rfl); (case hr => first | (go_simp; done) | (go_simp; rfl)); intro gb531 hg w14 hbox hb; have BK531 := ak_ (hbox); have GW531 := ak_ ((by rw [hg]; exact (below_size hb_) : w.heap.size ≤ gb531)); have GE531 := ak_ ((by rw [hg]; exact (below_size hb_) : w.heap.size ≤ gb531)); replace HB := ak_ (below_step hb_ hb); skip; clear hb hbox hg) | ((with_reducible refine gate_callee (f := 33) rfl ?_); refine goesL_ (some 8) rfl rfl Tryd.func33 (by kernel_rfl) rfl #[.slice A0 l0.length c0] rfl ln_ ?_; (with_reducible refine (impl_ValidStockCoils.calls k _ _ l0 true _ (kc_ (Kd.C_below HR0.out HB.out)) HC0.out A3.out).mono ?_); rintro e w15 ⟨rfl, hb⟩; refine ⟨_, rfl, ?_⟩; replace BK531 := ak_ (blk_below (g := gb531) (o := .cells #[.string a1_0, .int .i64 a1_1] 23 (0, 0)) (bk_ BK531) hb); replace HB := ak_ (below_step (hg_ GE531) hb); skip; (try clear hb); (try clear hb2); (try clear hk); (try clear hi); have hcz16_0 : w15.cell? ⟨gb531, 0, none⟩ = some (.string a1_0) := (blk_cell BK531.out 0).trans rfl; have hcz16_1 : w15.cell? ⟨gb531, 1, none⟩ = some (.int .i64 a1_1) := (blk_cell BK531.out 1).trans rfl; have hfz16_0 := blk_frozen BK531.out 0; have hfz16_1 := blk_frozen BK531.out 1) | ((with_reducible refine gate_callee (f := 69) rfl ?_); refine goesL_ (some 12) rfl rfl Tryd.func69 (by kernel_rfl) rfl #[.agg #[.string a1_0, .int .i64 a1_1]] rfl ln_ ?_; (with_reducible refine (impl_validCoil.calls k a1_0 a1_1 true _ A5.out).mono ?_); rintro e w17 ⟨rfl, hb⟩; refine ⟨_, rfl, ?_⟩; replace BK531 := ak_ (blk_below (g := gb531) (o := .cells #[.string a1_0, .int .i64 a1_1] 23 (0, 0)) (bk_ BK531) hb); replace HB := ak_ (below_step (hg_ GE531) hb); skip; clear hb))
 have n0_ := ak_ (blk_drew BK531.out)
 have n1_ := ak_ (below_drew1 HB.out)
 clear BK531
 clear HB
 have BK531 := n0_
 have HB := n1_
 clear n0_ n1_
 refine start_ (n := 8) (S := fun w' => w'.cell? ⟨gb531, 0, none⟩ = some (.string a1_0) ∧ w'.cell? ⟨gb531, 1, none⟩ = some (.int .i64 a1_1)) (ds := []) #[F_,F_,F_,F_,F_,F_,F_,F_] (by kernel_rfl) rfl rfl ⟨(blk_cell BK531.out 0).trans rfl, (blk_cell BK531.out 1).trans rfl⟩ (fun hHeld => ?_); refine with_tabW impl_AddCoil.tab7 impl_AddCoil.bits7 (fun HT_ HW_ => ?_)
 generalize w17.drew = w18 at BK531 HB hHeld ⊢
 refine pv (i := 1) (N := some 19) HT_ ?_
 refine take_ (i := 3) (N := some 21) (v := ?_) (a' := ?_) #[F_,T_,F_,T_,F_,F_,F_,F_] rfl rfl (take_ofW HT_.out HW_.out (by kernel_rfl)) (fun _ _ _ h => h) (Or.inl ⟨by rfl, ?_⟩) hHeld ?_ ?_
 rotate_left
 ·rintro w' ⟨s0, s1⟩
  go_simp
  with_reducible rfl
 rotate_left
 ·simp only [Act.put, sT_, s0_, sS_, i64_w, i32_w]
  rfl
 refine join_ (σ := Value × Value × Value) 3 #[T_,T_,T_,T_,T_,F_,F_,F_] (fun s_ => [(18, s_.1), (20, s_.2.1), (22, s_.2.2)]) (fun s_ w' => (w'.cell? ⟨gb531, 0, none⟩ = some (.string a1_0) ∧ w'.cell? ⟨gb531, 1, none⟩ = some (.int .i64 a1_1)) ∧ (Kd.R k23 23 w' w.heap.size (fun k_ => some k_ ≠ (s_.2.2 : Value).ownBlock ∧ k_ ≠ gb531) s_.2.1 y537) ∧ (Kd.R k23 23 w' w.heap.size (fun k_ => some k_ ≠ (s_.2.1 : Value).ownBlock ∧ k_ ≠ gb531) s_.2.2 y540) ∧ (w'.heap[gb531]? = some (.cells #[.string a1_0, .int .i64 a1_1] 23 (0, 0))) ∧ (Below w.heap.size w w')) ?_ ?_
 rotate_left
 ·intro hCont
  refine two_ (i := 0) (j := 4) (Ni := some 18) (Nj := some 22) #[T_,T_,F_,T_,F_,F_,F_,F_] #[F_,T_,F_,T_,T_,F_,F_,F_] rfl rfl rfl rfl (two_of HT_.out (by kernel_rfl)) (by decide) (by decide) (fun K hK => ?_) (fun K hK => ?_)
  ·skip
   refine Kd.R_lit_step k23 _ 23 ?hg (N := 18) ?hd (xs := ([] : List (S23))) (inner := []) (ok := fun _ => True) (okp := fun _ => True) ?hr ?hp (fun _ hk => hk) trivial (Below.refl _ _) (Nat.le_refl _) (by simp) ?_; (case hd => rfl); (case hg => rfl); (case hr => first | (go_simp; done) | (go_simp; rfl)); (case hp => exact (Reps.none _ _))
   intro v535 w19 ho20 hb hg_ hnew_
   clear hg_ hnew_
   (first | rw [← Ny534.out] at ho20 | (simp only [Int.reduceToNat] at ho20; rw [← Ny534.out] at ho20))
   have n0_ := ak_ (Kd.R_lower (Kd.R_newB ho20 (g := gb531) (o := .cells #[.string a1_0, .int .i64 a1_1] 23 (0, 0)) (bk_ BK531)) (below_size (hg_ GE531)))
   have n1_ := ak_ (blk_below (g := gb531) (o := .cells #[.string a1_0, .int .i64 a1_1] 23 (0, 0)) (bk_ BK531) hb)
   have n2_ := ak_ (below_step (hg_ GE531) hb)
   clear BK531
   clear HB
   have HO536 := n0_
   have BK531 := n1_
   have HB := n2_
   clear n0_ n1_ n2_
   clear hb ho20
   refine hK.out _ _ ⟨(blk_cell BK531.out 0).trans rfl, (blk_cell BK531.out 1).trans rfl⟩ (fun hHeld => ?_)
   clear hK K
   refine norm_ (a' := ?_) ?_ ?_
   rotate_left
   ·show Act.put _ (some 18) _ = _
    simp only [Act.put, sT_, s0_, sS_, i64_w, i32_w]
    rfl
   refine two_ (i := 2) (j := 4) (Ni := some 20) (Nj := some 22) #[T_,T_,T_,T_,F_,F_,F_,F_] #[T_,T_,F_,T_,T_,F_,F_,F_] rfl rfl rfl rfl (two_of HT_.out (by kernel_rfl)) (by decide) (by decide) (fun K hK => ?_) (fun K hK => ?_)
   ·skip
    refine Kd.R_append_rows_step k23 (w0 := w) w.heap.size (by rfl) (.tmp 18) (.tmp 19) 30 23 (.agg #[(.string ⟨#[]⟩), (.int .i64 0)]) 24 rfl Tryd.underlying30 info23 rfl (by decide) (by omega) v535 y534 l0 _ _ _ (fun k_ => k_ ≠ gb531) (fun _ => False) rfl rfl ?aO ?aR (fun _ _ h => h) (fun _ h => h.elim) ?aF ?aB ?aS ?aL ?_
    (case aR => exact kc_ (Kd.C_below HR0.out HB.out))
    (case aB => exact (hg_ GE531))
    (case aF => exact (fun k_ hk => Kd.freshB (g := gb531) (o := .cells #[.string a1_0, .int .i64 a1_1] 23 (0, 0)) (bk_ BK531) k_ hk))
    (case aO => exact (by (with_reducible repeat (first | apply Kd.R_alloc | apply Kd.R_drewN | apply Kd.R_drew)); exact Kd.R_mono HO536.out (fun _ hk => hk.2)))
    (case aS => exact (below_size (hg_ GE531)))
    (case aL => have := LMc12.out; omega)
    intro v538 w21 ho hb hg hat
    rw [← Ny537.out] at ho
    have n0_ := ak_ (blk_grown (g := gb531) (o := .cells #[.string a1_0, .int .i64 a1_1] 23 (0, 0)) (bk_ BK531) hg (Kd.R_away HO536.out (fun _ hk => hk.2)))
    have n1_ := ak_ (hb)
    have n2_ := ak_ (ho)
    clear BK531
    clear HB
    clear HO536
    have BK531 := n0_
    have HB := n1_
    have HO539 := n2_
    clear n0_ n1_ n2_
    clear ho hb hg hat
    refine hK.out _ _ ⟨(blk_cell BK531.out 0).trans rfl, (blk_cell BK531.out 1).trans rfl⟩ (fun hHeld => ?_)
    clear hK K
    refine norm_ (a' := ?_) ?_ ?_
    rotate_left
    ·show Act.put _ (some 20) _ = _
     simp only [Act.put, sT_, s0_, sS_, i64_w, i32_w]
     rfl
    refine one_ (i := 4) (N := some 22) #[T_,T_,T_,T_,T_,F_,F_,F_] rfl rfl (one_of HT_.out (by kernel_rfl)) (by decide) (fun K hK => ?_)
    refine Kd.R_lit_step k23 _ 23 ?hg (N := 22) ?hd (xs := ([(⟨a1_0, a1_1⟩ : S23)] : List (S23))) (inner := [.string a1_0, .int .i64 a1_1]) (ok := fun _ => True) (okp := fun _ => True) ?hr ?hp (fun _ hk => hk) trivial (Below.refl _ _) (Nat.le_refl _) (by simp) ?_; (case hd => rfl); (case hg => rfl); (case hr => first | (go_simp; done) | (go_simp; rfl)); (case hp => exact (Reps.c2 (show Kd.M k23 _ _ _ (⟨a1_0, a1_1⟩ : S23) [.string a1_0, .int .i64 a1_1] from (k23_mkM _ _ _ (⟨a1_0, a1_1⟩ : S23) )) (Reps.none _ _)))
    intro v541 w22 ho23 hb hg_ hnew_
    clear hg_ hnew_
    (first | rw [← Ny540.out] at ho23 | (simp only [Int.reduceToNat] at ho23; rw [← Ny540.out] at ho23))
    have n0_ := ak_ (Kd.R_elder' (kr_ HO539) (Kd.R_base ho23) hb)
    have n1_ := ak_ (Kd.R_lower (Kd.R_newB (Kd.R_new' ho23 (Kd.R_lt (kr_ HO539))) (g := gb531) (o := .cells #[.string a1_0, .int .i64 a1_1] 23 (0, 0)) (bk_ BK531)) (below_size (hg_ GE531)))
    have n2_ := ak_ (blk_below (g := gb531) (o := .cells #[.string a1_0, .int .i64 a1_1] 23 (0, 0)) (bk_ BK531) hb)
    have n3_ := ak_ (below_step (hg_ GE531) hb)
    clear HO539
    clear BK531
    clear HB
    have HO539 := n0_
    have HO542 := n1_
    have BK531 := n2_
    have HB := n3_
    clear n0_ n1_ n2_ n3_
    clear hb ho23
    refine hK.out _ _ ⟨(blk_cell BK531.out 0).trans rfl, (blk_cell BK531.out 1).trans rfl⟩ (fun hHeld => ?_)
    clear hK K
    refine norm_ (a' := ?_) ?_ ?_
    rotate_left
    ·show Act.put _ (some 22) _ = _
     simp only [Act.put, sT_, s0_, sS_, i64_w, i32_w]
     rfl
    exact norm_ (by simp only [putAll, Act.put, List.setIfInBounds_toArray, List.set_cons_zero, List.set_cons_succ]) (hCont (v535, v538, v541) _ ⟨hHeld, (by (with_reducible repeat (first | apply Kd.R_alloc | apply Kd.R_drewN | apply Kd.R_drew)); exact Kd.R_mono HO539.out (fun _ hk => ⟨hk.2, hk.1⟩)), (by (with_reducible repeat (first | apply Kd.R_alloc | apply Kd.R_drewN | apply Kd.R_drew)); exact Kd.R_mono HO542.out (fun _ hk => ⟨hk.1.2, hk.2⟩)), (bk_ BK531), (hg_ GE531)⟩)
   ·skip
    refine Kd.R_lit_step k23 _ 23 ?hg (N := 22) ?hd (xs := ([(⟨a1_0, a1_1⟩ : S23)] : List (S23))) (inner := [.string a1_0, .int .i64 a1_1]) (ok := fun _ => True) (okp := fun _ => True) ?hr ?hp (fun _ hk => hk) trivial (Below.refl _ _) (Nat.le_refl _) (by simp) ?_; (case hd => rfl); (case hg => rfl); (case hr => first | (go_simp; done) | (go_simp; rfl)); (case hp => exact (Reps.c2 (show Kd.M k23 _ _ _ (⟨a1_0, a1_1⟩ : S23) [.string a1_0, .int .i64 a1_1] from (k23_mkM _ _ _ (⟨a1_0, a1_1⟩ : S23) )) (Reps.none _ _)))
    intro v541 w21 ho22 hb hg_ hnew_
    clear hg_ hnew_
    (first | rw [← Ny540.out] at ho22 | (simp only [Int.reduceToNat] at ho22; rw [← Ny540.out] at ho22))
    have n0_ := ak_ (Kd.R_elder' (kr_ HO536) (Kd.R_base ho22) hb)
    have n1_ := ak_ (Kd.R_lower (Kd.R_newB (Kd.R_new' ho22 (Kd.R_lt (kr_ HO536))) (g := gb531) (o := .cells #[.string a1_0, .int .i64 a1_1] 23 (0, 0)) (bk_ BK531)) (below_size (hg_ GE531)))
    have n2_ := ak_ (blk_below (g := gb531) (o := .cells #[.string a1_0, .int .i64 a1_1] 23 (0, 0)) (bk_ BK531) hb)
    have n3_ := ak_ (below_step (hg_ GE531) hb)
    clear HO536
    clear BK531
    clear HB
    have HO536 := n0_
    have HO542 := n1_
    have BK531 := n2_
    have HB := n3_
    clear n0_ n1_ n2_ n3_
    clear hb ho22
    refine hK.out _ _ ⟨(blk_cell BK531.out 0).trans rfl, (blk_cell BK531.out 1).trans rfl⟩ (fun hHeld => ?_)
    clear hK K
    refine norm_ (a' := ?_) ?_ ?_
    rotate_left
    ·show Act.put _ (some 22) _ = _
     simp only [Act.put, sT_, s0_, sS_, i64_w, i32_w]
     rfl
    refine one_ (i := 2) (N := some 20) #[T_,T_,T_,T_,T_,F_,F_,F_] rfl rfl (one_of HT_.out (by kernel_rfl)) (by decide) (fun K hK => ?_)
    refine Kd.R_append_rows_step k23 (w0 := w) w.heap.size (by rfl) (.tmp 18) (.tmp 19) 30 23 (.agg #[(.string ⟨#[]⟩), (.int .i64 0)]) 24 rfl Tryd.underlying30 info23 rfl (by decide) (by omega) v535 y534 l0 _ _ _ (fun k_ => some k_ ≠ (v541 : Value).ownBlock ∧ k_ ≠ gb531) (fun _ => False) rfl rfl ?aO ?aR (fun _ _ h => h) (fun _ h => h.elim) ?aF ?aB ?aS ?aL ?_
    (case aR => exact kc_ (Kd.C_below HR0.out HB.out))
    (case aB => exact (hg_ GE531))
    (case aF => exact (fun k_ hk => ⟨Kd.fresh' (Kd.R_lt (kr_ HO542)) k_ hk, Kd.freshB (g := gb531) (o := .cells #[.string a1_0, .int .i64 a1_1] 23 (0, 0)) (bk_ BK531) k_ hk⟩))
    (case aO => exact (by (with_reducible repeat (first | apply Kd.R_alloc | apply Kd.R_drewN | apply Kd.R_drew)); exact Kd.R_mono HO536.out (fun _ hk => ⟨hk.2, hk.1.2⟩)))
    (case aS => exact (below_size (hg_ GE531)))
    (case aL => have := LMc12.out; omega)
    intro v538 w23 ho hb hg hat
    rw [← Ny537.out] at ho
    have n0_ := ak_ (blk_grown (g := gb531) (o := .cells #[.string a1_0, .int .i64 a1_1] 23 (0, 0)) (bk_ BK531) hg (Kd.R_away HO536.out (fun _ hk => hk.1.2)))
    have n1_ := ak_ (Kd.R_after (ok := (fun k_ => k_ ≠ gb531)) (by (with_reducible repeat (first | apply Kd.R_alloc | apply Kd.R_drewN | apply Kd.R_drew)); exact Kd.R_mono HO542.out (fun _ hk => ⟨hk.2, hk.1.2⟩)) hg hat)
    have n2_ := ak_ (hb)
    have n3_ := ak_ (ho)
    clear BK531
    clear HO542
    clear HB
    clear HO536
    have BK531 := n0_
    have HO542 := n1_
    have HB := n2_
    have HO539 := n3_
    clear n0_ n1_ n2_ n3_
    clear ho hb hg hat
    refine hK.out _ _ ⟨(blk_cell BK531.out 0).trans rfl, (blk_cell BK531.out 1).trans rfl⟩ (fun hHeld => ?_)
    clear hK K
    refine norm_ (a' := ?_) ?_ ?_
    rotate_left
    ·show Act.put _ (some 20) _ = _
     simp only [Act.put, sT_, s0_, sS_, i64_w, i32_w]
     rfl
    exact norm_ (by simp only [putAll, Act.put, List.setIfInBounds_toArray, List.set_cons_zero, List.set_cons_succ]) (hCont (v535, v538, v541) _ ⟨hHeld, (kr_ HO539), (by (with_reducible repeat (first | apply Kd.R_alloc | apply Kd.R_drewN | apply Kd.R_drew)); exact Kd.R_mono HO542.out (fun _ hk => ⟨hk.2, hk.1⟩)), (bk_ BK531), (hg_ GE531)⟩)
  ·skip
   refine Kd.R_lit_step k23 _ 23 ?hg (N := 22) ?hd (xs := ([(⟨a1_0, a1_1⟩ : S23)] : List (S23))) (inner := [.string a1_0, .int .i64 a1_1]) (ok := fun _ => True) (okp := fun _ => True) ?hr ?hp (fun _ hk => hk) trivial (Below.refl _ _) (Nat.le_refl _) (by simp) ?_; (case hd => rfl); (case hg => rfl); (case hr => first | (go_simp; done) | (go_simp; rfl)); (case hp => exact (Reps.c2 (show Kd.M k23 _ _ _ (⟨a1_0, a1_1⟩ : S23) [.string a1_0, .int .i64 a1_1] from (k23_mkM _ _ _ (⟨a1_0, a1_1⟩ : S23) )) (Reps.none _ _)))
   intro v541 w19 ho20 hb hg_ hnew_
   clear hg_ hnew_
   (first | rw [← Ny540.out] at ho20 | (simp only [Int.reduceToNat] at ho20; rw [← Ny540.out] at ho20))
   have n0_ := ak_ (Kd.R_lower (Kd.R_newB ho20 (g := gb531) (o := .cells #[.string a1_0, .int .i64 a1_1] 23 (0, 0)) (bk_ BK531)) (below_size (hg_ GE531)))
   have n1_ := ak_ (blk_below (g := gb531) (o := .cells #[.string a1_0, .int .i64 a1_1] 23 (0, 0)) (bk_ BK531) hb)
   have n2_ := ak_ (below_step (hg_ GE531) hb)
   clear BK531
   clear HB
   have HO542 := n0_
   have BK531 := n1_
   have HB := n2_
   clear n0_ n1_ n2_
   clear hb ho20
   refine hK.out _ _ ⟨(blk_cell BK531.out 0).trans rfl, (blk_cell BK531.out 1).trans rfl⟩ (fun hHeld => ?_)
   clear hK K
   refine norm_ (a' := ?_) ?_ ?_
   rotate_left
   ·show Act.put _ (some 22) _ = _
    simp only [Act.put, sT_, s0_, sS_, i64_w, i32_w]
    rfl
   refine one_ (i := 0) (N := some 18) #[T_,T_,F_,T_,T_,F_,F_,F_] rfl rfl (one_of HT_.out (by kernel_rfl)) (by decide) (fun K hK => ?_)
   refine Kd.R_lit_step k23 _ 23 ?hg (N := 18) ?hd (xs := ([] : List (S23))) (inner := []) (ok := fun _ => True) (okp := fun _ => True) ?hr ?hp (fun _ hk => hk) trivial (Below.refl _ _) (Nat.le_refl _) (by simp) ?_; (case hd => rfl); (case hg => rfl); (case hr => first | (go_simp; done) | (go_simp; rfl)); (case hp => exact (Reps.none _ _))
   intro v535 w21 ho22 hb hg_ hnew_
   clear hg_ hnew_
   (first | rw [← Ny534.out] at ho22 | (simp only [Int.reduceToNat] at ho22; rw [← Ny534.out] at ho22))
   have n0_ := ak_ (Kd.R_elder' (kr_ HO542) (Kd.R_base ho22) hb)
   have n1_ := ak_ (Kd.R_lower (Kd.R_newB (Kd.R_new' ho22 (Kd.R_lt (kr_ HO542))) (g := gb531) (o := .cells #[.string a1_0, .int .i64 a1_1] 23 (0, 0)) (bk_ BK531)) (below_size (hg_ GE531)))
   have n2_ := ak_ (blk_below (g := gb531) (o := .cells #[.string a1_0, .int .i64 a1_1] 23 (0, 0)) (bk_ BK531) hb)
   have n3_ := ak_ (below_step (hg_ GE531) hb)
   clear HO542
   clear BK531
   clear HB
   have HO542 := n0_
   have HO536 := n1_
   have BK531 := n2_
   have HB := n3_
   clear n0_ n1_ n2_ n3_
   clear hb ho22
   refine hK.out _ _ ⟨(blk_cell BK531.out 0).trans rfl, (blk_cell BK531.out 1).trans rfl⟩ (fun hHeld => ?_)
   clear hK K
   refine norm_ (a' := ?_) ?_ ?_
   rotate_left
   ·show Act.put _ (some 18) _ = _
    simp only [Act.put, sT_, s0_, sS_, i64_w, i32_w]
    rfl
   refine one_ (i := 2) (N := some 20) #[T_,T_,T_,T_,T_,F_,F_,F_] rfl rfl (one_of HT_.out (by kernel_rfl)) (by decide) (fun K hK => ?_)
   refine Kd.R_append_rows_step k23 (w0 := w) w.heap.size (by rfl) (.tmp 18) (.tmp 19) 30 23 (.agg #[(.string ⟨#[]⟩), (.int .i64 0)]) 24 rfl Tryd.underlying30 info23 rfl (by decide) (by omega) v535 y534 l0 _ _ _ (fun k_ => some k_ ≠ (v541 : Value).ownBlock ∧ k_ ≠ gb531) (fun _ => False) rfl rfl ?aO ?aR (fun _ _ h => h) (fun _ h => h.elim) ?aF ?aB ?aS ?aL ?_
   (case aR => exact kc_ (Kd.C_below HR0.out HB.out))
   (case aB => exact (hg_ GE531))
   (case aF => exact (fun k_ hk => ⟨Kd.fresh' (Kd.R_lt (kr_ HO542)) k_ hk, Kd.freshB (g := gb531) (o := .cells #[.string a1_0, .int .i64 a1_1] 23 (0, 0)) (bk_ BK531) k_ hk⟩))
   (case aO => exact (by (with_reducible repeat (first | apply Kd.R_alloc | apply Kd.R_drewN | apply Kd.R_drew)); exact Kd.R_mono HO536.out (fun _ hk => ⟨hk.1.2, hk.2⟩)))
   (case aS => exact (below_size (hg_ GE531)))
   (case aL => have := LMc12.out; omega)
   intro v538 w23 ho hb hg hat
   rw [← Ny537.out] at ho
   have n0_ := ak_ (blk_grown (g := gb531) (o := .cells #[.string a1_0, .int .i64 a1_1] 23 (0, 0)) (bk_ BK531) hg (Kd.R_away HO536.out (fun _ hk => hk.2)))
   have n1_ := ak_ (Kd.R_after (ok := (fun k_ => k_ ≠ gb531)) (by (with_reducible repeat (first | apply Kd.R_alloc | apply Kd.R_drewN | apply Kd.R_drew)); exact Kd.R_mono HO542.out (fun _ hk => ⟨hk.1.2, hk.2⟩)) hg hat)
   have n2_ := ak_ (hb)
   have n3_ := ak_ (ho)
   clear BK531
   clear HO542
   clear HB
   clear HO536
   have BK531 := n0_
   have HO542 := n1_
   have HB := n2_
   have HO539 := n3_
   clear n0_ n1_ n2_ n3_
   clear ho hb hg hat
   refine hK.out _ _ ⟨(blk_cell BK531.out 0).trans rfl, (blk_cell BK531.out 1).trans rfl⟩ (fun hHeld => ?_)
   clear hK K
   refine norm_ (a' := ?_) ?_ ?_
   rotate_left
   ·show Act.put _ (some 20) _ = _
    simp only [Act.put, sT_, s0_, sS_, i64_w, i32_w]
    rfl
   exact norm_ (by simp only [putAll, Act.put, List.setIfInBounds_toArray, List.set_cons_zero, List.set_cons_succ]) (hCont (v535, v538, v541) _ ⟨hHeld, (kr_ HO539), (by (with_reducible repeat (first | apply Kd.R_alloc | apply Kd.R_drewN | apply Kd.R_drew)); exact Kd.R_mono HO542.out (fun _ hk => ⟨hk.2, hk.1⟩)), (bk_ BK531), (hg_ GE531)⟩)
 rintro ⟨v535, v538, v541⟩ w24 ⟨hS_, h0_, h1_, h2_, h3_⟩
 have n0_ : Aside0 (Kd.R k23 23 w24 w.heap.size (fun k_ => some k_ ≠ (v541 : Value).ownBlock ∧ k_ ≠ gb531) v538 y537) := ⟨h0_⟩
 have n1_ : Aside0 (Kd.R k23 23 w24 w.heap.size (fun k_ => some k_ ≠ (v538 : Value).ownBlock ∧ k_ ≠ gb531) v541 y540) := ⟨h1_⟩
 have n2_ : Aside0 (w24.heap[gb531]? = some (.cells #[.string a1_0, .int .i64 a1_1] 23 (0, 0))) := ⟨h2_⟩
 have n3_ : Aside0 (Below w.heap.size w w24) := ⟨h3_⟩
 clear BK531
 clear HB
 clear h0_ h1_ h2_ h3_
 have HO539 := n0_
 have HO542 := n1_
 have BK531 := n2_
 have HB := n3_
 clear n0_ n1_ n2_ n3_
 have hHeld : w24.cell? ⟨gb531, 0, none⟩ = some (.string a1_0) ∧ w24.cell? ⟨gb531, 1, none⟩ = some (.int .i64 a1_1) := hS_
 obtain ⟨Ao26, co26, eo26⟩ := Kd.R_slice HO542.out
 (first | subst eo26 | (injection eo26 with f1_ f2_ f3_; have f4_ := f1_.symm; have f5_ := f3_.symm; clear f1_ f2_ f3_; subst f4_; subst f5_))
 refine norm_ (a' := ?_) ?_ ?_
 rotate_left
 ·simp only [putAll, Act.put, List.setIfInBounds_toArray, List.set_cons_zero, List.set_cons_succ]
  rfl
 refine one_ (i := 5) (N := some 23) #[T_,T_,T_,T_,T_,T_,F_,F_] rfl rfl (one_of HT_.out (by kernel_rfl)) (by decide) (fun K hK => ?_)
 refine Kd.R_append_rows_step k23 (w0 := w) w.heap.size (by rfl) (.tmp 20) (.tmp 22) 30 23 (.agg #[(.string ⟨#[]⟩), (.int .i64 0)]) 24 rfl Tryd.underlying30 info23 rfl (by decide) (by omega) v538 y537 y540 _ _ _ (fun k_ => some k_ ≠ (.slice Ao26 y540.length co26 : Value).ownBlock ∧ k_ ≠ gb531) (fun _ => False) rfl rfl ?aO ?aR (fun _ _ h => h) (fun _ h => h.elim) ?aF ?aB ?aS ?aL ?_
 (case aR => repeat (first | exact (Kd.R_reads' HO542.out).2.2 | (with_reducible refine Kd.C_alloc ?_ _) | (with_reducible refine Kd.C_drewN ?_ _) | (with_reducible refine Kd.C_drew ?_)))
 (case aB => exact (hg_ GE531))
 (case aF => exact (fun k_ hk => ⟨Kd.fresh' (Kd.R_lt (kr_ HO542)) k_ hk, Kd.freshB (g := gb531) (o := .cells #[.string a1_0, .int .i64 a1_1] 23 (0, 0)) (bk_ BK531) k_ hk⟩))
 (case aO => exact (kr_ HO539))
 (case aS => exact (below_size (hg_ GE531)))
 (case aL => have := LMc13.out; omega)
 intro v544 w25 ho hb hg hat
 rw [← Ny543.out] at ho
 have n0_ := ak_ (blk_grown (g := gb531) (o := .cells #[.string a1_0, .int .i64 a1_1] 23 (0, 0)) (bk_ BK531) hg (Kd.R_away HO539.out (fun _ hk => hk.2)))
 have n1_ := ak_ (Kd.R_after (ok := (fun k_ => k_ ≠ gb531)) (by (with_reducible repeat (first | apply Kd.R_alloc | apply Kd.R_drewN | apply Kd.R_drew)); exact Kd.R_mono HO542.out (fun _ hk => ⟨hk.2, hk.1⟩)) hg hat)
 have n2_ := ak_ (hb)
 have n3_ := ak_ (ho)
 clear BK531
 clear HO542
 clear HB
 clear HO539
 have BK531 := n0_
 have HO542 := n1_
 have HB := n2_
 have HO545 := n3_
 clear n0_ n1_ n2_ n3_
 clear ho hb hg hat
 refine hK.out _ _ ⟨(blk_cell BK531.out 0).trans rfl, (blk_cell BK531.out 1).trans rfl⟩ (fun hHeld => ?_)
 clear hK K
 refine norm_ (a' := ?_) ?_ ?_
 rotate_left
 ·show Act.put _ (some 23) _ = _
  simp only [Act.put, sT_, s0_, sS_, i64_w, i32_w]
  rfl
 refine pv (i := 6) (N := some 4) HT_ ?_
 refine pv (i := 7) (N := some 5) HT_ ?_
 refine done_ (done_of HT_.out (by kernel_rfl)) ?_
 try go_wp2
 go_ret2
 exact ⟨_, ew_, by (with_reducible repeat (first | apply Kd.R_alloc | apply Kd.R_drewN | apply Kd.R_drew)); exact Kd.R_mono HO545.out (fun _ hk => trivial), (hg_ GE531)⟩
/-! ### spec_AddCoil: function 25 -/
def spec_AddCoil.f (k : Nat) (l0 : List (S23)) (a1_0 : ByteArray) (a1_1 : Int) : Option ((List (S23)) × Int) := (spec_l23Ok.f k l0).bind fun t547 => (if t547 = true then ((spec_l23One.f k a1_0 a1_1).bind fun t548 => (if t548 = true then (if (l0.length : Int) ≥ 40 then (some (([] : List (S23)), 5)) else ((some (([] : List (S23)) : List (S23))).bind fun y549 => (if y549.length + l0.length < 5864062014805 then ((some (y549 ++ l0 : List (S23))).bind fun y552 => ((some (([(⟨a1_0, a1_1⟩ : S23)] : List (S23)) : List (S23))).bind fun y555 => (if y552.length + y555.length < 5864062014805 then (some ((y552 ++ y555), 0)) else (none)))) else (none)))) else (some (([] : List (S23)), 2)))) else (some (([] : List (S23)), 1)))
def spec_AddCoil.T7 : Bool × List (List Nat × List Nat) := (true, [([], []), ([], []), ([0, 1], [0, 1]), ([], []), ([3], [3]), ([2, 4, 2], [2, 4]), ([5, 5, 0, 1, 2, 3, 4, 5], [5]), ([6, 0, 1, 2, 3, 4, 5, 6], [])])
def spec_AddCoil.B7 : List Nat := [0, 0, 3, 0, 8, 31, 63, 127]
theorem spec_AddCoil.tab7 : rtab .any (opsOf Tryd.f25 7) = spec_AddCoil.T7 := by kernel_rfl
theorem spec_AddCoil.bits7 : waitsOk spec_AddCoil.T7.2 spec_AddCoil.B7 = true := by kernel_rfl
set_option maxHeartbeats 8000000 in
set_option maxRecDepth 100000 in
theorem spec_AddCoil.calls (k : Nat) (A0 : Option Addr) (c0 : Nat) (l0 : List (S23)) (a1_0 : ByteArray) (a1_1 : Int) (r1 : List (S23)) (r2 : Int) (w : World) (hr0 : Kd.C k23 w A0 l0.length l0) (hc0 : l0.length ≤ c0) (h : spec_AddCoil.f k l0 a1_0 a1_1 = some (r1, r2)) :
  Calls Tryd.prog 25 #[.slice A0 l0.length c0, .agg #[.string a1_0, .int .i64 a1_1]] w fun e w' => ∃ v0_ : Value, e = .returned (.tuple #[v0_, .int .i64 r2]) ∧ Kd.R k23 23 w' w.heap.size (fun _ => True) v0_ r1 ∧ Below w.heap.size w w' := by
 have hu23 := Tryd.underlying23
 have HR0 := ak_ hr0
 have HC0 := ak_ hc0
 clear hr0 hc0
 have HB := ak_ (Below.refl w.heap.size w)
 have H : ((spec_l23Ok.f k l0).bind fun t547 => (if t547 = true then ((spec_l23One.f k a1_0 a1_1).bind fun t548 => (if t548 = true then (if (l0.length : Int) ≥ 40 then (some (([] : List (S23)), 5)) else ((some (([] : List (S23)) : List (S23))).bind fun y549 => (if y549.length + l0.length < 5864062014805 then ((some (y549 ++ l0 : List (S23))).bind fun y552 => ((some (([(⟨a1_0, a1_1⟩ : S23)] : List (S23)) : List (S23))).bind fun y555 => (if y552.length + y555.length < 5864062014805 then (some ((y552 ++ y555), 0)) else (none)))) else (none)))) else (some (([] : List (S23)), 2)))) else (some (([] : List (S23)), 1)))) = some (r1, r2) := h
 clear h
 replace H := ob_ H
 obtain ⟨t547, A30, H⟩ := H
 (try dsimp only at H)
 have A3 := ak_ A30
 clear A30
 by_cases c4 : t547 = true
 rotate_left
 ·replace c4 := Bool.eq_false_iff.mpr c4
  subst c4
  have H1 : (some (([] : List (S23)), 1)) = some (r1, r2) := by rw [if_neg (show ¬ (false = true) by decide)] at H; exact H
  clear H
  have H := H1
  clear H1
  simp only [Option.some.injEq, Prod.mk.injEq] at H
  obtain ⟨rfl, rfl⟩ := H
  go_enter Tryd.func25, Tryd.ntmps25
  go_wp2_with (first | ((with_reducible refine gate_dst (N := 3) rfl ?_); refine box_event ?hg (N := 3) ?hd (cs := #[.string a1_0, .int .i64 a1_1]) (t := 23) ?hr ?_; (case hd => rfl); (case hg => rfl); (case hr => first | (go_simp; done) | (go_simp; rfl)); intro gb546 hg w28 hbox hb; have BK546 := ak_ (hbox); have GW546 := ak_ ((by rw [hg]; exact (below_size hb_) : w.heap.size ≤ gb546)); have GE546 := ak_ ((by rw [hg]; exact (below_size hb_) : w.heap.size ≤ gb546)); replace HB := ak_ (below_step hb_ hb); skip; clear hb hbox hg) | ((with_reducible refine gate_callee (f := 81) rfl ?_); refine goesL_ (some 7) rfl rfl Tryd.func81 (by kernel_rfl) rfl #[.slice A0 l0.length c0] rfl ln_ ?_; (with_reducible refine (spec_l23Ok.calls k _ _ l0 false _ (kc_ (Kd.C_below HR0.out HB.out)) HC0.out A3.out).mono ?_); rintro e w29 ⟨rfl, hb⟩; refine ⟨_, rfl, ?_⟩; replace BK546 := ak_ (blk_below (g := gb546) (o := .cells #[.string a1_0, .int .i64 a1_1] 23 (0, 0)) (bk_ BK546) hb); replace HB := ak_ (below_step (hg_ GE546) hb); skip; clear hb))
  go_ret2
  exact ⟨_, ew_, by first | exact Kd.R_nil _ _ _ _ _ | exact Kd.N_nil _ _ _ _ _ | exact Kd.V_nil _ _ _ _ _ | exact Kd.Q_nil _ _ _ _ _ | exact Kd.S_nil _ _ _ _ _, (hg_ GE546)⟩

 subst c4
 have H1 : ((spec_l23One.f k a1_0 a1_1).bind fun t548 => (if t548 = true then (if (l0.length : Int) ≥ 40 then (some (([] : List (S23)), 5)) else ((some (([] : List (S23)) : List (S23))).bind fun y549 => (if y549.length + l0.length < 5864062014805 then ((some (y549 ++ l0 : List (S23))).bind fun y552 => ((some (([(⟨a1_0, a1_1⟩ : S23)] : List (S23)) : List (S23))).bind fun y555 => (if y552.length + y555.length < 5864062014805 then (some ((y552 ++ y555), 0)) else (none)))) else (none)))) else (some (([] : List (S23)), 2)))) = some (r1, r2) := by rw [if_pos rfl] at H; exact H
 clear H
 have H := H1
 clear H1
 replace H := ob_ H
 obtain ⟨t548, A50, H⟩ := H
 (try dsimp only at H)
 have A5 := ak_ A50
 clear A50
 by_cases c6 : t548 = true
 rotate_left
 ·replace c6 := Bool.eq_false_iff.mpr c6
  subst c6
  have H1 : (some (([] : List (S23)), 2)) = some (r1, r2) := by rw [if_neg (show ¬ (false = true) by decide)] at H; exact H
  clear H
  have H := H1
  clear H1
  simp only [Option.some.injEq, Prod.mk.injEq] at H
  obtain ⟨rfl, rfl⟩ := H
  go_enter Tryd.func25, Tryd.ntmps25
  go_wp2_with (first | ((with_reducible refine gate_dst (N := 3) rfl ?_); refine box_event ?hg (N := 3) ?hd (cs := #[.string a1_0, .int .i64 a1_1]) (t := 23) ?hr ?_; (case hd => rfl); (case hg => rfl); (case hr => first | (go_simp; done) | (go_simp; rfl)); intro gb546 hg w25 hbox hb; have BK546 := ak_ (hbox); have GW546 := ak_ ((by rw [hg]; exact (below_size hb_) : w.heap.size ≤ gb546)); have GE546 := ak_ ((by rw [hg]; exact (below_size hb_) : w.heap.size ≤ gb546)); replace HB := ak_ (below_step hb_ hb); skip; clear hb hbox hg) | ((with_reducible refine gate_callee (f := 81) rfl ?_); refine goesL_ (some 7) rfl rfl Tryd.func81 (by kernel_rfl) rfl #[.slice A0 l0.length c0] rfl ln_ ?_; (with_reducible refine (spec_l23Ok.calls k _ _ l0 true _ (kc_ (Kd.C_below HR0.out HB.out)) HC0.out A3.out).mono ?_); rintro e w26 ⟨rfl, hb⟩; refine ⟨_, rfl, ?_⟩; replace BK546 := ak_ (blk_below (g := gb546) (o := .cells #[.string a1_0, .int .i64 a1_1] 23 (0, 0)) (bk_ BK546) hb); replace HB := ak_ (below_step (hg_ GE546) hb); skip; clear hb) | ((with_reducible refine gate_callee (f := 66) rfl ?_); refine goesL_ (some 9) rfl rfl Tryd.func66 (by kernel_rfl) rfl #[.pointer (some ⟨gb546, 0, none⟩)] rfl ln_ ?_; (with_reducible refine (spec_l23One.calls k _ a1_0 a1_1 false _ ((blk_cell (t := 23) (cs := #[.string a1_0, .int .i64 a1_1]) (bk_ BK546) 0).trans rfl) ((blk_cell (t := 23) (cs := #[.string a1_0, .int .i64 a1_1]) (bk_ BK546) 1).trans rfl) A5.out).mono ?_); rintro e w27 ⟨rfl, hb⟩; refine ⟨_, rfl, ?_⟩; replace BK546 := ak_ (blk_below (g := gb546) (o := .cells #[.string a1_0, .int .i64 a1_1] 23 (0, 0)) (bk_ BK546) hb); replace HB := ak_ (below_step (hg_ GE546) hb); skip; clear hb))
  go_ret2
  exact ⟨_, ew_, by first | exact Kd.R_nil _ _ _ _ _ | exact Kd.N_nil _ _ _ _ _ | exact Kd.V_nil _ _ _ _ _ | exact Kd.Q_nil _ _ _ _ _ | exact Kd.S_nil _ _ _ _ _, (hg_ GE546)⟩
 subst c6
 have H1 : (if (l0.length : Int) ≥ 40 then (some (([] : List (S23)), 5)) else ((some (([] : List (S23)) : List (S23))).bind fun y549 => (if y549.length + l0.length < 5864062014805 then ((some (y549 ++ l0 : List (S23))).bind fun y552 => ((some (([(⟨a1_0, a1_1⟩ : S23)] : List (S23)) : List (S23))).bind fun y555 => (if y552.length + y555.length < 5864062014805 then (some ((y552 ++ y555), 0)) else (none)))) else (none)))) = some (r1, r2) := by rw [if_pos rfl] at H; exact H
 clear H
 have H := H1
 clear H1
 by_cases c7 : (l0.length : Int) ≥ 40
 ·rw [if_pos c7] at H
  have c7b0 : decide (40 ≤ (l0.length : Int)) = true := dt_ c7
  have c7b1 : decide (40 ≤ l0.length) = true := dt_ (by omega)
  clear c7
  simp only [Option.some.injEq, Prod.mk.injEq] at H
  obtain ⟨rfl, rfl⟩ := H
  go_enter Tryd.func25, Tryd.ntmps25
  go_wp2_with (first | ((with_reducible refine gate_dst (N := 3) rfl ?_); refine box_event ?hg (N := 3) ?hd (cs := #[.string a1_0, .int .i64 a1_1]) (t := 23) ?hr ?_; (case hd => rfl); (case hg => rfl); (case hr => first | (go_simp; done) | (go_simp; rfl)); intro gb546 hg w8 hbox hb; have BK546 := ak_ (hbox); have GW546 := ak_ ((by rw [hg]; exact (below_size hb_) : w.heap.size ≤ gb546)); have GE546 := ak_ ((by rw [hg]; exact (below_size hb_) : w.heap.size ≤ gb546)); replace HB := ak_ (below_step hb_ hb); skip; clear hb hbox hg) | ((with_reducible refine gate_callee (f := 81) rfl ?_); refine goesL_ (some 7) rfl rfl Tryd.func81 (by kernel_rfl) rfl #[.slice A0 l0.length c0] rfl ln_ ?_; (with_reducible refine (spec_l23Ok.calls k _ _ l0 true _ (kc_ (Kd.C_below HR0.out HB.out)) HC0.out A3.out).mono ?_); rintro e w9 ⟨rfl, hb⟩; refine ⟨_, rfl, ?_⟩; replace BK546 := ak_ (blk_below (g := gb546) (o := .cells #[.string a1_0, .int .i64 a1_1] 23 (0, 0)) (bk_ BK546) hb); replace HB := ak_ (below_step (hg_ GE546) hb); skip; clear hb) | ((with_reducible refine gate_callee (f := 66) rfl ?_); refine goesL_ (some 9) rfl rfl Tryd.func66 (by kernel_rfl) rfl #[.pointer (some ⟨gb546, 0, none⟩)] rfl ln_ ?_; (with_reducible refine (spec_l23One.calls k _ a1_0 a1_1 true _ ((blk_cell (t := 23) (cs := #[.string a1_0, .int .i64 a1_1]) (bk_ BK546) 0).trans rfl) ((blk_cell (t := 23) (cs := #[.string a1_0, .int .i64 a1_1]) (bk_ BK546) 1).trans rfl) A5.out).mono ?_); rintro e w10 ⟨rfl, hb⟩; refine ⟨_, rfl, ?_⟩; replace BK546 := ak_ (blk_below (g := gb546) (o := .cells #[.string a1_0, .int .i64 a1_1] 23 (0, 0)) (bk_ BK546) hb); replace HB := ak_ (below_step (hg_ GE546) hb); skip; clear hb))
  go_ret2
  exact ⟨_, ew_, by first | exact Kd.R_nil _ _ _ _ _ | exact Kd.N_nil _ _ _ _ _ | exact Kd.V_nil _ _ _ _ _ | exact Kd.Q_nil _ _ _ _ _ | exact Kd.S_nil _ _ _ _ _, (hg_ GE546)⟩
 rw [if_neg c7] at H
 have c7b0 : decide (40 ≤ (l0.length : Int)) = false := decide_eq_false c7
 have c7b1 : decide (40 ≤ l0.length) = false := decide_eq_false (by omega)
 clear c7
 obtain ⟨y549, hy549⟩ : ∃ y_ : List (S23), y_ = (([] : List (S23))) := ⟨_, rfl⟩
 replace H : (if y549.length + l0.length < 5864062014805 then ((some (y549 ++ l0 : List (S23))).bind fun y552 => ((some (([(⟨a1_0, a1_1⟩ : S23)] : List (S23)) : List (S23))).bind fun y555 => (if y552.length + y555.length < 5864062014805 then (some ((y552 ++ y555), 0)) else (none)))) else (none)) = some (r1, r2) := by first | (rw [hy549]; with_reducible exact H) | (have H2_ := (Option.bind_some _ _).symm.trans H; rw [hy549]; with_reducible exact H2_) | (have H2_ := (Option.bind_some _ _).symm.trans H; with_reducible exact H2_) | with_reducible exact H | (rw [hy549]; exact H) | exact H
 have Ny549 := ak_ hy549
 clear hy549
 by_cases c11 : y549.length + l0.length < 5864062014805
 rotate_left
 ·rw [if_neg c11] at H
  exact absurd H (by simp)
 rw [if_pos c11] at H
 have LMc11 := ak_ c11
 clear c11
 obtain ⟨y552, hy552⟩ : ∃ y_ : List (S23), y_ = (y549 ++ l0) := ⟨_, rfl⟩
 replace H : ((some (([(⟨a1_0, a1_1⟩ : S23)] : List (S23)) : List (S23))).bind fun y555 => (if y552.length + y555.length < 5864062014805 then (some ((y552 ++ y555), 0)) else (none))) = some (r1, r2) := by first | (rw [hy552]; with_reducible exact H) | (have H2_ := (Option.bind_some _ _).symm.trans H; rw [hy552]; with_reducible exact H2_) | (have H2_ := (Option.bind_some _ _).symm.trans H; with_reducible exact H2_) | with_reducible exact H | (rw [hy552]; exact H) | exact H
 have Ny552 := ak_ hy552
 clear hy552
 obtain ⟨y555, hy555⟩ : ∃ y_ : List (S23), y_ = (([(⟨a1_0, a1_1⟩ : S23)] : List (S23))) := ⟨_, rfl⟩
 replace H : (if y552.length + y555.length < 5864062014805 then (some ((y552 ++ y555), 0)) else (none)) = some (r1, r2) := by first | (rw [hy555]; with_reducible exact H) | (have H2_ := (Option.bind_some _ _).symm.trans H; rw [hy555]; with_reducible exact H2_) | (have H2_ := (Option.bind_some _ _).symm.trans H; with_reducible exact H2_) | with_reducible exact H | (rw [hy555]; exact H) | exact H
 have Ny555 := ak_ hy555
 clear hy555
 by_cases c12 : y552.length + y555.length < 5864062014805
 rotate_left
 ·rw [if_neg c12] at H
  exact absurd H (by simp)
 rw [if_pos c12] at H
 have LMc12 := ak_ c12
 clear c12
 obtain ⟨y558, hy558⟩ : ∃ y_ : List (S23), y_ = (y552 ++ y555) := ⟨_, rfl⟩
 replace H : (some (y558, 0)) = some (r1, r2) := by first | (rw [hy558]; with_reducible exact H) | (have H2_ := (Option.bind_some _ _).symm.trans H; rw [hy558]; with_reducible exact H2_) | (have H2_ := (Option.bind_some _ _).symm.trans H; with_reducible exact H2_) | with_reducible exact H | (rw [hy558]; exact H) | exact H
 have Ny558 := ak_ hy558
 clear hy558
 simp only [Option.some.injEq, Prod.mk.injEq] at H
 obtain ⟨rfl, rfl⟩ := H
 go_enter Tryd.func25, Tryd.ntmps25
 try go_wp2_with (first | ((with_reducible refine gate_dst (N := 3) rfl ?_); refine box_event ?hg (N := 3) ?hd (cs := #[.string a1_0, .int .i64 a1_1]) (t := 23) ?hr ?_; (case hd => rfl); (case hg => rfl); (case hr => first | (go_simp; done) | (go_simp; rfl)); intro gb546 hg w13 hbox hb; have BK546 := ak_ (hbox); have GW546 := ak_ ((by rw [hg]; exact (below_size hb_) : w.heap.size ≤ gb546)); have GE546 := ak_ ((by rw [hg]; exact (below_size hb_) : w.heap.size ≤ gb546)); replace HB := ak_ (below_step hb_ hb); skip; clear hb hbox hg) | ((with_reducible refine gate_callee (f := 81) rfl ?_); refine goesL_ (some 7) rfl rfl Tryd.func81 (by kernel_rfl) rfl #[.slice A0 l0.length c0] rfl ln_ ?_; (with_reducible refine (spec_l23Ok.calls k _ _ l0 true _ (kc_ (Kd.C_below HR0.out HB.out)) HC0.out A3.out).mono ?_); rintro e w14 ⟨rfl, hb⟩; refine ⟨_, rfl, ?_⟩; replace BK546 := ak_ (blk_below (g := gb546) (o := .cells #[.string a1_0, .int .i64 a1_1] 23 (0, 0)) (bk_ BK546) hb); replace HB := ak_ (below_step (hg_ GE546) hb); skip; clear hb) | ((with_reducible refine gate_callee (f := 66) rfl ?_); refine goesL_ (some 9) rfl rfl Tryd.func66 (by kernel_rfl) rfl #[.pointer (some ⟨gb546, 0, none⟩)] rfl ln_ ?_; (with_reducible refine (spec_l23One.calls k _ a1_0 a1_1 true _ ((blk_cell (t := 23) (cs := #[.string a1_0, .int .i64 a1_1]) (bk_ BK546) 0).trans rfl) ((blk_cell (t := 23) (cs := #[.string a1_0, .int .i64 a1_1]) (bk_ BK546) 1).trans rfl) A5.out).mono ?_); rintro e w15 ⟨rfl, hb⟩; refine ⟨_, rfl, ?_⟩; replace BK546 := ak_ (blk_below (g := gb546) (o := .cells #[.string a1_0, .int .i64 a1_1] 23 (0, 0)) (bk_ BK546) hb); replace HB := ak_ (below_step (hg_ GE546) hb); skip; clear hb))
 have n0_ := ak_ (blk_drew BK546.out)
 have n1_ := ak_ (below_drew1 HB.out)
 clear BK546
 clear HB
 have BK546 := n0_
 have HB := n1_
 clear n0_ n1_
 refine start_ (n := 8) (S := fun w' => w'.cell? ⟨gb546, 0, none⟩ = some (.string a1_0) ∧ w'.cell? ⟨gb546, 1, none⟩ = some (.int .i64 a1_1)) (ds := []) #[F_,F_,F_,F_,F_,F_,F_,F_] (by kernel_rfl) rfl rfl ⟨(blk_cell BK546.out 0).trans rfl, (blk_cell BK546.out 1).trans rfl⟩ (fun hHeld => ?_); refine with_tabW spec_AddCoil.tab7 spec_AddCoil.bits7 (fun HT_ HW_ => ?_)
 generalize w15.drew = w16 at BK546 HB hHeld ⊢
 refine pv (i := 1) (N := some 15) HT_ ?_
 refine take_ (i := 3) (N := some 17) (v := ?_) (a' := ?_) #[F_,T_,F_,T_,F_,F_,F_,F_] rfl rfl (take_ofW HT_.out HW_.out (by kernel_rfl)) (fun _ _ _ h => h) (Or.inl ⟨by rfl, ?_⟩) hHeld ?_ ?_
 rotate_left
 ·rintro w' ⟨s0, s1⟩
  go_simp
  with_reducible rfl
 rotate_left
 ·simp only [Act.put, sT_, s0_, sS_, i64_w, i32_w]
  rfl
 refine join_ (σ := Value × Value × Value) 3 #[T_,T_,T_,T_,T_,F_,F_,F_] (fun s_ => [(14, s_.1), (16, s_.2.1), (18, s_.2.2)]) (fun s_ w' => (w'.cell? ⟨gb546, 0, none⟩ = some (.string a1_0) ∧ w'.cell? ⟨gb546, 1, none⟩ = some (.int .i64 a1_1)) ∧ (Kd.R k23 23 w' w.heap.size (fun k_ => some k_ ≠ (s_.2.2 : Value).ownBlock ∧ k_ ≠ gb546) s_.2.1 y552) ∧ (Kd.R k23 23 w' w.heap.size (fun k_ => some k_ ≠ (s_.2.1 : Value).ownBlock ∧ k_ ≠ gb546) s_.2.2 y555) ∧ (w'.heap[gb546]? = some (.cells #[.string a1_0, .int .i64 a1_1] 23 (0, 0))) ∧ (Below w.heap.size w w')) ?_ ?_
 rotate_left
 ·intro hCont
  refine two_ (i := 0) (j := 4) (Ni := some 14) (Nj := some 18) #[T_,T_,F_,T_,F_,F_,F_,F_] #[F_,T_,F_,T_,T_,F_,F_,F_] rfl rfl rfl rfl (two_of HT_.out (by kernel_rfl)) (by decide) (by decide) (fun K hK => ?_) (fun K hK => ?_)
  ·skip
   refine Kd.R_lit_step k23 _ 23 ?hg (N := 14) ?hd (xs := ([] : List (S23))) (inner := []) (ok := fun _ => True) (okp := fun _ => True) ?hr ?hp (fun _ hk => hk) trivial (Below.refl _ _) (Nat.le_refl _) (by simp) ?_; (case hd => rfl); (case hg => rfl); (case hr => first | (go_simp; done) | (go_simp; rfl)); (case hp => exact (Reps.none _ _))
   intro v550 w17 ho18 hb hg_ hnew_
   clear hg_ hnew_
   (first | rw [← Ny549.out] at ho18 | (simp only [Int.reduceToNat] at ho18; rw [← Ny549.out] at ho18))
   have n0_ := ak_ (Kd.R_lower (Kd.R_newB ho18 (g := gb546) (o := .cells #[.string a1_0, .int .i64 a1_1] 23 (0, 0)) (bk_ BK546)) (below_size (hg_ GE546)))
   have n1_ := ak_ (blk_below (g := gb546) (o := .cells #[.string a1_0, .int .i64 a1_1] 23 (0, 0)) (bk_ BK546) hb)
   have n2_ := ak_ (below_step (hg_ GE546) hb)
   clear BK546
   clear HB
   have HO551 := n0_
   have BK546 := n1_
   have HB := n2_
   clear n0_ n1_ n2_
   clear hb ho18
   refine hK.out _ _ ⟨(blk_cell BK546.out 0).trans rfl, (blk_cell BK546.out 1).trans rfl⟩ (fun hHeld => ?_)
   clear hK K
   refine norm_ (a' := ?_) ?_ ?_
   rotate_left
   ·show Act.put _ (some 14) _ = _
    simp only [Act.put, sT_, s0_, sS_, i64_w, i32_w]
    rfl
   refine two_ (i := 2) (j := 4) (Ni := some 16) (Nj := some 18) #[T_,T_,T_,T_,F_,F_,F_,F_] #[T_,T_,F_,T_,T_,F_,F_,F_] rfl rfl rfl rfl (two_of HT_.out (by kernel_rfl)) (by decide) (by decide) (fun K hK => ?_) (fun K hK => ?_)
   ·skip
    refine Kd.R_append_rows_step k23 (w0 := w) w.heap.size (by rfl) (.tmp 14) (.tmp 15) 30 23 (.agg #[(.string ⟨#[]⟩), (.int .i64 0)]) 24 rfl Tryd.underlying30 info23 rfl (by decide) (by omega) v550 y549 l0 _ _ _ (fun k_ => k_ ≠ gb546) (fun _ => False) rfl rfl ?aO ?aR (fun _ _ h => h) (fun _ h => h.elim) ?aF ?aB ?aS ?aL ?_
    (case aR => exact kc_ (Kd.C_below HR0.out HB.out))
    (case aB => exact (hg_ GE546))
    (case aF => exact (fun k_ hk => Kd.freshB (g := gb546) (o := .cells #[.string a1_0, .int .i64 a1_1] 23 (0, 0)) (bk_ BK546) k_ hk))
    (case aO => exact (by (with_reducible repeat (first | apply Kd.R_alloc | apply Kd.R_drewN | apply Kd.R_drew)); exact Kd.R_mono HO551.out (fun _ hk => hk.2)))
    (case aS => exact (below_size (hg_ GE546)))
    (case aL => have := LMc11.out; omega)
    intro v553 w19 ho hb hg hat
    rw [← Ny552.out] at ho
    have n0_ := ak_ (blk_grown (g := gb546) (o := .cells #[.string a1_0, .int .i64 a1_1] 23 (0, 0)) (bk_ BK546) hg (Kd.R_away HO551.out (fun _ hk => hk.2)))
    have n1_ := ak_ (hb)
    have n2_ := ak_ (ho)
    clear BK546
    clear HB
    clear HO551
    have BK546 := n0_
    have HB := n1_
    have HO554 := n2_
    clear n0_ n1_ n2_
    clear ho hb hg hat
    refine hK.out _ _ ⟨(blk_cell BK546.out 0).trans rfl, (blk_cell BK546.out 1).trans rfl⟩ (fun hHeld => ?_)
    clear hK K
    refine norm_ (a' := ?_) ?_ ?_
    rotate_left
    ·show Act.put _ (some 16) _ = _
     simp only [Act.put, sT_, s0_, sS_, i64_w, i32_w]
     rfl
    refine one_ (i := 4) (N := some 18) #[T_,T_,T_,T_,T_,F_,F_,F_] rfl rfl (one_of HT_.out (by kernel_rfl)) (by decide) (fun K hK => ?_)
    refine Kd.R_lit_step k23 _ 23 ?hg (N := 18) ?hd (xs := ([(⟨a1_0, a1_1⟩ : S23)] : List (S23))) (inner := [.string a1_0, .int .i64 a1_1]) (ok := fun _ => True) (okp := fun _ => True) ?hr ?hp (fun _ hk => hk) trivial (Below.refl _ _) (Nat.le_refl _) (by simp) ?_; (case hd => rfl); (case hg => rfl); (case hr => first | (go_simp; done) | (go_simp; rfl)); (case hp => exact (Reps.c2 (show Kd.M k23 _ _ _ (⟨a1_0, a1_1⟩ : S23) [.string a1_0, .int .i64 a1_1] from (k23_mkM _ _ _ (⟨a1_0, a1_1⟩ : S23) )) (Reps.none _ _)))
    intro v556 w20 ho21 hb hg_ hnew_
    clear hg_ hnew_
    (first | rw [← Ny555.out] at ho21 | (simp only [Int.reduceToNat] at ho21; rw [← Ny555.out] at ho21))
    have n0_ := ak_ (Kd.R_elder' (kr_ HO554) (Kd.R_base ho21) hb)
    have n1_ := ak_ (Kd.R_lower (Kd.R_newB (Kd.R_new' ho21 (Kd.R_lt (kr_ HO554))) (g := gb546) (o := .cells #[.string a1_0, .int .i64 a1_1] 23 (0, 0)) (bk_ BK546)) (below_size (hg_ GE546)))
    have n2_ := ak_ (blk_below (g := gb546) (o := .cells #[.string a1_0, .int .i64 a1_1] 23 (0, 0)) (bk_ BK546) hb)
    have n3_ := ak_ (below_step (hg_ GE546) hb)
    clear HO554
    clear BK546
    clear HB
    have HO554 := n0_
    have HO557 := n1_
    have BK546 := n2_
    have HB := n3_
    clear n0_ n1_ n2_ n3_
    clear hb ho21
    refine hK.out _ _ ⟨(blk_cell BK546.out 0).trans rfl, (blk_cell BK546.out 1).trans rfl⟩ (fun hHeld => ?_)
    clear hK K
    refine norm_ (a' := ?_) ?_ ?_
    rotate_left
    ·show Act.put _ (some 18) _ = _
     simp only [Act.put, sT_, s0_, sS_, i64_w, i32_w]
     rfl
    exact norm_ (by simp only [putAll, Act.put, List.setIfInBounds_toArray, List.set_cons_zero, List.set_cons_succ]) (hCont (v550, v553, v556) _ ⟨hHeld, (by (with_reducible repeat (first | apply Kd.R_alloc | apply Kd.R_drewN | apply Kd.R_drew)); exact Kd.R_mono HO554.out (fun _ hk => ⟨hk.2, hk.1⟩)), (by (with_reducible repeat (first | apply Kd.R_alloc | apply Kd.R_drewN | apply Kd.R_drew)); exact Kd.R_mono HO557.out (fun _ hk => ⟨hk.1.2, hk.2⟩)), (bk_ BK546), (hg_ GE546)⟩)
   ·skip
    refine Kd.R_lit_step k23 _ 23 ?hg (N := 18) ?hd (xs := ([(⟨a1_0, a1_1⟩ : S23)] : List (S23))) (inner := [.string a1_0, .int .i64 a1_1]) (ok := fun _ => True) (okp := fun _ => True) ?hr ?hp (fun _ hk => hk) trivial (Below.refl _ _) (Nat.le_refl _) (by simp) ?_; (case hd => rfl); (case hg => rfl); (case hr => first | (go_simp; done) | (go_simp; rfl)); (case hp => exact (Reps.c2 (show Kd.M k23 _ _ _ (⟨a1_0, a1_1⟩ : S23) [.string a1_0, .int .i64 a1_1] from (k23_mkM _ _ _ (⟨a1_0, a1_1⟩ : S23) )) (Reps.none _ _)))
    intro v556 w19 ho20 hb hg_ hnew_
    clear hg_ hnew_
    (first | rw [← Ny555.out] at ho20 | (simp only [Int.reduceToNat] at ho20; rw [← Ny555.out] at ho20))
    have n0_ := ak_ (Kd.R_elder' (kr_ HO551) (Kd.R_base ho20) hb)
    have n1_ := ak_ (Kd.R_lower (Kd.R_newB (Kd.R_new' ho20 (Kd.R_lt (kr_ HO551))) (g := gb546) (o := .cells #[.string a1_0, .int .i64 a1_1] 23 (0, 0)) (bk_ BK546)) (below_size (hg_ GE546)))
    have n2_ := ak_ (blk_below (g := gb546) (o := .cells #[.string a1_0, .int .i64 a1_1] 23 (0, 0)) (bk_ BK546) hb)
    have n3_ := ak_ (below_step (hg_ GE546) hb)
    clear HO551
    clear BK546
    clear HB
    have HO551 := n0_
    have HO557 := n1_
    have BK546 := n2_
    have HB := n3_
    clear n0_ n1_ n2_ n3_
    clear hb ho20
    refine hK.out _ _ ⟨(blk_cell BK546.out 0).trans rfl, (blk_cell BK546.out 1).trans rfl⟩ (fun hHeld => ?_)
    clear hK K
    refine norm_ (a' := ?_) ?_ ?_
    rotate_left
    ·show Act.put _ (some 18) _ = _
     simp only [Act.put, sT_, s0_, sS_, i64_w, i32_w]
     rfl
    refine one_ (i := 2) (N := some 16) #[T_,T_,T_,T_,T_,F_,F_,F_] rfl rfl (one_of HT_.out (by kernel_rfl)) (by decide) (fun K hK => ?_)
    refine Kd.R_append_rows_step k23 (w0 := w) w.heap.size (by rfl) (.tmp 14) (.tmp 15) 30 23 (.agg #[(.string ⟨#[]⟩), (.int .i64 0)]) 24 rfl Tryd.underlying30 info23 rfl (by decide) (by omega) v550 y549 l0 _ _ _ (fun k_ => some k_ ≠ (v556 : Value).ownBlock ∧ k_ ≠ gb546) (fun _ => False) rfl rfl ?aO ?aR (fun _ _ h => h) (fun _ h => h.elim) ?aF ?aB ?aS ?aL ?_
    (case aR => exact kc_ (Kd.C_below HR0.out HB.out))
    (case aB => exact (hg_ GE546))
    (case aF => exact (fun k_ hk => ⟨Kd.fresh' (Kd.R_lt (kr_ HO557)) k_ hk, Kd.freshB (g := gb546) (o := .cells #[.string a1_0, .int .i64 a1_1] 23 (0, 0)) (bk_ BK546) k_ hk⟩))
    (case aO => exact (by (with_reducible repeat (first | apply Kd.R_alloc | apply Kd.R_drewN | apply Kd.R_drew)); exact Kd.R_mono HO551.out (fun _ hk => ⟨hk.2, hk.1.2⟩)))
    (case aS => exact (below_size (hg_ GE546)))
    (case aL => have := LMc11.out; omega)
    intro v553 w21 ho hb hg hat
    rw [← Ny552.out] at ho
    have n0_ := ak_ (blk_grown (g := gb546) (o := .cells #[.string a1_0, .int .i64 a1_1] 23 (0, 0)) (bk_ BK546) hg (Kd.R_away HO551.out (fun _ hk => hk.1.2)))
    have n1_ := ak_ (Kd.R_after (ok := (fun k_ => k_ ≠ gb546)) (by (with_reducible repeat (first | apply Kd.R_alloc | apply Kd.R_drewN | apply Kd.R_drew)); exact Kd.R_mono HO557.out (fun _ hk => ⟨hk.2, hk.1.2⟩)) hg hat)
    have n2_ := ak_ (hb)
    have n3_ := ak_ (ho)
    clear BK546
    clear HO557
    clear HB
    clear HO551
    have BK546 := n0_
    have HO557 := n1_
    have HB := n2_
    have HO554 := n3_
    clear n0_ n1_ n2_ n3_
    clear ho hb hg hat
    refine hK.out _ _ ⟨(blk_cell BK546.out 0).trans rfl, (blk_cell BK546.out 1).trans rfl⟩ (fun hHeld => ?_)
    clear hK K
    refine norm_ (a' := ?_) ?_ ?_
    rotate_left
    ·show Act.put _ (some 16) _ = _
     simp only [Act.put, sT_, s0_, sS_, i64_w, i32_w]
     rfl
    exact norm_ (by simp only [putAll, Act.put, List.setIfInBounds_toArray, List.set_cons_zero, List.set_cons_succ]) (hCont (v550, v553, v556) _ ⟨hHeld, (kr_ HO554), (by (with_reducible repeat (first | apply Kd.R_alloc | apply Kd.R_drewN | apply Kd.R_drew)); exact Kd.R_mono HO557.out (fun _ hk => ⟨hk.2, hk.1⟩)), (bk_ BK546), (hg_ GE546)⟩)
  ·skip
   refine Kd.R_lit_step k23 _ 23 ?hg (N := 18) ?hd (xs := ([(⟨a1_0, a1_1⟩ : S23)] : List (S23))) (inner := [.string a1_0, .int .i64 a1_1]) (ok := fun _ => True) (okp := fun _ => True) ?hr ?hp (fun _ hk => hk) trivial (Below.refl _ _) (Nat.le_refl _) (by simp) ?_; (case hd => rfl); (case hg => rfl); (case hr => first | (go_simp; done) | (go_simp; rfl)); (case hp => exact (Reps.c2 (show Kd.M k23 _ _ _ (⟨a1_0, a1_1⟩ : S23) [.string a1_0, .int .i64 a1_1] from (k23_mkM _ _ _ (⟨a1_0, a1_1⟩ : S23) )) (Reps.none _ _)))
   intro v556 w17 ho18 hb hg_ hnew_
   clear hg_ hnew_
   (first | rw [← Ny555.out] at ho18 | (simp only [Int.reduceToNat] at ho18; rw [← Ny555.out] at ho18))
   have n0_ := ak_ (Kd.R_lower (Kd.R_newB ho18 (g := gb546) (o := .cells #[.string a1_0, .int .i64 a1_1] 23 (0, 0)) (bk_ BK546)) (below_size (hg_ GE546)))
   have n1_ := ak_ (blk_below (g := gb546) (o := .cells #[.string a1_0, .int .i64 a1_1] 23 (0, 0)) (bk_ BK546) hb)
   have n2_ := ak_ (below_step (hg_ GE546) hb)
   clear BK546
   clear HB
   have HO557 := n0_
   have BK546 := n1_
   have HB := n2_
   clear n0_ n1_ n2_
   clear hb ho18
   refine hK.out _ _ ⟨(blk_cell BK546.out 0).trans rfl, (blk_cell BK546.out 1).trans rfl⟩ (fun hHeld => ?_)
   clear hK K
   refine norm_ (a' := ?_) ?_ ?_
   rotate_left
   ·show Act.put _ (some 18) _ = _
    simp only [Act.put, sT_, s0_, sS_, i64_w, i32_w]
    rfl
   refine one_ (i := 0) (N := some 14) #[T_,T_,F_,T_,T_,F_,F_,F_] rfl rfl (one_of HT_.out (by kernel_rfl)) (by decide) (fun K hK => ?_)
   refine Kd.R_lit_step k23 _ 23 ?hg (N := 14) ?hd (xs := ([] : List (S23))) (inner := []) (ok := fun _ => True) (okp := fun _ => True) ?hr ?hp (fun _ hk => hk) trivial (Below.refl _ _) (Nat.le_refl _) (by simp) ?_; (case hd => rfl); (case hg => rfl); (case hr => first | (go_simp; done) | (go_simp; rfl)); (case hp => exact (Reps.none _ _))
   intro v550 w19 ho20 hb hg_ hnew_
   clear hg_ hnew_
   (first | rw [← Ny549.out] at ho20 | (simp only [Int.reduceToNat] at ho20; rw [← Ny549.out] at ho20))
   have n0_ := ak_ (Kd.R_elder' (kr_ HO557) (Kd.R_base ho20) hb)
   have n1_ := ak_ (Kd.R_lower (Kd.R_newB (Kd.R_new' ho20 (Kd.R_lt (kr_ HO557))) (g := gb546) (o := .cells #[.string a1_0, .int .i64 a1_1] 23 (0, 0)) (bk_ BK546)) (below_size (hg_ GE546)))
   have n2_ := ak_ (blk_below (g := gb546) (o := .cells #[.string a1_0, .int .i64 a1_1] 23 (0, 0)) (bk_ BK546) hb)
   have n3_ := ak_ (below_step (hg_ GE546) hb)
   clear HO557
   clear BK546
   clear HB
   have HO557 := n0_
   have HO551 := n1_
   have BK546 := n2_
   have HB := n3_
   clear n0_ n1_ n2_ n3_
   clear hb ho20
   refine hK.out _ _ ⟨(blk_cell BK546.out 0).trans rfl, (blk_cell BK546.out 1).trans rfl⟩ (fun hHeld => ?_)
   clear hK K
   refine norm_ (a' := ?_) ?_ ?_
   rotate_left
   ·show Act.put _ (some 14) _ = _
    simp only [Act.put, sT_, s0_, sS_, i64_w, i32_w]
    rfl
   refine one_ (i := 2) (N := some 16) #[T_,T_,T_,T_,T_,F_,F_,F_] rfl rfl (one_of HT_.out (by kernel_rfl)) (by decide) (fun K hK => ?_)
   refine Kd.R_append_rows_step k23 (w0 := w) w.heap.size (by rfl) (.tmp 14) (.tmp 15) 30 23 (.agg #[(.string ⟨#[]⟩), (.int .i64 0)]) 24 rfl Tryd.underlying30 info23 rfl (by decide) (by omega) v550 y549 l0 _ _ _ (fun k_ => some k_ ≠ (v556 : Value).ownBlock ∧ k_ ≠ gb546) (fun _ => False) rfl rfl ?aO ?aR (fun _ _ h => h) (fun _ h => h.elim) ?aF ?aB ?aS ?aL ?_
   (case aR => exact kc_ (Kd.C_below HR0.out HB.out))
   (case aB => exact (hg_ GE546))
   (case aF => exact (fun k_ hk => ⟨Kd.fresh' (Kd.R_lt (kr_ HO557)) k_ hk, Kd.freshB (g := gb546) (o := .cells #[.string a1_0, .int .i64 a1_1] 23 (0, 0)) (bk_ BK546) k_ hk⟩))
   (case aO => exact (by (with_reducible repeat (first | apply Kd.R_alloc | apply Kd.R_drewN | apply Kd.R_drew)); exact Kd.R_mono HO551.out (fun _ hk => ⟨hk.1.2, hk.2⟩)))
   (case aS => exact (below_size (hg_ GE546)))
   (case aL => have := LMc11.out; omega)
   intro v553 w21 ho hb hg hat
   rw [← Ny552.out] at ho
   have n0_ := ak_ (blk_grown (g := gb546) (o := .cells #[.string a1_0, .int .i64 a1_1] 23 (0, 0)) (bk_ BK546) hg (Kd.R_away HO551.out (fun _ hk => hk.2)))
   have n1_ := ak_ (Kd.R_after (ok := (fun k_ => k_ ≠ gb546)) (by (with_reducible repeat (first | apply Kd.R_alloc | apply Kd.R_drewN | apply Kd.R_drew)); exact Kd.R_mono HO557.out (fun _ hk => ⟨hk.1.2, hk.2⟩)) hg hat)
   have n2_ := ak_ (hb)
   have n3_ := ak_ (ho)
   clear BK546
   clear HO557
   clear HB
   clear HO551
   have BK546 := n0_
   have HO557 := n1_
   have HB := n2_
   have HO554 := n3_
   clear n0_ n1_ n2_ n3_
   clear ho hb hg hat
   refine hK.out _ _ ⟨(blk_cell BK546.out 0).trans rfl, (blk_cell BK546.out 1).trans rfl⟩ (fun hHeld => ?_)
   clear hK K
   refine norm_ (a' := ?_) ?_ ?_
   rotate_left
   ·show Act.put _ (some 16) _ = _
    simp only [Act.put, sT_, s0_, sS_, i64_w, i32_w]
    rfl
   exact norm_ (by simp only [putAll, Act.put, List.setIfInBounds_toArray, List.set_cons_zero, List.set_cons_succ]) (hCont (v550, v553, v556) _ ⟨hHeld, (kr_ HO554), (by (with_reducible repeat (first | apply Kd.R_alloc | apply Kd.R_drewN | apply Kd.R_drew)); exact Kd.R_mono HO557.out (fun _ hk => ⟨hk.2, hk.1⟩)), (bk_ BK546), (hg_ GE546)⟩)
 rintro ⟨v550, v553, v556⟩ w22 ⟨hS_, h0_, h1_, h2_, h3_⟩
 have n0_ : Aside0 (Kd.R k23 23 w22 w.heap.size (fun k_ => some k_ ≠ (v556 : Value).ownBlock ∧ k_ ≠ gb546) v553 y552) := ⟨h0_⟩
 have n1_ : Aside0 (Kd.R k23 23 w22 w.heap.size (fun k_ => some k_ ≠ (v553 : Value).ownBlock ∧ k_ ≠ gb546) v556 y555) := ⟨h1_⟩
 have n2_ : Aside0 (w22.heap[gb546]? = some (.cells #[.string a1_0, .int .i64 a1_1] 23 (0, 0))) := ⟨h2_⟩
 have n3_ : Aside0 (Below w.heap.size w w22) := ⟨h3_⟩
 clear BK546
 clear HB
 clear h0_ h1_ h2_ h3_
 have HO554 := n0_
 have HO557 := n1_
 have BK546 := n2_
 have HB := n3_
 clear n0_ n1_ n2_ n3_
 have hHeld : w22.cell? ⟨gb546, 0, none⟩ = some (.string a1_0) ∧ w22.cell? ⟨gb546, 1, none⟩ = some (.int .i64 a1_1) := hS_
 obtain ⟨Ao24, co24, eo24⟩ := Kd.R_slice HO557.out
 (first | subst eo24 | (injection eo24 with f1_ f2_ f3_; have f4_ := f1_.symm; have f5_ := f3_.symm; clear f1_ f2_ f3_; subst f4_; subst f5_))
 refine norm_ (a' := ?_) ?_ ?_
 rotate_left
 ·simp only [putAll, Act.put, List.setIfInBounds_toArray, List.set_cons_zero, List.set_cons_succ]
  rfl
 refine one_ (i := 5) (N := some 19) #[T_,T_,T_,T_,T_,T_,F_,F_] rfl rfl (one_of HT_.out (by kernel_rfl)) (by decide) (fun K hK => ?_)
 refine Kd.R_append_rows_step k23 (w0 := w) w.heap.size (by rfl) (.tmp 16) (.tmp 18) 30 23 (.agg #[(.string ⟨#[]⟩), (.int .i64 0)]) 24 rfl Tryd.underlying30 info23 rfl (by decide) (by omega) v553 y552 y555 _ _ _ (fun k_ => some k_ ≠ (.slice Ao24 y555.length co24 : Value).ownBlock ∧ k_ ≠ gb546) (fun _ => False) rfl rfl ?aO ?aR (fun _ _ h => h) (fun _ h => h.elim) ?aF ?aB ?aS ?aL ?_
 (case aR => repeat (first | exact (Kd.R_reads' HO557.out).2.2 | (with_reducible refine Kd.C_alloc ?_ _) | (with_reducible refine Kd.C_drewN ?_ _) | (with_reducible refine Kd.C_drew ?_)))
 (case aB => exact (hg_ GE546))
 (case aF => exact (fun k_ hk => ⟨Kd.fresh' (Kd.R_lt (kr_ HO557)) k_ hk, Kd.freshB (g := gb546) (o := .cells #[.string a1_0, .int .i64 a1_1] 23 (0, 0)) (bk_ BK546) k_ hk⟩))
 (case aO => exact (kr_ HO554))
 (case aS => exact (below_size (hg_ GE546)))
 (case aL => have := LMc12.out; omega)
 intro v559 w23 ho hb hg hat
 rw [← Ny558.out] at ho
 have n0_ := ak_ (blk_grown (g := gb546) (o := .cells #[.string a1_0, .int .i64 a1_1] 23 (0, 0)) (bk_ BK546) hg (Kd.R_away HO554.out (fun _ hk => hk.2)))
 have n1_ := ak_ (Kd.R_after (ok := (fun k_ => k_ ≠ gb546)) (by (with_reducible repeat (first | apply Kd.R_alloc | apply Kd.R_drewN | apply Kd.R_drew)); exact Kd.R_mono HO557.out (fun _ hk => ⟨hk.2, hk.1⟩)) hg hat)
 have n2_ := ak_ (hb)
 have n3_ := ak_ (ho)
 clear BK546
 clear HO557
 clear HB
 clear HO554
 have BK546 := n0_
 have HO557 := n1_
 have HB := n2_
 have HO560 := n3_
 clear n0_ n1_ n2_ n3_
 clear ho hb hg hat
 refine hK.out _ _ ⟨(blk_cell BK546.out 0).trans rfl, (blk_cell BK546.out 1).trans rfl⟩ (fun hHeld => ?_)
 clear hK K
 refine norm_ (a' := ?_) ?_ ?_
 rotate_left
 ·show Act.put _ (some 19) _ = _
  simp only [Act.put, sT_, s0_, sS_, i64_w, i32_w]
  rfl
 refine pv (i := 6) (N := some 4) HT_ ?_
 refine pv (i := 7) (N := some 5) HT_ ?_
 refine done_ (done_of HT_.out (by kernel_rfl)) ?_
 try go_wp2
 go_ret2
 exact ⟨_, ew_, by (with_reducible repeat (first | apply Kd.R_alloc | apply Kd.R_drewN | apply Kd.R_drew)); exact Kd.R_mono HO560.out (fun _ hk => trivial), (hg_ GE546)⟩
/-! ### spec_DrawCoilText: function 26 -/
def spec_DrawCoilText.f (k : Nat) (l0 : List Int) : Option (ByteArray × Int) := (spec_l00From.f l0).bind fun bt562 => ((spec_l23Bent.f k bt562.1 bt562.2.1 bt562.2.2).bind fun bt566 => (if (bt566.1.length : Int) = 0 then (some ((⟨#[]⟩ : ByteArray), 0)) else (if 0 < (bt566.1.length : Int) then (some ((rd_T23 bt566.1 0).f0, (rd_T23 bt566.1 0).f1)) else (none))))
set_option maxHeartbeats 8000000 in
set_option maxRecDepth 100000 in
theorem spec_DrawCoilText.calls (k : Nat) (A0 : Option Addr) (c0 : Nat) (l0 : List Int) (r1 : ByteArray) (r2 : Int) (w : World) (hr0 : Kd.C (Kd.int .u8) w A0 l0.length l0) (hc0 : l0.length ≤ c0) (h : spec_DrawCoilText.f k l0 = some (r1, r2)) :
  Calls Tryd.prog 26 #[.slice A0 l0.length c0] w fun e w' => e = .returned (.agg #[.string r1, .int .i64 r2]) ∧ Below w.heap.size w w' := by
 have hu23 := Tryd.underlying23
 have HR0 := ak_ hr0
 have HC0 := ak_ hc0
 clear hr0 hc0
 have HB := ak_ (Below.refl w.heap.size w)
 have H : ((spec_l00From.f l0).bind fun bt562 => ((spec_l23Bent.f k bt562.1 bt562.2.1 bt562.2.2).bind fun bt566 => (if (bt566.1.length : Int) = 0 then (some ((⟨#[]⟩ : ByteArray), 0)) else (if 0 < (bt566.1.length : Int) then (some ((rd_T23 bt566.1 0).f0, (rd_T23 bt566.1 0).f1)) else (none))))) = some (r1, r2) := h
 clear h
 replace H := ob_ H
 obtain ⟨⟨t562, t563, t564⟩, A20, H⟩ := H
 (try dsimp only at H)
 have A2 := ak_ A20
 clear A20
 replace H := ob_ H
 obtain ⟨⟨t566, t569, t570⟩, A30, H⟩ := H
 (try dsimp only at H)
 have A3 := ak_ A30
 clear A30
 by_cases c4 : (t566.length : Int) = 0
 ·rw [if_pos c4] at H
  have c4b0 : ((t566.length : Int) == 0) = true := beq_iff_eq.mpr c4
  have c4b1 : ((t566.length : Int) != 0) = false := bne_eq_false_iff_eq.mpr c4
  clear c4
  simp only [Option.some.injEq, Prod.mk.injEq] at H
  obtain ⟨rfl, rfl⟩ := H
  go_enter Tryd.func26, Tryd.ntmps26
  go_wp2_with (first | ((with_reducible refine gate_dst (N := 2) rfl ?_); refine box_event ?hg (N := 2) ?hd (cs := #[.string (⟨#[]⟩ : ByteArray), .int .i64 0]) (t := 23) ?hr ?_; (case hd => rfl); (case hg => rfl); (case hr => first | (go_simp; done) | (go_simp; rfl)); intro gb561 hg w5 hbox hb; have BK561 := ak_ (hbox); have GW561 := ak_ ((by rw [hg]; exact (below_size hb_) : w.heap.size ≤ gb561)); have GE561 := ak_ ((by rw [hg]; exact (below_size hb_) : w.heap.size ≤ gb561)); replace HB := ak_ (below_step hb_ hb); skip; clear hb hbox hg) | ((with_reducible refine gate_callee (f := 76) rfl ?_); refine goesL_ (some 5) rfl rfl Tryd.func76 (by kernel_rfl) rfl #[.slice A0 l0.length c0] rfl ln_ ?_; (with_reducible refine (spec_l00From.calls _ _ l0 t562 t563 t564 w _ ?side1 HR0.out HC0.out A2.out).mono ?_); (case side1 => repeat (first | (with_reducible first | exact HB.out | apply below_alloc | apply pw_below_drewN | apply below_drew1 | refine below_set ?_ GE561.out) | exact HB.out)); rintro e w6 ⟨g565, rfl, hi, hb, hb2⟩; refine ⟨_, rfl, ?_⟩; replace HB := ak_ (hb); have HI565 := ak_ (hi); have NB565_561 := ak_ (IsS155.ne_blk hi (blk_below (g := gb561) (o := .cells #[.string (⟨#[]⟩ : ByteArray), .int .i64 0] 23 (0, 0)) (bk_ BK561) hb2) (by decide)); have NB561_565 := ak_ (Ne.symm (IsS155.ne_blk hi (blk_below (g := gb561) (o := .cells #[.string (⟨#[]⟩ : ByteArray), .int .i64 0] 23 (0, 0)) (bk_ BK561) hb2) (by decide))); replace BK561 := ak_ (blk_below (g := gb561) (o := .cells #[.string (⟨#[]⟩ : ByteArray), .int .i64 0] 23 (0, 0)) (bk_ BK561) hb2); skip; clear hb hb2 hi) | ((with_reducible refine gate_callee (f := 77) rfl ?_); refine goesL_ (some 6) rfl rfl Tryd.func77 (by kernel_rfl) rfl #[.pointer (some ⟨g565, 0, none⟩)] rfl ln_ ?_; (with_reducible refine (spec_l23Bent.calls k g565 t562 t563 t564 t566 t569 t570 w _ ?side1 ?side2 A3.out).mono ?_); (case side1 => repeat (first | (with_reducible first | exact HI565.out | apply IsS155.alloc | apply IsS155.drewN | apply IsS155.drew | apply IsS155.set_1 | apply IsS155.set_2 | refine IsS155.far ?_ NB565_561.out _) | exact HI565.out)); (case side2 => repeat (first | (with_reducible first | exact HB.out | apply below_alloc | apply pw_below_drewN | apply below_drew1 | refine below_set ?_ (IsS155.ge HI565.out) | refine below_set ?_ GE561.out) | exact HB.out)); rintro e w7 ⟨v567, rfl, ho0, hi, hb, hk⟩; refine ⟨_, rfl, ?_⟩; have HO568 := ak_ (Kd.R_lower (Kd.R_newB ho0 (g := gb561) (o := .cells #[.string (⟨#[]⟩ : ByteArray), .int .i64 0] 23 (0, 0)) (bk_ BK561)) (below_size (by repeat (first | (with_reducible first | exact HB.out | apply below_alloc | apply pw_below_drewN | apply below_drew1 | refine below_set ?_ (IsS155.ge HI565.out) | refine below_set ?_ GE561.out) | exact HB.out)))); replace BK561 := ak_ (KeepBut.blk hk (g' := gb561) (o := .cells #[.string (⟨#[]⟩ : ByteArray), .int .i64 0] 23 (0, 0)) (bk_ BK561) NB561_565.out (by simp)); replace HB := ak_ (hb); replace HI565 := ak_ (hi); skip; (try clear hb); (try clear hb2); (try clear hk); (try clear hi); (try clear ho0); obtain ⟨Ao8, co8, eo8⟩ := Kd.R_slice HO568.out; subst eo8; have hnb9 := NB561_565.out; have hnc9 := NB565_561.out; have hcz10_0 : w7.cell? ⟨gb561, 0, none⟩ = some (.string (⟨#[]⟩ : ByteArray)) := (blk_cell BK561.out 0).trans rfl; have hcz10_1 : w7.cell? ⟨gb561, 1, none⟩ = some (.int .i64 0) := (blk_cell BK561.out 1).trans rfl; have hfz10_0 := blk_frozen BK561.out 0; have hfz10_1 := blk_frozen BK561.out 1))
  refine bodyPost_ret (results_cell_row rfl _ _ gb561 23 #[.string (⟨#[]⟩ : ByteArray), .int .i64 0] (0, 0) _ rfl (by (with_reducible repeat (first | refine blk_drewN ?_ _ | refine blk_drew ?_ | refine blk_alloc ?_ _)); refine blk_put (cs := #[.string (⟨#[]⟩ : ByteArray), .int .i64 0]) ?_ 1 _ rfl; (with_reducible repeat (first | refine blk_drewN ?_ _ | refine blk_drew ?_ | refine blk_alloc ?_ _)); refine blk_put (cs := #[.string (⟨#[]⟩ : ByteArray), .int .i64 0]) ?_ 0 _ rfl; (with_reducible repeat (first | refine blk_drewN ?_ _ | refine blk_drew ?_ | refine blk_alloc ?_ _)); exact BK561.out) Tryd.underlying23 rfl (by kernel_rfl)) rfl ?_
  exact ⟨ew_, by repeat (first | (with_reducible first | exact HB.out | apply below_alloc | apply pw_below_drewN | apply below_drew1 | refine below_set ?_ (IsS155.ge HI565.out) | refine below_set ?_ GE561.out) | exact HB.out)⟩
 rw [if_neg c4] at H
 have c4b0 : ((t566.length : Int) == 0) = false := beq_eq_false_iff_ne.mpr c4
 have c4b1 : ((t566.length : Int) != 0) = true := bne_iff_ne.mpr c4
 have c4b2 : ¬ (t566 = []) := fun h_ => c4 (by rw [h_]; rfl)
 by_cases c11 : 0 < (t566.length : Int)
 rotate_left
 ·rw [if_neg c11] at H
  exact absurd H (by simp)

 rw [if_pos c11] at H
 have c11b0 : decide (0 < (t566.length : Int)) = true := dt_ c11
 have c11b1 : decide (0 < t566.length) = true := dt_ (by omega)
 clear c11
 simp only [Option.some.injEq, Prod.mk.injEq] at H
 obtain ⟨rfl, rfl⟩ := H
 go_enter Tryd.func26, Tryd.ntmps26
 go_wp2_with (first | ((with_reducible refine gate_dst (N := 2) rfl ?_); refine box_event ?hg (N := 2) ?hd (cs := #[.string (⟨#[]⟩ : ByteArray), .int .i64 0]) (t := 23) ?hr ?_; (case hd => rfl); (case hg => rfl); (case hr => first | (go_simp; done) | (go_simp; rfl)); intro gb561 hg w12 hbox hb; have BK561 := ak_ (hbox); have GW561 := ak_ ((by rw [hg]; exact (below_size hb_) : w.heap.size ≤ gb561)); have GE561 := ak_ ((by rw [hg]; exact (below_size hb_) : w.heap.size ≤ gb561)); replace HB := ak_ (below_step hb_ hb); skip; clear hb hbox hg) | ((with_reducible refine gate_callee (f := 76) rfl ?_); refine goesL_ (some 5) rfl rfl Tryd.func76 (by kernel_rfl) rfl #[.slice A0 l0.length c0] rfl ln_ ?_; (with_reducible refine (spec_l00From.calls _ _ l0 t562 t563 t564 w _ ?side1 HR0.out HC0.out A2.out).mono ?_); (case side1 => repeat (first | (with_reducible first | exact HB.out | apply below_alloc | apply pw_below_drewN | apply below_drew1 | refine below_set ?_ GE561.out) | exact HB.out)); rintro e w13 ⟨g565, rfl, hi, hb, hb2⟩; refine ⟨_, rfl, ?_⟩; replace HB := ak_ (hb); have HI565 := ak_ (hi); have NB565_561 := ak_ (IsS155.ne_blk hi (blk_below (g := gb561) (o := .cells #[.string (⟨#[]⟩ : ByteArray), .int .i64 0] 23 (0, 0)) (bk_ BK561) hb2) (by decide)); have NB561_565 := ak_ (Ne.symm (IsS155.ne_blk hi (blk_below (g := gb561) (o := .cells #[.string (⟨#[]⟩ : ByteArray), .int .i64 0] 23 (0, 0)) (bk_ BK561) hb2) (by decide))); replace BK561 := ak_ (blk_below (g := gb561) (o := .cells #[.string (⟨#[]⟩ : ByteArray), .int .i64 0] 23 (0, 0)) (bk_ BK561) hb2); skip; clear hb hb2 hi) | ((with_reducible refine gate_callee (f := 77) rfl ?_); refine goesL_ (some 6) rfl rfl Tryd.func77 (by kernel_rfl) rfl #[.pointer (some ⟨g565, 0, none⟩)] rfl ln_ ?_; (with_reducible refine (spec_l23Bent.calls k g565 t562 t563 t564 t566 t569 t570 w _ ?side1 ?side2 A3.out).mono ?_); (case side1 => repeat (first | (with_reducible first | exact HI565.out | apply IsS155.alloc | apply IsS155.drewN | apply IsS155.drew | apply IsS155.set_1 | apply IsS155.set_2 | refine IsS155.far ?_ NB565_561.out _) | exact HI565.out)); (case side2 => repeat (first | (with_reducible first | exact HB.out | apply below_alloc | apply pw_below_drewN | apply below_drew1 | refine below_set ?_ (IsS155.ge HI565.out) | refine below_set ?_ GE561.out) | exact HB.out)); rintro e w14 ⟨v567, rfl, ho0, hi, hb, hk⟩; refine ⟨_, rfl, ?_⟩; have HO568 := ak_ (Kd.R_lower (Kd.R_newB ho0 (g := gb561) (o := .cells #[.string (⟨#[]⟩ : ByteArray), .int .i64 0] 23 (0, 0)) (bk_ BK561)) (below_size (by repeat (first | (with_reducible first | exact HB.out | apply below_alloc | apply pw_below_drewN | apply below_drew1 | refine below_set ?_ (IsS155.ge HI565.out) | refine below_set ?_ GE561.out) | exact HB.out)))); replace BK561 := ak_ (KeepBut.blk hk (g' := gb561) (o := .cells #[.string (⟨#[]⟩ : ByteArray), .int .i64 0] 23 (0, 0)) (bk_ BK561) NB561_565.out (by simp)); replace HB := ak_ (hb); replace HI565 := ak_ (hi); skip; (try clear hb); (try clear hb2); (try clear hk); (try clear hi); (try clear ho0); obtain ⟨Ao15, co15, eo15⟩ := Kd.R_slice HO568.out; subst eo15; have p571 : 0 ≤ (0 : Int) := (by omega); have q571 : 0 < (t566.length : Int) := od_; obtain ⟨ad571, e571, hx571_0, hx571_1⟩ := at_T23 (Kd.R_reads' HO568.out).2.2 0 p571 q571; cases e571; have qi571 : (0 < t566.length) = True := eq_true (by omega); (try rw [show ((0 : Int)).toNat = 0 from rfl] at hx571_0); (try rw [show 0 * 2 = 0 from rfl] at hx571_0); (try rw [Addr.add_zero'] at hx571_0); (try rw [show ((0 : Int)).toNat = 0 from rfl] at hx571_1); (try rw [show 0 * 2 = 0 from rfl] at hx571_1); (try rw [Addr.add_zero'] at hx571_1); replace p571 := eq_true p571; replace q571 := eq_true q571; have hnb16 := NB561_565.out; have hnc16 := NB565_561.out; have hcz17_0 : w14.cell? ⟨gb561, 0, none⟩ = some (.string (⟨#[]⟩ : ByteArray)) := (blk_cell BK561.out 0).trans rfl; have hcz17_1 : w14.cell? ⟨gb561, 1, none⟩ = some (.int .i64 0) := (blk_cell BK561.out 1).trans rfl; have hfz17_0 := blk_frozen BK561.out 0; have hfz17_1 := blk_frozen BK561.out 1))
 refine bodyPost_ret (results_cell_row rfl _ _ gb561 23 #[.string ((rd_T23 t566 0).f0), .int .i64 ((rd_T23 t566 0).f1)] (0, 0) _ rfl (by (with_reducible repeat (first | refine blk_drewN ?_ _ | refine blk_drew ?_ | refine blk_alloc ?_ _)); refine blk_put (cs := #[.string ((rd_T23 t566 0).f0), .int .i64 0]) ?_ 1 _ rfl; (with_reducible repeat (first | refine blk_drewN ?_ _ | refine blk_drew ?_ | refine blk_alloc ?_ _)); refine blk_put (cs := #[.string (⟨#[]⟩ : ByteArray), .int .i64 0]) ?_ 0 _ rfl; (with_reducible repeat (first | refine blk_drewN ?_ _ | refine blk_drew ?_ | refine blk_alloc ?_ _)); exact BK561.out) Tryd.underlying23 rfl (by kernel_rfl)) rfl ?_
 exact ⟨ew_, by repeat (first | (with_reducible first | exact HB.out | apply below_alloc | apply pw_below_drewN | apply below_drew1 | refine below_set ?_ (IsS155.ge HI565.out) | refine below_set ?_ GE561.out) | exact HB.out)⟩
/-! ### spec_l01Spoil: function 92 -/
def spec_l01Spoil.f (s0_0 : List Int) (s0_1 : Int) (s0_2 : Int) (a1 : ByteArray) : Option (ByteArray × Int × Int) := (spec_l00Src_pick.f s0_0 s0_1 s0_2 5).bind fun bt572 => (if bt572.1 = 0 then ((spec_l00Src_pick.f s0_0 bt572.2.1 bt572.2.2 (wrap64 ((a1.size : Int) + 1))).bind fun bt575 => (if 0 ≤ bt575.1 then (if bt575.1 ≤ (a1.size : Int) then ((spec_l00Src_text.f s0_0 bt575.2.1 bt575.2.2 (([(⟨#[32]⟩ : ByteArray), (⟨#[48]⟩ : ByteArray), (⟨#[45]⟩ : ByteArray), (⟨#[120]⟩ : ByteArray), (⟨#[49]⟩ : ByteArray), (⟨#[57]⟩ : ByteArray), (⟨#[46]⟩ : ByteArray)] : List ByteArray))).bind fun bt581 => (if (a1.extract 0 (bt575.1 : Int).toNat).size + bt581.1.size ≤ 9223372036854775807 then (if (a1.extract 0 (bt575.1 : Int).toNat).size + bt581.1.size + (a1.extract (bt575.1 : Int).toNat a1.size).size ≤ 9223372036854775807 then (some (((a1.extract 0 (bt575.1 : Int).toNat) ++ bt581.1) ++ (a1.extract (bt575.1 : Int).toNat a1.size), bt581.2.1, bt581.2.2)) else (none)) else (none))) else (none)) else (none))) else (if bt572.1 = 1 then (if a1.toList = ([] : List UInt8) then (some (a1, bt572.2.1, bt572.2.2)) else ((spec_l00Src_pick.f s0_0 bt572.2.1 bt572.2.2 (a1.size : Int)).bind fun bt584 => (if 0 ≤ bt584.1 then (if bt584.1 ≤ (a1.size : Int) then (if 0 ≤ (wrap64 (bt584.1 + 1)) then (if (wrap64 (bt584.1 + 1)) ≤ (a1.size : Int) then (if (a1.extract 0 (bt584.1 : Int).toNat).size + (a1.extract ((wrap64 (bt584.1 + 1)) : Int).toNat a1.size).size ≤ 9223372036854775807 then (some ((a1.extract 0 (bt584.1 : Int).toNat) ++ (a1.extract ((wrap64 (bt584.1 + 1)) : Int).toNat a1.size), bt584.2.1, bt584.2.2)) else (none)) else (none)) else (none)) else (none)) else (none)))) else (some (a1, bt572.2.1, bt572.2.2))))
def spec_l01Spoil.T4 : Bool × List (List Nat × List Nat) := (true, [([], []), ([], []), ([0, 1], [0, 1]), ([], []), ([], []), ([3, 4], [3, 4]), ([2, 5], [2, 5]), ([], []), ([], []), ([7, 8], [7, 8]), ([6, 9], [6, 9]), ([10, 5, 0, 1, 2, 3, 4, 5, 6, 7, 8, 9, 10], [0, 7, 10])])
def spec_l01Spoil.B4 : List Nat := [0, 0, 3, 0, 0, 24, 63, 0, 0, 384, 1023, 2047]
theorem spec_l01Spoil.tab4 : rtab .any (opsOf Tryd.f92 4) = spec_l01Spoil.T4 := by kernel_rfl
theorem spec_l01Spoil.bits4 : waitsOk spec_l01Spoil.T4.2 spec_l01Spoil.B4 = true := by kernel_rfl
def spec_l01Spoil.T8 : Bool × List (List Nat × List Nat) := (true, [([], []), ([], []), ([0, 1], [0, 1]), ([], []), ([], []), ([4], [4]), ([3, 5], [3, 5]), ([2, 6], [2, 6]), ([7, 0, 1, 2, 3, 4, 5, 6, 7], [0, 3, 7])])
def spec_l01Spoil.B8 : List Nat := [0, 0, 3, 0, 0, 16, 56, 127, 255]
theorem spec_l01Spoil.tab8 : rtab .any (opsOf Tryd.f92 8) = spec_l01Spoil.T8 := by kernel_rfl
theorem spec_l01Spoil.bits8 : waitsOk spec_l01Spoil.T8.2 spec_l01Spoil.B8 = true := by kernel_rfl
set_option maxHeartbeats 8000000 in
set_option maxRecDepth 100000 in
theorem spec_l01Spoil.calls (g : Nat) (s0_0 : List Int) (s0_1 : Int) (s0_2 : Int) (a1 : ByteArray) (r1 : ByteArray) (r2 : Int) (r3 : Int) (w0 w : World) (hI : IsS155 w0 w g s0_0 s0_1 s0_2) (hB : Below w0.heap.size w0 w) (h : spec_l01Spoil.f s0_0 s0_1 s0_2 a1 = some (r1, r2, r3)) :
  Calls Tryd.prog 92 #[.pointer (some ⟨g, 0, none⟩), .string a1] w fun e w' => e = .returned (.string r1) ∧ IsS155 w0 w' g s0_0 r2 r3 ∧ Below w0.heap.size w0 w' ∧ KeepBut w w' g none := by
 have HI0 := ak_ hI
 have HK := ak_ (KeepBut.refl w g none)
 have HL := ak_ hB.size
 clear hI
 have HW0 := ak_ hB.size
 have HB := ak_ hB
 clear hB
 have H : ((spec_l00Src_pick.f s0_0 s0_1 s0_2 5).bind fun bt572 => (if bt572.1 = 0 then ((spec_l00Src_pick.f s0_0 bt572.2.1 bt572.2.2 (wrap64 ((a1.size : Int) + 1))).bind fun bt575 => (if 0 ≤ bt575.1 then (if bt575.1 ≤ (a1.size : Int) then ((spec_l00Src_text.f s0_0 bt575.2.1 bt575.2.2 (([(⟨#[32]⟩ : ByteArray), (⟨#[48]⟩ : ByteArray), (⟨#[45]⟩ : ByteArray), (⟨#[120]⟩ : ByteArray), (⟨#[49]⟩ : ByteArray), (⟨#[57]⟩ : ByteArray), (⟨#[46]⟩ : ByteArray)] : List ByteArray))).bind fun bt581 => (if (a1.extract 0 (bt575.1 : Int).toNat).size + bt581.1.size ≤ 9223372036854775807 then (if (a1.extract 0 (bt575.1 : Int).toNat).size + bt581.1.size + (a1.extract (bt575.1 : Int).toNat a1.size).size ≤ 9223372036854775807 then (some (((a1.extract 0 (bt575.1 : Int).toNat) ++ bt581.1) ++ (a1.extract (bt575.1 : Int).toNat a1.size), bt581.2.1, bt581.2.2)) else (none)) else (none))) else (none)) else (none))) else (if bt572.1 = 1 then (if a1.toList = ([] : List UInt8) then (some (a1, bt572.2.1, bt572.2.2)) else ((spec_l00Src_pick.f s0_0 bt572.2.1 bt572.2.2 (a1.size : Int)).bind fun bt584 => (if 0 ≤ bt584.1 then (if bt584.1 ≤ (a1.size : Int) then (if 0 ≤ (wrap64 (bt584.1 + 1)) then (if (wrap64 (bt584.1 + 1)) ≤ (a1.size : Int) then (if (a1.extract 0 (bt584.1 : Int).toNat).size + (a1.extract ((wrap64 (bt584.1 + 1)) : Int).toNat a1.size).size ≤ 9223372036854775807 then (some ((a1.extract 0 (bt584.1 : Int).toNat) ++ (a1.extract ((wrap64 (bt584.1 + 1)) : Int).toNat a1.size), bt584.2.1, bt584.2.2)) else (none)) else (none)) else (none)) else (none)) else (none)))) else (some (a1, bt572.2.1, bt572.2.2))))) = some (r1, r2, r3) := h
 clear h
 replace H := ob_ H
 obtain ⟨⟨t572, t573, t574⟩, A30, H⟩ := H
 (try dsimp only at H)
 have A3 := ak_ A30
 clear A30
 by_cases c4 : t572 = 0
 rotate_left
 ·rw [if_neg c4] at H
  have c4b0 : (t572 == 0) = false := beq_eq_false_iff_ne.mpr c4
  have c4b1 : (t572 != 0) = true := bne_iff_ne.mpr c4
  by_cases c20 : t572 = 1
  rotate_left
  ·rw [if_neg c20] at H
   have c20b0 : (t572 == 1) = false := beq_eq_false_iff_ne.mpr c20
   have c20b1 : (t572 != 1) = true := bne_iff_ne.mpr c20
   simp only [Option.some.injEq, Prod.mk.injEq] at H
   obtain ⟨rfl, rfl, rfl⟩ := H
   go_enter Tryd.func92, Tryd.ntmps92
   go_wp2_with (first | ((with_reducible refine gate_callee (f := 86) rfl ?_); refine goesL_ (some 8) rfl rfl Tryd.func86 (by kernel_rfl) rfl #[.pointer (some ⟨g, 0, none⟩), .int .i64 5] rfl ln_ ?_; (with_reducible refine (spec_l00Src_pick.calls g s0_0 s0_1 s0_2 5 t572 t573 t574 w0 _ (isS155_a HI0) (hz_ (IsS155.ge HI0.out)) A3.out).mono ?_); rintro e w33 ⟨rfl, hi, hb, hk⟩; refine ⟨_, rfl, ?_⟩; replace HK := ak_ (KeepBut.trans kb_ hk (.inl rfl)); replace HB := ak_ (hb); replace HI0 := ak_ (hi); skip; clear hb hk hi))
   go_ret
   exact ⟨ew_, isS155_a HI0, hz_ (IsS155.ge HI0.out), kb_⟩

  rw [if_pos c20] at H
  have c20b0 : (t572 == 1) = true := beq_iff_eq.mpr c20
  have c20b1 : (t572 != 1) = false := bne_eq_false_iff_eq.mpr c20
  clear c20
  by_cases c21 : a1.toList = ([] : List UInt8)
  ·rw [if_pos c21] at H
   have c21b0 : (a1.toList == ([] : List UInt8)) = true := beq_iff_eq.mpr c21
   have c21b1 : (a1.toList != ([] : List UInt8)) = false := bne_eq_false_iff_eq.mpr c21
   clear c21
   simp only [Option.some.injEq, Prod.mk.injEq] at H
   obtain ⟨rfl, rfl, rfl⟩ := H
   go_enter Tryd.func92, Tryd.ntmps92
   go_wp2_with (first | ((with_reducible refine gate_callee (f := 86) rfl ?_); refine goesL_ (some 8) rfl rfl Tryd.func86 (by kernel_rfl) rfl #[.pointer (some ⟨g, 0, none⟩), .int .i64 5] rfl ln_ ?_; (with_reducible refine (spec_l00Src_pick.calls g s0_0 s0_1 s0_2 5 t572 t573 t574 w0 _ (isS155_a HI0) (hz_ (IsS155.ge HI0.out)) A3.out).mono ?_); rintro e w22 ⟨rfl, hi, hb, hk⟩; refine ⟨_, rfl, ?_⟩; replace HK := ak_ (KeepBut.trans kb_ hk (.inl rfl)); replace HB := ak_ (hb); replace HI0 := ak_ (hi); skip; clear hb hk hi))
   go_ret
   exact ⟨ew_, isS155_a HI0, hz_ (IsS155.ge HI0.out), kb_⟩
  rw [if_neg c21] at H
  have c21b0 : (a1.toList == ([] : List UInt8)) = false := beq_eq_false_iff_ne.mpr c21
  have c21b1 : (a1.toList != ([] : List UInt8)) = true := bne_iff_ne.mpr c21
  replace H := ob_ H
  obtain ⟨⟨t584, t585, t586⟩, A230, H⟩ := H
  (try dsimp only at H)
  have A23 := ak_ A230
  clear A230
  by_cases c24 : 0 ≤ t584
  rotate_left
  ·rw [if_neg c24] at H
   exact absurd H (by simp)
  rw [if_pos c24] at H
  have c24b0 := eq_true c24
  have c24b1 : decide (0 ≤ t584) = true := dt_ c24
  clear c24
  by_cases c25 : t584 ≤ (a1.size : Int)
  rotate_left
  ·rw [if_neg c25] at H
   exact absurd H (by simp)
  rw [if_pos c25] at H
  have c25b0 := eq_true c25
  have c25b1 : decide (t584 ≤ (a1.size : Int)) = true := dt_ c25
  clear c25
  obtain ⟨ji26, hji26⟩ : ∃ j_ : Int, (wrap64 (t584 + 1)) = j_ := ⟨_, rfl⟩
  replace H : (if 0 ≤ (ji26) then (if (ji26) ≤ (a1.size : Int) then (if (a1.extract 0 (t584 : Int).toNat).size + (a1.extract ((ji26) : Int).toNat a1.size).size ≤ 9223372036854775807 then (some ((a1.extract 0 (t584 : Int).toNat) ++ (a1.extract ((ji26) : Int).toNat a1.size), t585, t586)) else (none)) else (none)) else (none)) = some (r1, r2, r3) := by first | (rw [hji26] at H; exact H) | (simp only [hji26] at H ⊢; exact H)
  (try rw [hji26] at A3)
  (try rw [hji26] at A23)
  have hji26w : (IntKind.i64.wrap (t584 + 1)) = ji26 := (i64_w _).trans hji26
  by_cases c27 : 0 ≤ (ji26)
  rotate_left
  ·rw [if_neg c27] at H
   exact absurd H (by simp)
  rw [if_pos c27] at H
  have c27b0 := eq_true c27
  have c27b1 : decide (0 ≤ (ji26)) = true := dt_ c27
  clear c27
  by_cases c28 : (ji26) ≤ (a1.size : Int)
  rotate_left
  ·rw [if_neg c28] at H
   exact absurd H (by simp)
  rw [if_pos c28] at H
  have c28b0 := eq_true c28
  have c28b1 : decide ((ji26) ≤ (a1.size : Int)) = true := dt_ c28
  clear c28
  by_cases c29 : (a1.extract 0 (t584 : Int).toNat).size + (a1.extract ((ji26) : Int).toNat a1.size).size ≤ 9223372036854775807
  rotate_left
  ·rw [if_neg c29] at H
   exact absurd H (by simp)
  rw [if_pos c29] at H
  have c29b0 := eq_true c29
  have c29b1 : decide ((a1.extract 0 (t584 : Int).toNat).size + (a1.extract ((ji26) : Int).toNat a1.size).size ≤ 9223372036854775807) = true := dt_ c29
  try have c29b2 : (9223372036854775807 < (a1.extract 0 (t584 : Int).toNat).size + (a1.extract ((ji26) : Int).toNat a1.size).size) = False := eq_false (Nat.not_lt.2 c29)
  simp only [Option.some.injEq, Prod.mk.injEq] at H
  obtain ⟨rfl, rfl, rfl⟩ := H
  go_enter Tryd.func92, Tryd.ntmps92
  try go_wp2_with (first | ((with_reducible refine gate_callee (f := 86) rfl ?_); refine goesL_ (some 8) rfl rfl Tryd.func86 (by kernel_rfl) rfl #[.pointer (some ⟨g, 0, none⟩), .int .i64 5] rfl ln_ ?_; (with_reducible refine (spec_l00Src_pick.calls g s0_0 s0_1 s0_2 5 t572 t573 t574 w0 _ (isS155_a HI0) (hz_ (IsS155.ge HI0.out)) A3.out).mono ?_); rintro e w30 ⟨rfl, hi, hb, hk⟩; refine ⟨_, rfl, ?_⟩; replace HK := ak_ (KeepBut.trans kb_ hk (.inl rfl)); replace HB := ak_ (hb); replace HI0 := ak_ (hi); skip; clear hb hk hi) | ((with_reducible refine gate_callee (f := 86) rfl ?_); refine goesL_ (some 34) rfl rfl Tryd.func86 (by kernel_rfl) rfl #[.pointer (some ⟨g, 0, none⟩), .int .i64 (a1.size : Int)] rfl ln_ ?_; (with_reducible refine (spec_l00Src_pick.calls g s0_0 t573 t574 (a1.size : Int) t584 t585 t586 w0 _ (isS155_a HI0) (hz_ (IsS155.ge HI0.out)) A23.out).mono ?_); rintro e w31 ⟨rfl, hi, hb, hk⟩; refine ⟨_, rfl, ?_⟩; replace HK := ak_ (KeepBut.trans kb_ hk (.inl rfl)); replace HB := ak_ (hb); replace HI0 := ak_ (hi); skip; clear hb hk hi))
  have n0_ := ak_ (IsS155.drew HI0.out)
  have n1_ := ak_ (keep_drew HK.out)
  have n2_ := ak_ (below_drew1 HB.out)
  clear HI0
  clear HK
  clear HB
  have HI0 := n0_
  have HK := n1_
  have HB := n2_
  clear n0_ n1_ n2_
  refine start_ (n := 9) (S := fun w' => True) (ds := []) #[F_,F_,F_,F_,F_,F_,F_,F_,F_] (by kernel_rfl) rfl rfl trivial (fun hHeld => ?_); refine with_tabW spec_l01Spoil.tab8 spec_l01Spoil.bits8 (fun HT_ HW_ => ?_)
  generalize w31.drew = w32 at HI0 HK HB hHeld ⊢
  refine pv (i := 0) (N := some 35) HT_ ?_
  refine pv (i := 1) (N := some 36) HT_ ?_
  refine pv (i := 2) (N := some 37) HT_ ?_
  refine pv (i := 3) (N := some 38) HT_ ?_
  refine pv (i := 4) (N := some 39) HT_ ?_
  refine pv (i := 5) (N := some 40) HT_ ?_
  refine pv (i := 6) (N := some 41) HT_ ?_
  refine pv (i := 7) (N := some 42) HT_ ?_
  refine pv (i := 8) (N := some 1) HT_ ?_
  refine done_ (done_of HT_.out (by kernel_rfl)) ?_
  try go_wp2
  go_ret
  exact ⟨by first | rfl | (simp [errW_none, errW_some] <;> rfl) | (simp only [← hji26]; first | rfl | (simp [errW_none, errW_some] <;> rfl)) | (simp [*, errW_none, errW_some] <;> rfl), isS155_a HI0, hz_ (IsS155.ge HI0.out), kb_⟩
 rw [if_pos c4] at H
 have c4b0 : (t572 == 0) = true := beq_iff_eq.mpr c4
 have c4b1 : (t572 != 0) = false := bne_eq_false_iff_eq.mpr c4
 clear c4
 replace H := ob_ H
 obtain ⟨⟨t575, t576, t577⟩, A50, H⟩ := H
 (try dsimp only at H)
 have A5 := ak_ A50
 clear A50
 by_cases c6 : 0 ≤ t575
 rotate_left
 ·rw [if_neg c6] at H
  exact absurd H (by simp)
 rw [if_pos c6] at H
 have c6b0 := eq_true c6
 have c6b1 : decide (0 ≤ t575) = true := dt_ c6
 clear c6
 by_cases c7 : t575 ≤ (a1.size : Int)
 rotate_left
 ·rw [if_neg c7] at H
  exact absurd H (by simp)
 rw [if_pos c7] at H
 have c7b0 := eq_true c7
 have c7b1 : decide (t575 ≤ (a1.size : Int)) = true := dt_ c7
 clear c7
 obtain ⟨y578, hy578⟩ : ∃ y_ : List ByteArray, y_ = (([(⟨#[32]⟩ : ByteArray), (⟨#[48]⟩ : ByteArray), (⟨#[45]⟩ : ByteArray), (⟨#[120]⟩ : ByteArray), (⟨#[49]⟩ : ByteArray), (⟨#[57]⟩ : ByteArray), (⟨#[46]⟩ : ByteArray)] : List ByteArray)) := ⟨_, rfl⟩
 replace H : ((spec_l00Src_text.f s0_0 t576 t577 y578).bind fun bt581 => (if (a1.extract 0 (t575 : Int).toNat).size + bt581.1.size ≤ 9223372036854775807 then (if (a1.extract 0 (t575 : Int).toNat).size + bt581.1.size + (a1.extract (t575 : Int).toNat a1.size).size ≤ 9223372036854775807 then (some (((a1.extract 0 (t575 : Int).toNat) ++ bt581.1) ++ (a1.extract (t575 : Int).toNat a1.size), bt581.2.1, bt581.2.2)) else (none)) else (none))) = some (r1, r2, r3) := by first | (rw [hy578]; with_reducible exact H) | (have H2_ := (Option.bind_some _ _).symm.trans H; rw [hy578]; with_reducible exact H2_) | (have H2_ := (Option.bind_some _ _).symm.trans H; with_reducible exact H2_) | with_reducible exact H | (rw [hy578]; exact H) | exact H
 have Ny578 := ak_ hy578
 clear hy578
 replace H := ob_ H
 obtain ⟨⟨t581, t582, t583⟩, A80, H⟩ := H
 (try dsimp only at H)
 have A8 := ak_ A80
 clear A80
 by_cases c9 : (a1.extract 0 (t575 : Int).toNat).size + t581.size ≤ 9223372036854775807
 rotate_left
 ·rw [if_neg c9] at H
  exact absurd H (by simp)
 rw [if_pos c9] at H
 have c9b0 := eq_true c9
 have c9b1 : decide ((a1.extract 0 (t575 : Int).toNat).size + t581.size ≤ 9223372036854775807) = true := dt_ c9
 try have c9b2 : (9223372036854775807 < (a1.extract 0 (t575 : Int).toNat).size + t581.size) = False := eq_false (Nat.not_lt.2 c9)
 have c10b0 := eq_true (od_ : 0 ≤ t575)
 have c11b0 := eq_true (od_ : t575 ≤ (a1.size : Int))
 by_cases c12 : (a1.extract 0 (t575 : Int).toNat).size + t581.size + (a1.extract (t575 : Int).toNat a1.size).size ≤ 9223372036854775807
 rotate_left
 ·rw [if_neg c12] at H
  exact absurd H (by simp)
 rw [if_pos c12] at H
 have c12b0 := eq_true c12
 have c12b1 : decide ((a1.extract 0 (t575 : Int).toNat).size + t581.size + (a1.extract (t575 : Int).toNat a1.size).size ≤ 9223372036854775807) = true := dt_ c12
 try have c12b2 : (9223372036854775807 < (a1.extract 0 (t575 : Int).toNat).size + t581.size + (a1.extract (t575 : Int).toNat a1.size).size) = False := eq_false (Nat.not_lt.2 c12)
 simp only [Option.some.injEq, Prod.mk.injEq] at H
 obtain ⟨rfl, rfl, rfl⟩ := H
 go_enter Tryd.func92, Tryd.ntmps92
 try go_wp2_with (first | ((with_reducible refine gate_callee (f := 86) rfl ?_); refine goesL_ (some 8) rfl rfl Tryd.func86 (by kernel_rfl) rfl #[.pointer (some ⟨g, 0, none⟩), .int .i64 5] rfl ln_ ?_; (with_reducible refine (spec_l00Src_pick.calls g s0_0 s0_1 s0_2 5 t572 t573 t574 w0 _ (isS155_a HI0) (hz_ (IsS155.ge HI0.out)) A3.out).mono ?_); rintro e w13 ⟨rfl, hi, hb, hk⟩; refine ⟨_, rfl, ?_⟩; replace HK := ak_ (KeepBut.trans kb_ hk (.inl rfl)); replace HB := ak_ (hb); replace HI0 := ak_ (hi); skip; clear hb hk hi) | ((with_reducible refine gate_callee (f := 86) rfl ?_); refine goesL_ (some 15) rfl rfl Tryd.func86 (by kernel_rfl) rfl #[.pointer (some ⟨g, 0, none⟩), .int .i64 (wrap64 ((a1.size : Int) + 1))] rfl ln_ ?_; (with_reducible refine (spec_l00Src_pick.calls g s0_0 t573 t574 (wrap64 ((a1.size : Int) + 1)) t575 t576 t577 w0 _ (isS155_a HI0) (hz_ (IsS155.ge HI0.out)) A5.out).mono ?_); rintro e w14 ⟨rfl, hi, hb, hk⟩; refine ⟨_, rfl, ?_⟩; replace HK := ak_ (KeepBut.trans kb_ hk (.inl rfl)); replace HB := ak_ (hb); replace HI0 := ak_ (hi); skip; clear hb hk hi))
 have n0_ := ak_ (IsS155.drew HI0.out)
 have n1_ := ak_ (keep_drew HK.out)
 have n2_ := ak_ (below_drew1 HB.out)
 clear HI0
 clear HK
 clear HB
 have HI0 := n0_
 have HK := n1_
 have HB := n2_
 clear n0_ n1_ n2_
 refine start_ (n := 12) (S := fun w' => True) (ds := []) #[F_,F_,F_,F_,F_,F_,F_,F_,F_,F_,F_,F_] (by kernel_rfl) rfl rfl trivial (fun hHeld => ?_); refine with_tabW spec_l01Spoil.tab4 spec_l01Spoil.bits4 (fun HT_ HW_ => ?_)
 generalize w14.drew = w15 at HI0 HK HB hHeld ⊢
 refine pv (i := 0) (N := some 16) HT_ ?_
 refine pv (i := 1) (N := some 17) HT_ ?_
 refine pv (i := 2) (N := some 18) HT_ ?_
 refine pv (i := 3) (N := some 19) HT_ ?_
 refine pv (i := 7) (N := some 23) HT_ ?_
 refine pv (i := 8) (N := some 24) HT_ ?_
 refine pv (i := 9) (N := some 25) HT_ ?_
 refine one_ (i := 4) (N := some 20) #[T_,T_,T_,T_,T_,F_,F_,T_,T_,T_,F_,F_] rfl rfl (one_of HT_.out (by kernel_rfl)) (by decide) (fun K hK => ?_)
 refine Kd.R_lit_step Kd.string _ 9 ?hg (N := 20) ?hd (xs := ([(⟨#[32]⟩ : ByteArray), (⟨#[48]⟩ : ByteArray), (⟨#[45]⟩ : ByteArray), (⟨#[120]⟩ : ByteArray), (⟨#[49]⟩ : ByteArray), (⟨#[57]⟩ : ByteArray), (⟨#[46]⟩ : ByteArray)] : List ByteArray)) (inner := [.string (⟨#[32]⟩ : ByteArray), .string (⟨#[48]⟩ : ByteArray), .string (⟨#[45]⟩ : ByteArray), .string (⟨#[120]⟩ : ByteArray), .string (⟨#[49]⟩ : ByteArray), .string (⟨#[57]⟩ : ByteArray), .string (⟨#[46]⟩ : ByteArray)]) (ok := fun _ => True) (okp := fun _ => True) ?hr ?hp (fun _ hk => hk) trivial (Below.refl _ _) (Nat.le_refl _) (by simp) ?_; (case hd => rfl); (case hg => rfl); (case hr => first | (go_simp; done) | (go_simp; rfl)); (case hp => exact (Reps.one (show Kd.M Kd.string _ _ _ (⟨#[32]⟩ : ByteArray) [.string (⟨#[32]⟩ : ByteArray)] from rfl) (Reps.one (show Kd.M Kd.string _ _ _ (⟨#[48]⟩ : ByteArray) [.string (⟨#[48]⟩ : ByteArray)] from rfl) (Reps.one (show Kd.M Kd.string _ _ _ (⟨#[45]⟩ : ByteArray) [.string (⟨#[45]⟩ : ByteArray)] from rfl) (Reps.one (show Kd.M Kd.string _ _ _ (⟨#[120]⟩ : ByteArray) [.string (⟨#[120]⟩ : ByteArray)] from rfl) (Reps.one (show Kd.M Kd.string _ _ _ (⟨#[49]⟩ : ByteArray) [.string (⟨#[49]⟩ : ByteArray)] from rfl) (Reps.one (show Kd.M Kd.string _ _ _ (⟨#[57]⟩ : ByteArray) [.string (⟨#[57]⟩ : ByteArray)] from rfl) (Reps.one (show Kd.M Kd.string _ _ _ (⟨#[46]⟩ : ByteArray) [.string (⟨#[46]⟩ : ByteArray)] from rfl) (Reps.none _ _)))))))))
 intro v579 w16 ho17 hb hg_ hnew_
 clear hg_ hnew_
 (first | rw [← Ny578.out] at ho17 | (simp only [Int.reduceToNat] at ho17; rw [← Ny578.out] at ho17))
 have n0_ := ak_ (Kd.R_lower ho17 (keep_size (w := w) (g := g) (row := none) kb_))
 have n1_ := ak_ (IsS155.below (isS155_a HI0) hb)
 have n2_ := ak_ (KeepBut.trans kb_ (KeepBut.of_below hb g none) (.inl rfl))
 have n3_ := ak_ (below_step (hz_ (IsS155.ge HI0.out)) hb)
 clear HI0
 clear HK
 clear HB
 have HO580 := n0_
 have HI0 := n1_
 have HK := n2_
 have HB := n3_
 clear n0_ n1_ n2_ n3_
 clear hb ho17
 obtain ⟨Ao18, co18, eo18⟩ := Kd.R_slice HO580.out
 (first | subst eo18 | (injection eo18 with f1_ f2_ f3_; have f4_ := f1_.symm; have f5_ := f3_.symm; clear f1_ f2_ f3_; subst f4_; subst f5_))
 refine hK.out _ _ trivial (fun hHeld => ?_)
 clear hK K
 refine norm_ (a' := ?_) ?_ ?_
 rotate_left
 ·show Act.put _ (some 20) _ = _
  simp only [Act.put, sT_, s0_, sS_, i64_w, i32_w]
  rfl
 refine one_ (i := 5) (N := some 21) #[T_,T_,T_,T_,T_,T_,F_,T_,T_,T_,F_,F_] rfl rfl (one_of HT_.out (by kernel_rfl)) (by decide) (fun K hK => ?_)
 refine goes_ Tryd.func78 (by kernel_rfl) rfl #[.pointer (some ⟨g, 0, none⟩), .slice Ao18 y578.length co18] (by rfl) rfl rfl ln_ ?_
 with_reducible refine (spec_l00Src_text.calls g s0_0 t576 t577 _ _ y578 t581 t582 t583 w0 _ ?side1 ?side2 ?side3 ?side4 ?side5 A8.out).mono ?_
 (case side1 => exact isS155_a HI0)
 (case side2 => exact hz_ (IsS155.ge HI0.out))
 (case side3 => repeat (first | exact (Kd.R_reads' HO580.out).2.2 | (with_reducible refine Kd.C_alloc ?_ _) | (with_reducible refine Kd.C_drewN ?_ _) | (with_reducible refine Kd.C_drew ?_)))
 (case side4 => exact (Kd.R_reads' HO580.out).2.1)
 (case side5 => exact far_slice (IsS155.own_ne HI0.out HO580.out (by decide)))
 rintro e w19 ⟨rfl, hi, hb, hk⟩
 refine ⟨_, rfl, ?_⟩
 have n0_ := ak_ (Kd.R_mono (Kd.R_keep (IsS155.apart (show IsS155 w0 _ g s0_0 t576 t577 from isS155_a HI0) (kr_ HO580) (by decide)) hk (fun _ h => h.2)) (fun _ h => h.1))
 have n1_ := ak_ (KeepBut.trans kb_ hk (.inl rfl))
 have n2_ := ak_ (hb)
 have n3_ := ak_ (hi)
 clear HO580
 clear HK
 clear HB
 clear HI0
 have HO580 := n0_
 have HK := n1_
 have HB := n2_
 have HI0 := n3_
 clear n0_ n1_ n2_ n3_
 (try clear hb)
 (try clear hb2)
 (try clear hk)
 (try clear hi)
 refine hK.out _ _ trivial (fun hHeld => ?_)
 clear hK K
 refine norm_ (a' := ?_) ?_ ?_
 rotate_left
 ·show Act.put _ (some 21) _ = _
  simp only [Act.put, sT_, s0_, sS_, i64_w, i32_w]
  rfl
 refine pv (i := 6) (N := some 22) HT_ ?_
 refine pv (i := 10) (N := some 26) HT_ ?_
 refine pv (i := 11) (N := some 1) HT_ ?_
 refine done_ (done_of HT_.out (by kernel_rfl)) ?_
 try go_wp2
 go_ret
 exact ⟨ew_, isS155_a HI0, hz_ (IsS155.ge HI0.out), kb_⟩
/-! ### spec_DrawReadCoil: function 28 -/
def spec_DrawReadCoil.f (k : Nat) (l0 : List Int) : Option (ByteArray) := (spec_l00From.f l0).bind fun bt587 => ((spec_l23New.f bt587.1 bt587.2.1 bt587.2.2).bind fun bt591 => ((spec_l23Text.f k bt591.1 bt591.2.1).bind fun t596 => ((spec_l00Src_one.f bt587.1 bt591.2.2.1 bt591.2.2.2 3).bind fun bt597 => (if bt597.1 = true then ((spec_l01Spoil.f bt587.1 bt597.2.1 bt597.2.2 t596).bind fun bt600 => (some bt600.1)) else (some t596)))))
set_option maxHeartbeats 8000000 in
set_option maxRecDepth 100000 in
theorem spec_DrawReadCoil.calls (k : Nat) (A0 : Option Addr) (c0 : Nat) (l0 : List Int) (r : ByteArray) (w : World) (hr0 : Kd.C (Kd.int .u8) w A0 l0.length l0) (hc0 : l0.length ≤ c0) (h : spec_DrawReadCoil.f k l0 = some r) :
  Calls Tryd.prog 28 #[.slice A0 l0.length c0] w fun e w' => e = .returned (.string r) ∧ Below w.heap.size w w' := by
 have hu23 := Tryd.underlying23
 have HR0 := ak_ hr0
 have HC0 := ak_ hc0
 clear hr0 hc0
 have HB := ak_ (Below.refl w.heap.size w)
 have H : ((spec_l00From.f l0).bind fun bt587 => ((spec_l23New.f bt587.1 bt587.2.1 bt587.2.2).bind fun bt591 => ((spec_l23Text.f k bt591.1 bt591.2.1).bind fun t596 => ((spec_l00Src_one.f bt587.1 bt591.2.2.1 bt591.2.2.2 3).bind fun bt597 => (if bt597.1 = true then ((spec_l01Spoil.f bt587.1 bt597.2.1 bt597.2.2 t596).bind fun bt600 => (some bt600.1)) else (some t596)))))) = some r := h
 clear h
 replace H := ob_ H
 obtain ⟨⟨t587, t588, t589⟩, A20, H⟩ := H
 (try dsimp only at H)
 have A2 := ak_ A20
 clear A20
 replace H := ob_ H
 obtain ⟨⟨t591, t592, t593, t594⟩, A30, H⟩ := H
 (try dsimp only at H)
 have A3 := ak_ A30
 clear A30
 replace H := ob_ H
 obtain ⟨t596, A40, H⟩ := H
 (try dsimp only at H)
 have A4 := ak_ A40
 clear A40
 replace H := ob_ H
 obtain ⟨⟨t597, t598, t599⟩, A50, H⟩ := H
 (try dsimp only at H)
 have A5 := ak_ A50
 clear A50
 by_cases c6 : t597 = true
 rotate_left
 ·replace c6 := Bool.eq_false_iff.mpr c6
  subst c6
  have H1 : (some t596) = some r := by rw [if_neg (show ¬ (false = true) by decide)] at H; exact H
  clear H
  have H := H1
  clear H1
  obtain rfl := Option.some.inj H
  go_enter Tryd.func28, Tryd.ntmps28
  go_wp2_with (first | ((with_reducible refine gate_callee (f := 76) rfl ?_); refine goesL_ (some 7) rfl rfl Tryd.func76 (by kernel_rfl) rfl #[.slice A0 l0.length c0] rfl ln_ ?_; (with_reducible refine (spec_l00From.calls _ _ l0 t587 t588 t589 w _ hb_ HR0.out HC0.out A2.out).mono ?_); rintro e w16 ⟨g590, rfl, hi, hb, hb2⟩; refine ⟨_, rfl, ?_⟩; replace HB := ak_ (hb); have HI590 := ak_ (hi); skip; clear hb hb2 hi) | ((with_reducible refine gate_callee (f := 89) rfl ?_); refine goesL_ (some 9) rfl rfl Tryd.func89 (by kernel_rfl) rfl #[.pointer (some ⟨g590, 0, none⟩)] rfl ln_ ?_; (with_reducible refine (spec_l23New.calls g590 t587 t588 t589 t591 t592 t593 t594 w _ (isS155_a HI590) (hz_ (IsS155.ge HI590.out)) A3.out).mono ?_); rintro e w17 ⟨rfl, hi, hb, hk⟩; refine ⟨_, rfl, ?_⟩; replace HB := ak_ (hb); replace HI590 := ak_ (hi); skip; clear hb hk hi) | ((with_reducible refine gate_dst (N := 4) rfl ?_); refine box_event ?hg (N := 4) ?hd (cs := #[.string (⟨#[]⟩ : ByteArray), .int .i64 0]) (t := 23) ?hr ?_; (case hd => rfl); (case hg => rfl); (case hr => first | (go_simp; done) | (go_simp; rfl)); intro gb595 hg w18 hbox hb; have n0_ := ak_ (IsS155.below (isS155_a HI590) hb); have n1_ := ak_ (below_step (hz_ (IsS155.ge HI590.out)) hb); have n2_ := ak_ (hbox); have n3_ := ak_ ((by rw [hg]; exact (below_size (hz_ (IsS155.ge HI590.out))) : w.heap.size ≤ gb595)); have n4_ := ak_ ((by rw [hg]; exact (below_size (hz_ (IsS155.ge HI590.out))) : w.heap.size ≤ gb595)); have n5_ := ak_ ((by rw [hg]; exact Nat.ne_of_lt (IsS155.lt (show IsS155 w _ g590 t587 t593 t594 from isS155_a HI590)) : g590 ≠ gb595)); have n6_ := ak_ ((by rw [hg]; exact Nat.ne_of_gt (IsS155.lt (show IsS155 w _ g590 t587 t593 t594 from isS155_a HI590)) : gb595 ≠ g590)); clear HI590 HB; have HI590 := n0_; have HB := n1_; have BK595 := n2_; have GW595 := n3_; have GE595 := n4_; have NB590_595 := n5_; have NB595_590 := n6_; clear n0_ n1_ n2_ n3_ n4_ n5_ n6_; clear hb hbox hg; have hnb19 := NB595_590.out; have hnc19 := NB590_595.out; have hcz20_0 : w18.cell? ⟨gb595, 0, none⟩ = some (.string (⟨#[]⟩ : ByteArray)) := (blk_cell BK595.out 0).trans rfl; have hcz20_1 : w18.cell? ⟨gb595, 1, none⟩ = some (.int .i64 0) := (blk_cell BK595.out 1).trans rfl; have hfz20_0 := blk_frozen BK595.out 0; have hfz20_1 := blk_frozen BK595.out 1) | ((with_reducible refine gate_callee (f := 91) rfl ?_); refine goesL_ (some 10) rfl rfl Tryd.func91 (by kernel_rfl) rfl #[.pointer (some ⟨gb595, 0, none⟩)] rfl ln_ ?_; (with_reducible refine (spec_l23Text.calls k _ t591 t592 t596 _ ?side1 ?side2 A4.out).mono ?_); (case side1 => exact (blk_cell (t := 23) (cs := #[.string t591, .int .i64 t592]) (by (with_reducible repeat (first | refine blk_drewN ?_ _ | refine blk_drew ?_ | refine blk_alloc ?_ _)); refine blk_put (cs := #[.string t591, .int .i64 0]) ?_ 1 _ rfl; (with_reducible repeat (first | refine blk_drewN ?_ _ | refine blk_drew ?_ | refine blk_alloc ?_ _)); refine blk_put (cs := #[.string (⟨#[]⟩ : ByteArray), .int .i64 0]) ?_ 0 _ rfl; (with_reducible repeat (first | refine blk_drewN ?_ _ | refine blk_drew ?_ | refine blk_alloc ?_ _)); exact BK595.out) 0).trans rfl); (case side2 => exact (blk_cell (t := 23) (cs := #[.string t591, .int .i64 t592]) (by (with_reducible repeat (first | refine blk_drewN ?_ _ | refine blk_drew ?_ | refine blk_alloc ?_ _)); refine blk_put (cs := #[.string t591, .int .i64 0]) ?_ 1 _ rfl; (with_reducible repeat (first | refine blk_drewN ?_ _ | refine blk_drew ?_ | refine blk_alloc ?_ _)); refine blk_put (cs := #[.string (⟨#[]⟩ : ByteArray), .int .i64 0]) ?_ 0 _ rfl; (with_reducible repeat (first | refine blk_drewN ?_ _ | refine blk_drew ?_ | refine blk_alloc ?_ _)); exact BK595.out) 1).trans rfl); rintro e w21 ⟨rfl, hb⟩; refine ⟨_, rfl, ?_⟩; replace BK595 := ak_ (blk_below (g := gb595) (o := .cells #[.string t591, .int .i64 t592] 23 (0, 0)) (by (with_reducible repeat (first | refine blk_drewN ?_ _ | refine blk_drew ?_ | refine blk_alloc ?_ _)); refine blk_put (cs := #[.string t591, .int .i64 0]) ?_ 1 _ rfl; (with_reducible repeat (first | refine blk_drewN ?_ _ | refine blk_drew ?_ | refine blk_alloc ?_ _)); refine blk_put (cs := #[.string (⟨#[]⟩ : ByteArray), .int .i64 0]) ?_ 0 _ rfl; (with_reducible repeat (first | refine blk_drewN ?_ _ | refine blk_drew ?_ | refine blk_alloc ?_ _)); exact BK595.out) hb); replace HB := ak_ (below_step (by repeat (first | (with_reducible first | exact HB.out | apply below_alloc | apply pw_below_drewN | apply below_drew1 | refine below_set ?_ (IsS155.ge HI590.out) | refine below_set ?_ GE595.out) | exact HB.out)) hb); replace HI590 := ak_ (IsS155.below (show IsS155 w ((w18.setCell ⟨gb595, 0, none⟩ (.string t591)).setCell ⟨gb595, 1, none⟩ (.int .i64 t592)) g590 t587 t593 t594 from by repeat (first | (with_reducible first | exact HI590.out | apply IsS155.alloc | apply IsS155.drewN | apply IsS155.drew | apply IsS155.set_1 | apply IsS155.set_2 | refine IsS155.far ?_ NB590_595.out _) | exact HI590.out)) hb); skip; clear hb) | ((with_reducible refine gate_callee (f := 84) rfl ?_); refine goesL_ (some 12) rfl rfl Tryd.func84 (by kernel_rfl) rfl #[.pointer (some ⟨g590, 0, none⟩), .int .i64 3] rfl ln_ ?_; (with_reducible refine (spec_l00Src_one.calls g590 t587 t593 t594 3 false t598 t599 w _ ?side1 ?side2 A5.out).mono ?_); (case side1 => repeat (first | (with_reducible first | exact HI590.out | apply IsS155.alloc | apply IsS155.drewN | apply IsS155.drew | apply IsS155.set_1 | apply IsS155.set_2 | refine IsS155.far ?_ NB590_595.out _) | exact HI590.out)); (case side2 => repeat (first | (with_reducible first | exact HB.out | apply below_alloc | apply pw_below_drewN | apply below_drew1 | refine below_set ?_ (IsS155.ge HI590.out) | refine below_set ?_ GE595.out) | exact HB.out)); rintro e w22 ⟨rfl, hi, hb, hk⟩; refine ⟨_, rfl, ?_⟩; replace BK595 := ak_ (KeepBut.blk hk (g' := gb595) (o := .cells #[.string t591, .int .i64 t592] 23 (0, 0)) (bk_ BK595) NB595_590.out (by simp)); replace HB := ak_ (hb); replace HI590 := ak_ (hi); skip; clear hb hk hi))
  go_ret
  exact ⟨ew_, by repeat (first | (with_reducible first | exact HB.out | apply below_alloc | apply pw_below_drewN | apply below_drew1 | refine below_set ?_ (IsS155.ge HI590.out) | refine below_set ?_ GE595.out) | exact HB.out)⟩

 subst c6
 have H1 : ((spec_l01Spoil.f t587 t598 t599 t596).bind fun bt600 => (some bt600.1)) = some r := by rw [if_pos rfl] at H; exact H
 clear H
 have H := H1
 clear H1
 replace H := ob_ H
 obtain ⟨⟨t600, t601, t602⟩, A70, H⟩ := H
 (try dsimp only at H)
 have A7 := ak_ A70
 clear A70
 obtain rfl := Option.some.inj H
 go_enter Tryd.func28, Tryd.ntmps28
 go_wp2_with (first | ((with_reducible refine gate_callee (f := 76) rfl ?_); refine goesL_ (some 7) rfl rfl Tryd.func76 (by kernel_rfl) rfl #[.slice A0 l0.length c0] rfl ln_ ?_; (with_reducible refine (spec_l00From.calls _ _ l0 t587 t588 t589 w _ hb_ HR0.out HC0.out A2.out).mono ?_); rintro e w8 ⟨g590, rfl, hi, hb, hb2⟩; refine ⟨_, rfl, ?_⟩; replace HB := ak_ (hb); have HI590 := ak_ (hi); skip; clear hb hb2 hi) | ((with_reducible refine gate_callee (f := 89) rfl ?_); refine goesL_ (some 9) rfl rfl Tryd.func89 (by kernel_rfl) rfl #[.pointer (some ⟨g590, 0, none⟩)] rfl ln_ ?_; (with_reducible refine (spec_l23New.calls g590 t587 t588 t589 t591 t592 t593 t594 w _ (isS155_a HI590) (hz_ (IsS155.ge HI590.out)) A3.out).mono ?_); rintro e w9 ⟨rfl, hi, hb, hk⟩; refine ⟨_, rfl, ?_⟩; replace HB := ak_ (hb); replace HI590 := ak_ (hi); skip; clear hb hk hi) | ((with_reducible refine gate_dst (N := 4) rfl ?_); refine box_event ?hg (N := 4) ?hd (cs := #[.string (⟨#[]⟩ : ByteArray), .int .i64 0]) (t := 23) ?hr ?_; (case hd => rfl); (case hg => rfl); (case hr => first | (go_simp; done) | (go_simp; rfl)); intro gb595 hg w10 hbox hb; have n0_ := ak_ (IsS155.below (isS155_a HI590) hb); have n1_ := ak_ (below_step (hz_ (IsS155.ge HI590.out)) hb); have n2_ := ak_ (hbox); have n3_ := ak_ ((by rw [hg]; exact (below_size (hz_ (IsS155.ge HI590.out))) : w.heap.size ≤ gb595)); have n4_ := ak_ ((by rw [hg]; exact (below_size (hz_ (IsS155.ge HI590.out))) : w.heap.size ≤ gb595)); have n5_ := ak_ ((by rw [hg]; exact Nat.ne_of_lt (IsS155.lt (show IsS155 w _ g590 t587 t593 t594 from isS155_a HI590)) : g590 ≠ gb595)); have n6_ := ak_ ((by rw [hg]; exact Nat.ne_of_gt (IsS155.lt (show IsS155 w _ g590 t587 t593 t594 from isS155_a HI590)) : gb595 ≠ g590)); clear HI590 HB; have HI590 := n0_; have HB := n1_; have BK595 := n2_; have GW595 := n3_; have GE595 := n4_; have NB590_595 := n5_; have NB595_590 := n6_; clear n0_ n1_ n2_ n3_ n4_ n5_ n6_; clear hb hbox hg; have hnb11 := NB595_590.out; have hnc11 := NB590_595.out; have hcz12_0 : w10.cell? ⟨gb595, 0, none⟩ = some (.string (⟨#[]⟩ : ByteArray)) := (blk_cell BK595.out 0).trans rfl; have hcz12_1 : w10.cell? ⟨gb595, 1, none⟩ = some (.int .i64 0) := (blk_cell BK595.out 1).trans rfl; have hfz12_0 := blk_frozen BK595.out 0; have hfz12_1 := blk_frozen BK595.out 1) | ((with_reducible refine gate_callee (f := 91) rfl ?_); refine goesL_ (some 10) rfl rfl Tryd.func91 (by kernel_rfl) rfl #[.pointer (some ⟨gb595, 0, none⟩)] rfl ln_ ?_; (with_reducible refine (spec_l23Text.calls k _ t591 t592 t596 _ ?side1 ?side2 A4.out).mono ?_); (case side1 => exact (blk_cell (t := 23) (cs := #[.string t591, .int .i64 t592]) (by (with_reducible repeat (first | refine blk_drewN ?_ _ | refine blk_drew ?_ | refine blk_alloc ?_ _)); refine blk_put (cs := #[.string t591, .int .i64 0]) ?_ 1 _ rfl; (with_reducible repeat (first | refine blk_drewN ?_ _ | refine blk_drew ?_ | refine blk_alloc ?_ _)); refine blk_put (cs := #[.string (⟨#[]⟩ : ByteArray), .int .i64 0]) ?_ 0 _ rfl; (with_reducible repeat (first | refine blk_drewN ?_ _ | refine blk_drew ?_ | refine blk_alloc ?_ _)); exact BK595.out) 0).trans rfl); (case side2 => exact (blk_cell (t := 23) (cs := #[.string t591, .int .i64 t592]) (by (with_reducible repeat (first | refine blk_drewN ?_ _ | refine blk_drew ?_ | refine blk_alloc ?_ _)); refine blk_put (cs := #[.string t591, .int .i64 0]) ?_ 1 _ rfl; (with_reducible repeat (first | refine blk_drewN ?_ _ | refine blk_drew ?_ | refine blk_alloc ?_ _)); refine blk_put (cs := #[.string (⟨#[]⟩ : ByteArray), .int .i64 0]) ?_ 0 _ rfl; (with_reducible repeat (first | refine blk_drewN ?_ _ | refine blk_drew ?_ | refine blk_alloc ?_ _)); exact BK595.out) 1).trans rfl); rintro e w13 ⟨rfl, hb⟩; refine ⟨_, rfl, ?_⟩; replace BK595 := ak_ (blk_below (g := gb595) (o := .cells #[.string t591, .int .i64 t592] 23 (0, 0)) (by (with_reducible repeat (first | refine blk_drewN ?_ _ | refine blk_drew ?_ | refine blk_alloc ?_ _)); refine blk_put (cs := #[.string t591, .int .i64 0]) ?_ 1 _ rfl; (with_reducible repeat (first | refine blk_drewN ?_ _ | refine blk_drew ?_ | refine blk_alloc ?_ _)); refine blk_put (cs := #[.string (⟨#[]⟩ : ByteArray), .int .i64 0]) ?_ 0 _ rfl; (with_reducible repeat (first | refine blk_drewN ?_ _ | refine blk_drew ?_ | refine blk_alloc ?_ _)); exact BK595.out) hb); replace HB := ak_ (below_step (by repeat (first | (with_reducible first | exact HB.out | apply below_alloc | apply pw_below_drewN | apply below_drew1 | refine below_set ?_ (IsS155.ge HI590.out) | refine below_set ?_ GE595.out) | exact HB.out)) hb); replace HI590 := ak_ (IsS155.below (show IsS155 w ((w10.setCell ⟨gb595, 0, none⟩ (.string t591)).setCell ⟨gb595, 1, none⟩ (.int .i64 t592)) g590 t587 t593 t594 from by repeat (first | (with_reducible first | exact HI590.out | apply IsS155.alloc | apply IsS155.drewN | apply IsS155.drew | apply IsS155.set_1 | apply IsS155.set_2 | refine IsS155.far ?_ NB590_595.out _) | exact HI590.out)) hb); skip; clear hb) | ((with_reducible refine gate_callee (f := 84) rfl ?_); refine goesL_ (some 12) rfl rfl Tryd.func84 (by kernel_rfl) rfl #[.pointer (some ⟨g590, 0, none⟩), .int .i64 3] rfl ln_ ?_; (with_reducible refine (spec_l00Src_one.calls g590 t587 t593 t594 3 true t598 t599 w _ ?side1 ?side2 A5.out).mono ?_); (case side1 => repeat (first | (with_reducible first | exact HI590.out | apply IsS155.alloc | apply IsS155.drewN | apply IsS155.drew | apply IsS155.set_1 | apply IsS155.set_2 | refine IsS155.far ?_ NB590_595.out _) | exact HI590.out)); (case side2 => repeat (first | (with_reducible first | exact HB.out | apply below_alloc | apply pw_below_drewN | apply below_drew1 | refine below_set ?_ (IsS155.ge HI590.out) | refine below_set ?_ GE595.out) | exact HB.out)); rintro e w14 ⟨rfl, hi, hb, hk⟩; refine ⟨_, rfl, ?_⟩; replace BK595 := ak_ (KeepBut.blk hk (g' := gb595) (o := .cells #[.string t591, .int .i64 t592] 23 (0, 0)) (bk_ BK595) NB595_590.out (by simp)); replace HB := ak_ (hb); replace HI590 := ak_ (hi); skip; clear hb hk hi) | ((with_reducible refine gate_callee (f := 92) rfl ?_); refine goesL_ (some 15) rfl rfl Tryd.func92 (by kernel_rfl) rfl #[.pointer (some ⟨g590, 0, none⟩), .string t596] rfl ln_ ?_; (with_reducible refine (spec_l01Spoil.calls g590 t587 t598 t599 t596 t600 t601 t602 w _ ?side1 ?side2 A7.out).mono ?_); (case side1 => repeat (first | (with_reducible first | exact HI590.out | apply IsS155.alloc | apply IsS155.drewN | apply IsS155.drew | apply IsS155.set_1 | apply IsS155.set_2 | refine IsS155.far ?_ NB590_595.out _) | exact HI590.out)); (case side2 => repeat (first | (with_reducible first | exact HB.out | apply below_alloc | apply pw_below_drewN | apply below_drew1 | refine below_set ?_ (IsS155.ge HI590.out) | refine below_set ?_ GE595.out) | exact HB.out)); rintro e w15 ⟨rfl, hi, hb, hk⟩; refine ⟨_, rfl, ?_⟩; replace BK595 := ak_ (KeepBut.blk hk (g' := gb595) (o := .cells #[.string t591, .int .i64 t592] 23 (0, 0)) (bk_ BK595) NB595_590.out (by simp)); replace HB := ak_ (hb); replace HI590 := ak_ (hi); skip; clear hb hk hi))
 go_ret
 exact ⟨ew_, by repeat (first | (with_reducible first | exact HB.out | apply below_alloc | apply pw_below_drewN | apply below_drew1 | refine below_set ?_ (IsS155.ge HI590.out) | refine below_set ?_ GE595.out) | exact HB.out)⟩
/-! ### spec_DrawSameCoils: function 29 -/
def spec_DrawSameCoils.j0 : Nat → List (S23) → List (S23) → Bool → List Int → Int → Int → Option ((List (S23)) × (List (S23)))
 | 0, _, _, _, _, _, _ => none
 | k + 1, x5, x6, x20, x607000, x607001, x607002 => if x20 = true then (if 0 < (x6.length : Int) then ((spec_l00Src_pick.f x607000 x607001 x607002 2).bind fun bt622 => ((some (x6.set (0 : Int).toNat (⟨(rd_T23 x6 0).f0, wrap64 (((rd_T23 x6 0).f1) + bt622.1)⟩ : S23) : List (S23))).bind fun y625 => ((spec_l00Src_one.f x607000 bt622.2.1 bt622.2.2 5).bind fun bt626 => (if bt626.1 = true then (if y625.length < 5864062014805 then (some (x5, (y625 ++ [(⟨(⟨#[]⟩ : ByteArray), 0⟩ : S23)]))) else (none)) else (some (x5, y625)))))) else (none)) else ((spec_l00Src_one.f x607000 x607001 x607002 5).bind fun bt632 => (if bt632.1 = true then (if x6.length < 5864062014805 then (some (x5, (x6 ++ [(⟨(⟨#[]⟩ : ByteArray), 0⟩ : S23)]))) else (none)) else (some (x5, x6))))
def spec_DrawSameCoils.f (k : Nat) (l0 : List Int) : Option ((List (S23)) × (List (S23))) := (spec_l00From.f l0).bind fun bt603 => ((spec_l23Draw.f k bt603.1 bt603.2.1 bt603.2.2).bind fun bt607 => ((some (([] : List (S23)) : List (S23))).bind fun y612 => (if y612.length + bt607.1.length < 5864062014805 then ((some (y612 ++ bt607.1 : List (S23))).bind fun y615 => (if (y615.length : Int) > 0 then ((spec_l00Src_one.f bt603.1 bt607.2.1 bt607.2.2 2).bind fun bt618 => (spec_DrawSameCoils.j0 k bt607.1 y615 bt618.1 bt603.1 bt618.2.1 bt618.2.2)) else (spec_DrawSameCoils.j0 k bt607.1 y615 false bt603.1 bt607.2.1 bt607.2.2))) else (none))))
def spec_DrawSameCoils.T5 : Bool × List (List Nat × List Nat) := (true, [([], []), ([0], [0]), ([1], [1]), ([2], [2]), ([], []), ([4], [4]), ([3, 5], [3, 5]), ([0, 0, 1, 2, 3, 4, 5, 6], [0]), ([7, 0, 1, 2, 3, 4, 5, 6], [7]), ([8, 6, 5, 0, 1, 2, 3, 4, 5, 6], [6, 8])])
def spec_DrawSameCoils.B5 : List Nat := [0, 1, 3, 7, 0, 16, 63, 127, 255, 511]
theorem spec_DrawSameCoils.tab5 : rtab .any (opsOf Tryd.f29 5) = spec_DrawSameCoils.T5 := by kernel_rfl
theorem spec_DrawSameCoils.bits5 : waitsOk spec_DrawSameCoils.T5.2 spec_DrawSameCoils.B5 = true := by kernel_rfl
set_option maxHeartbeats 8000000 in
set_option maxRecDepth 100000 in
theorem spec_DrawSameCoils.calls (k : Nat) (A0 : Option Addr) (c0 : Nat) (l0 : List Int) (r1 : List (S23)) (r2 : List (S23)) (w : World) (hr0 : Kd.C (Kd.int .u8) w A0 l0.length l0) (hc0 : l0.length ≤ c0) (h : spec_DrawSameCoils.f k l0 = some (r1, r2)) :
  Calls Tryd.prog 29 #[.slice A0 l0.length c0] w fun e w' => ∃ v0_ v1_ : Value, e = .returned (.tuple #[v0_, v1_]) ∧ Kd.R k23 23 w' w.heap.size (fun k_ => some k_ ≠ (v1_ : Value).ownBlock) v0_ r1 ∧ Kd.R k23 23 w' w.heap.size (fun k_ => some k_ ≠ (v0_ : Value).ownBlock) v1_ r2 ∧ Below w.heap.size w w' := by
 have hu23 := Tryd.underlying23
 have HR0 := ak_ hr0
 have HC0 := ak_ hc0
 clear hr0 hc0
 have HB := ak_ (Below.refl w.heap.size w)
 have H : ((spec_l00From.f l0).bind fun bt603 => ((spec_l23Draw.f k bt603.1 bt603.2.1 bt603.2.2).bind fun bt607 => ((some (([] : List (S23)) : List (S23))).bind fun y612 => (if y612.length + bt607.1.length < 5864062014805 then ((some (y612 ++ bt607.1 : List (S23))).bind fun y615 => (if (y615.length : Int) > 0 then ((spec_l00Src_one.f bt603.1 bt607.2.1 bt607.2.2 2).bind fun bt618 => (spec_DrawSameCoils.j0 k bt607.1 y615 bt618.1 bt603.1 bt618.2.1 bt618.2.2)) else (spec_DrawSameCoils.j0 k bt607.1 y615 false bt603.1 bt607.2.1 bt607.2.2))) else (none))))) = some (r1, r2) := h
 clear h
 replace H := ob_ H
 obtain ⟨⟨t603, t604, t605⟩, A20, H⟩ := H
 (try dsimp only at H)
 have A2 := ak_ A20
 clear A20
 replace H := ob_ H
 obtain ⟨⟨t607, t610, t611⟩, A30, H⟩ := H
 (try dsimp only at H)
 have A3 := ak_ A30
 clear A30
 obtain ⟨y612, hy612⟩ : ∃ y_ : List (S23), y_ = (([] : List (S23))) := ⟨_, rfl⟩
 replace H : (if y612.length + t607.length < 5864062014805 then ((some (y612 ++ t607 : List (S23))).bind fun y615 => (if (y615.length : Int) > 0 then ((spec_l00Src_one.f t603 t610 t611 2).bind fun bt618 => (spec_DrawSameCoils.j0 k t607 y615 bt618.1 t603 bt618.2.1 bt618.2.2)) else (spec_DrawSameCoils.j0 k t607 y615 false t603 t610 t611))) else (none)) = some (r1, r2) := by first | (rw [hy612]; with_reducible exact H) | (have H2_ := (Option.bind_some _ _).symm.trans H; rw [hy612]; with_reducible exact H2_) | (have H2_ := (Option.bind_some _ _).symm.trans H; with_reducible exact H2_) | with_reducible exact H | (rw [hy612]; exact H) | exact H
 have Ny612 := ak_ hy612
 clear hy612
 by_cases c4 : y612.length + t607.length < 5864062014805
 rotate_left
 ·rw [if_neg c4] at H
  exact absurd H (by simp)

 rw [if_pos c4] at H
 have LMc4 := ak_ c4
 clear c4
 obtain ⟨y615, hy615⟩ : ∃ y_ : List (S23), y_ = (y612 ++ t607) := ⟨_, rfl⟩
 replace H : (if (y615.length : Int) > 0 then ((spec_l00Src_one.f t603 t610 t611 2).bind fun bt618 => (spec_DrawSameCoils.j0 k t607 y615 bt618.1 t603 bt618.2.1 bt618.2.2)) else (spec_DrawSameCoils.j0 k t607 y615 false t603 t610 t611)) = some (r1, r2) := by first | (rw [hy615]; with_reducible exact H) | (have H2_ := (Option.bind_some _ _).symm.trans H; rw [hy615]; with_reducible exact H2_) | (have H2_ := (Option.bind_some _ _).symm.trans H; with_reducible exact H2_) | with_reducible exact H | (rw [hy615]; exact H) | exact H
 have Ny615 := ak_ hy615
 clear hy615
 have HC5 := ak_ H
 clear H
 go_enter Tryd.func29, Tryd.ntmps29
 go_upto_region 4 with (first | ((with_reducible refine gate_callee (f := 76) rfl ?_); refine goesL_ (some 8) rfl rfl Tryd.func76 (by kernel_rfl) rfl #[.slice A0 l0.length c0] rfl ln_ ?_; (with_reducible refine (spec_l00From.calls _ _ l0 t603 t604 t605 w _ hb_ HR0.out HC0.out A2.out).mono ?_); rintro e w6 ⟨g606, rfl, hi, hb, hb2⟩; refine ⟨_, rfl, ?_⟩; replace HB := ak_ (hb); have HI606 := ak_ (hi); skip; clear hb hb2 hi) | ((with_reducible refine gate_callee (f := 93) rfl ?_); refine goesL_ (some 10) rfl rfl Tryd.func93 (by kernel_rfl) rfl #[.pointer (some ⟨g606, 0, none⟩)] rfl ln_ ?_; (with_reducible refine (spec_l23Draw.calls k g606 t603 t604 t605 t607 t610 t611 w _ (isS155_a HI606) (hz_ (IsS155.ge HI606.out)) A3.out).mono ?_); rintro e w7 ⟨v608, rfl, ho0, hi, hb, hk⟩; refine ⟨_, rfl, ?_⟩; have HO609 := ak_ (Kd.R_lower ho0 (below_size (hz_ (IsS155.ge HI606.out)))); replace HB := ak_ (hb); replace HI606 := ak_ (hi); skip; clear hb hk hi ho0) | ((with_reducible refine gate_dst (N := 11) rfl ?_); refine Kd.R_lit k23 _ 23 ?hg (N := 11) ?hd (xs := ([] : List (S23))) (inner := []) (ok := fun _ => True) (okp := fun _ => True) ?hr ?hp (fun _ hk => hk) trivial (Below.refl _ _) (Nat.le_refl _) (by simp) ?_; (case hd => rfl); (case hg => rfl); (case hr => first | (go_simp; done) | (go_simp; rfl)); (case hp => exact (Reps.none _ _)); intro v613 w8 ho9 hb hg_ hnew_; clear hg_ hnew_; (first | rw [← Ny612.out] at ho9 | (simp only [Int.reduceToNat] at ho9; rw [← Ny612.out] at ho9)); have n0_ := ak_ (Kd.R_elder' (kr_ HO609) (Kd.R_base ho9) hb); have n1_ := ak_ (Kd.R_lower (Kd.R_new' ho9 (Kd.R_lt (kr_ HO609))) (below_size (hz_ (IsS155.ge HI606.out)))); have n2_ := ak_ (IsS155.below (isS155_a HI606) hb); have n3_ := ak_ (below_step (hz_ (IsS155.ge HI606.out)) hb); clear HO609 HI606 HB; have HO609 := n0_; have HO614 := n1_; have HI606 := n2_; have HB := n3_; clear n0_ n1_ n2_ n3_; clear hb ho9; obtain ⟨Ao11, co11, eo11⟩ := Kd.R_slice HO609.out; subst eo11) | ((with_reducible refine gate_builtin (b := .append) (xs := #[.tmp 11, .tmp 12]) rfl ?_); at_builtin; refine Kd.R_append_rows k23 (w0 := w) w.heap.size rfl (.tmp 11) (.tmp 12) 30 23 (.agg #[(.string ⟨#[]⟩), (.int .i64 0)]) 24 rfl Tryd.underlying30 info23 rfl (by decide) (by omega) v613 y612 t607 _ _ _ (fun k_ => some k_ ≠ (.slice Ao11 t607.length co11 : Value).ownBlock) (fun _ => False) rfl rfl ?aO ?aR (fun _ _ h => h) (fun _ h => h.elim) ?aF ?aB ?aS ?aL ?_; (case aR => repeat (first | exact (Kd.R_reads' HO609.out).2.2 | (with_reducible refine Kd.C_alloc ?_ _) | (with_reducible refine Kd.C_drewN ?_ _) | (with_reducible refine Kd.C_drew ?_))); (case aB => exact (hz_ (IsS155.ge HI606.out))); (case aF => exact (fun k_ hk => Kd.fresh' (Kd.R_lt (kr_ HO609)) k_ hk)); (case aO => exact (by (with_reducible repeat (first | apply Kd.R_alloc | apply Kd.R_drewN | apply Kd.R_drew)); exact Kd.R_mono HO614.out (fun _ hk => hk.2))); (case aS => exact (below_size (hz_ (IsS155.ge HI606.out)))); (case aL => have := LMc4.out; omega); intro v616 w10 ho hb hg hat; rw [← Ny615.out] at ho; replace HI606 := ak_ (IsS155.grown (isS155_a HI606) hg (IsS155.own_ne HI606.out HO614.out (by decide))); replace HO609 := ak_ (Kd.R_after (ok := (fun _ => True)) (kr_ HO609) hg hat); replace HB := ak_ (hb); have HO617 := ak_ (ho); clear HO614; clear ho hb hg hat))
 (try simp only [Act.put, List.setIfInBounds_toArray, List.set_cons_zero, List.set_cons_succ])
 go_cut [20] (fun v20 wc => ∃ (kq : Nat) (x20_4 : Bool) (x607001_4 : Int) (x607002_4 : Int), v20 = .bool x20_4 ∧ Aside0 (spec_DrawSameCoils.j0 kq t607 y615 x20_4 t603 x607001_4 x607002_4 = some (r1, r2)) ∧ Aside0 (kq ≤ k) ∧ Aside0 (Kd.R k23 23 wc w.heap.size (fun k_ => some k_ ≠ (v616 : Value).ownBlock) (.slice Ao11 t607.length co11) t607) ∧ Aside0 (Kd.R k23 23 wc w.heap.size (fun k_ => some k_ ≠ ((.slice Ao11 t607.length co11) : Value).ownBlock) v616 y615) ∧ Aside0 (IsS155 w wc g606 t603 x607001_4 x607002_4) ∧ Aside0 (Below w.heap.size w wc))
 case first =>
  have H := HC5.out
  clear HC5
  by_cases c12 : (y615.length : Int) > 0
  rotate_left
  ·rw [if_neg c12] at H
   have c12b0 : decide (0 < (y615.length : Int)) = false := decide_eq_false c12
   have c12b1 : decide (0 < y615.length) = false := decide_eq_false (by omega)
   clear c12
   (first | rw [c12b0] | (simp only [i64_w, i32_w]; rw [c12b0]) | skip)
   have H' := ak_ H
   clear H
   obtain ⟨Ao16, co16, eo16⟩ := Kd.R_slice HO617.out
   subst eo16
   go_wp2
   go_meet
   case rel => exact ⟨_, (false), (t610), (t611), fr_, H', ⟨by first | omega | exact Nat.le_refl _⟩, ⟨by (with_reducible repeat (first | apply Kd.R_alloc | apply Kd.R_drewN | apply Kd.R_drew)); exact Kd.R_mono HO609.out (fun _ hk => hk.2)⟩, ⟨kr_ HO617⟩, ⟨by repeat (first | (with_reducible first | exact HI606.out | apply IsS155.alloc | apply IsS155.drewN | apply IsS155.drew | apply IsS155.set_1 | apply IsS155.set_2) | exact HI606.out)⟩, ⟨hz_ (IsS155.ge HI606.out)⟩⟩
  rw [if_pos c12] at H
  have c12b0 : decide (0 < (y615.length : Int)) = true := dt_ c12
  have c12b1 : decide (0 < y615.length) = true := dt_ (by omega)
  clear c12
  (first | rw [c12b0] | (simp only [i64_w, i32_w]; rw [c12b0]) | skip)
  replace H := ob_ H
  obtain ⟨⟨t618, t619, t620⟩, A130, H⟩ := H
  (try dsimp only at H)
  have A13 := ak_ A130
  clear A130
  have H' := ak_ H
  clear H
  obtain ⟨Ao14, co14, eo14⟩ := Kd.R_slice HO617.out
  subst eo14
  go_wp2_with (first | (go_at_call 84; (with_reducible refine (spec_l00Src_one.calls g606 t603 t610 t611 2 t618 t619 t620 w _ (isS155_a HI606) (hz_ (IsS155.ge HI606.out)) A13.out).mono ?_); rintro e w15 ⟨rfl, hi, hb, hk⟩; replace HO609 := ak_ (Kd.R_mono (Kd.R_keep (IsS155.apart (show IsS155 w _ g606 t603 t610 t611 from isS155_a HI606) (kr_ HO609) (by decide)) hk (fun _ h => h.2)) (fun _ h => h.1)); replace HO617 := ak_ (Kd.R_mono (Kd.R_keep (IsS155.apart (show IsS155 w _ g606 t603 t610 t611 from isS155_a HI606) (kr_ HO617) (by decide)) hk (fun _ h => h.2)) (fun _ h => h.1)); replace HB := ak_ (hb); replace HI606 := ak_ (hi); skip; clear hb hk hi))
  go_meet
  case rel => exact ⟨_, (t618), (t619), (t620), fr_, H', ⟨by first | omega | exact Nat.le_refl _⟩, ⟨by (with_reducible repeat (first | apply Kd.R_alloc | apply Kd.R_drewN | apply Kd.R_drew)); exact Kd.R_mono HO609.out (fun _ hk => hk.2)⟩, ⟨kr_ HO617⟩, ⟨by repeat (first | (with_reducible first | exact HI606.out | apply IsS155.alloc | apply IsS155.drewN | apply IsS155.drew | apply IsS155.set_1 | apply IsS155.set_2) | exact HI606.out)⟩, ⟨hz_ (IsS155.ge HI606.out)⟩⟩
 case rest =>
  clear HC5
  try clear c1
  try clear c2
  try clear p2
  try clear c4
  try clear c7
  try clear c9
  try clear c12
  try clear c12b0
  try clear c12b1
  obtain ⟨kq, x20_4, x607001_4, x607002_4, rfl, HA, HJ4, HO_5, HO_6, HI606, HB⟩ := hcut
  cases kq with
  | zero => exact absurd HA.out (by simp [spec_DrawSameCoils.j0])
  | succ kj4 =>
   have H := HA.out
   clear HA
   simp only [spec_DrawSameCoils.j0] at H
   by_cases c17 : x20_4 = true
   ·subst c17
    have H1 : (if 0 < (y615.length : Int) then ((spec_l00Src_pick.f t603 x607001_4 x607002_4 2).bind fun bt622 => ((some (y615.set (0 : Int).toNat (⟨(rd_T23 y615 0).f0, wrap64 (((rd_T23 y615 0).f1) + bt622.1)⟩ : S23) : List (S23))).bind fun y625 => ((spec_l00Src_one.f t603 bt622.2.1 bt622.2.2 5).bind fun bt626 => (if bt626.1 = true then (if y625.length < 5864062014805 then (some (t607, (y625 ++ [(⟨(⟨#[]⟩ : ByteArray), 0⟩ : S23)]))) else (none)) else (some (t607, y625)))))) else (none)) = some (r1, r2) := by rw [if_pos rfl] at H; exact H
    clear H
    have H := H1
    clear H1
    by_cases c18 : 0 < (y615.length : Int)
    ·rw [if_pos c18] at H
     have c18b0 : decide (0 < (y615.length : Int)) = true := dt_ c18
     have c18b1 : decide (0 < y615.length) = true := dt_ (by omega)
     clear c18
     replace H := ob_ H
     obtain ⟨⟨t622, t623, t624⟩, A190, H⟩ := H
     (try dsimp only at H)
     have A19 := ak_ A190
     clear A190
     obtain ⟨y625, hy625⟩ : ∃ y_ : List (S23), y_ = (y615.set (0 : Int).toNat (⟨(rd_T23 y615 0).f0, wrap64 (((rd_T23 y615 0).f1) + t622)⟩ : S23)) := ⟨_, rfl⟩
     replace H : ((spec_l00Src_one.f t603 t623 t624 5).bind fun bt626 => (if bt626.1 = true then (if y625.length < 5864062014805 then (some (t607, (y625 ++ [(⟨(⟨#[]⟩ : ByteArray), 0⟩ : S23)]))) else (none)) else (some (t607, y625)))) = some (r1, r2) := by first | (rw [hy625]; with_reducible exact H) | (have H2_ := (Option.bind_some _ _).symm.trans H; rw [hy625]; with_reducible exact H2_) | (have H2_ := (Option.bind_some _ _).symm.trans H; with_reducible exact H2_) | with_reducible exact H | (rw [hy625]; exact H) | exact H
     have Ny625 := ak_ hy625
     clear hy625
     replace H := ob_ H
     obtain ⟨⟨t626, t627, t628⟩, A210, H⟩ := H
     (try dsimp only at H)
     have A21 := ak_ A210
     clear A210
     by_cases c22 : t626 = true
     ·subst c22
      have H1 : (if y625.length < 5864062014805 then (some (t607, (y625 ++ [(⟨(⟨#[]⟩ : ByteArray), 0⟩ : S23)]))) else (none)) = some (r1, r2) := by rw [if_pos rfl] at H; exact H
      clear H
      have H := H1
      clear H1
      by_cases c23 : y625.length < 5864062014805
      ·rw [if_pos c23] at H
       have LMc23 := ak_ c23
       clear c23
       obtain ⟨y629, hy629⟩ : ∃ y_ : List (S23), y_ = (y625 ++ [(⟨(⟨#[]⟩ : ByteArray), 0⟩ : S23)]) := ⟨_, rfl⟩
       replace H : (some (t607, y629)) = some (r1, r2) := by first | (rw [hy629]; with_reducible exact H) | (have H2_ := (Option.bind_some _ _).symm.trans H; rw [hy629]; with_reducible exact H2_) | (have H2_ := (Option.bind_some _ _).symm.trans H; with_reducible exact H2_) | with_reducible exact H | (rw [hy629]; exact H) | exact H
       have Ny629 := ak_ hy629
       clear hy629
       simp only [Option.some.injEq, Prod.mk.injEq] at H
       obtain ⟨rfl, rfl⟩ := H
       try go_wp2
       have n0_ := ak_ (Kd.R_drew HO_5.out)
       have n1_ := ak_ (Kd.R_drew HO_6.out)
       have n2_ := ak_ (IsS155.drew HI606.out)
       have n3_ := ak_ (below_drew1 HB.out)
       clear HO_5
       clear HO_6
       clear HI606
       clear HB
       have HO_5 := n0_
       have HO_6 := n1_
       have HI606 := n2_
       have HB := n3_
       clear n0_ n1_ n2_ n3_
       obtain ⟨Ao25, co25, eo25⟩ := Kd.R_slice HO_6.out
       (first | subst eo25 | (injection eo25 with f1_ f2_ f3_; have f4_ := f1_.symm; have f5_ := f3_.symm; clear f1_ f2_ f3_; subst f4_; subst f5_))
       have p621 : 0 ≤ (0 : Int) := (by omega)
       have q621 : 0 < (y615.length : Int) := od_
       obtain ⟨ad621, e621, hx621_0, hx621_1⟩ := at_T23 (Kd.R_reads' HO_6.out).2.2 0 p621 q621
       cases e621
       have qi621 : (0 < y615.length) = True := eq_true (by omega)
       (try rw [show ((0 : Int)).toNat = 0 from rfl] at hx621_0)
       (try rw [show 0 * 2 = 0 from rfl] at hx621_0)
       (try rw [Addr.add_zero'] at hx621_0)
       (try rw [show ((0 : Int)).toNat = 0 from rfl] at hx621_1)
       (try rw [show 0 * 2 = 0 from rfl] at hx621_1)
       (try rw [Addr.add_zero'] at hx621_1)
       replace p621 := eq_true p621
       replace q621 := eq_true q621
       refine start_ (n := 10) (S := fun w' => w'.cell? ad621 = some (.string ((rd_T23 y615 0).f0)) ∧ w'.cell? ⟨ad621.block, ad621.off + 1, none⟩ = some (.int .i64 ((rd_T23 y615 0).f1))) (ds := [9]) #[F_,F_,F_,F_,F_,F_,F_,F_,F_,F_] (by kernel_rfl) rfl rfl ⟨hx621_0, hx621_1⟩ (fun hHeld => ?_); refine with_tabW spec_DrawSameCoils.tab5 spec_DrawSameCoils.bits5 (fun HT_ HW_ => ?_)
       generalize wc.drew = w24 at HO_5 HO_6 HI606 HB hx621_0 hx621_1 hHeld ⊢
       refine pv (i := 0) (N := some 21) HT_ ?_
       refine pv (i := 1) (N := some 22) HT_ ?_
       refine pv (i := 2) (N := some 23) HT_ ?_
       refine pv (i := 4) (N := some 25) HT_ ?_
       refine take_ (i := 3) (N := some 24) (v := ?_) (a' := ?_) #[T_,T_,T_,T_,T_,F_,F_,F_,F_,F_] rfl rfl (take_ofW HT_.out HW_.out (by kernel_rfl)) (fun _ _ _ h => h) (Or.inl ⟨by rfl, ?_⟩) hHeld ?_ ?_
       rotate_left
       ·rintro w' ⟨s0, s1⟩
        go_simp
        with_reducible rfl
       rotate_left
       ·simp only [Act.put, sT_, s0_, sS_, i64_w, i32_w]
        rfl
       refine one_ (i := 5) (N := some 26) #[T_,T_,T_,T_,T_,T_,F_,F_,F_,F_] rfl rfl (one_of HT_.out (by kernel_rfl)) (by decide) (fun K hK => ?_)
       refine goes_ Tryd.func86 (by kernel_rfl) rfl #[.pointer (some ⟨g606, 0, none⟩), .int .i64 2] (by rfl) rfl rfl ln_ ?_
       with_reducible refine (spec_l00Src_pick.calls g606 t603 x607001_4 x607002_4 2 t622 t623 t624 w _ ?side1 ?side2 A19.out).mono ?_
       (case side1 => exact isS155_a HI606)
       (case side2 => exact hz_ (IsS155.ge HI606.out))
       rintro e w26 ⟨rfl, hi, hb, hk⟩
       have HS0_ := keep_cell hk (hHeld.1) (by first | (rw [add_block]; exact (by have h_ := Kd.own_blk (IsS155.own_ne HI606.out HO_6.out (by decide)); exact h_)) | (show (Addr.add _ _).block ≠ _; rw [add_block]; exact (by have h_ := Kd.own_blk (IsS155.own_ne HI606.out HO_6.out (by decide)); exact h_)) | exact (by have h_ := Kd.own_blk (IsS155.own_ne HI606.out HO_6.out (by decide)); exact h_))
       have HS1_ := keep_cell hk (hHeld.2) (by first | (rw [add_block]; exact (by have h_ := Kd.own_blk (IsS155.own_ne HI606.out HO_6.out (by decide)); exact h_)) | (show (Addr.add _ _).block ≠ _; rw [add_block]; exact (by have h_ := Kd.own_blk (IsS155.own_ne HI606.out HO_6.out (by decide)); exact h_)) | exact (by have h_ := Kd.own_blk (IsS155.own_ne HI606.out HO_6.out (by decide)); exact h_))
       refine ⟨_, rfl, ?_⟩
       have n0_ := ak_ (Kd.R_mono (Kd.R_keep (IsS155.apart (show IsS155 w _ g606 t603 x607001_4 x607002_4 from isS155_a HI606) (kr_ HO_5) (by decide)) hk (fun _ h => h.2)) (fun _ h => h.1))
       have n1_ := ak_ (Kd.R_mono (Kd.R_keep (IsS155.apart (show IsS155 w _ g606 t603 x607001_4 x607002_4 from isS155_a HI606) (kr_ HO_6) (by decide)) hk (fun _ h => h.2)) (fun _ h => h.1))
       have n2_ := ak_ (hb)
       have n3_ := ak_ (hi)
       clear HO_5
       clear HO_6
       clear HB
       clear HI606
       have HO_5 := n0_
       have HO_6 := n1_
       have HB := n2_
       have HI606 := n3_
       clear n0_ n1_ n2_ n3_
       (try clear hb)
       (try clear hb2)
       (try clear hk)
       (try clear hi)
       have p20 : 0 ≤ (0 : Int) := (by omega)
       have q20 : (0 : Int) < ((y615.length : Int) : Int) := od_
       have qi20 : (0 < y615.length) = True := eq_true (by omega)
       obtain ⟨go20, co20, eo20, gb20, gl20, cl20, HG20⟩ := Kd.R_form HO_6.out (by omega)
       (first | cases eo20 | (injection eo20 with ea_ en_ ec_; (first | subst ea_ | (injection ea_ with ea_; subst ea_)); subst ec_; clear en_))
       have GB20 := ak_ gb20
       have GG20 := ak_ HG20
       clear gb20 gl20 HG20
       (first | simp only [add_plain] at hx621_0 | skip)
       (first | simp only [add_plain] at hx621_1 | skip)
       obtain ⟨ce20, hcl20, hM20, hcc20, hfr20⟩ := Kd.R_elem HO_6.out z23 (0 : Int) p20 q20
       obtain rfl := k23_openM hM20
       have hx20_0 : World.cell? _ ⟨go20, (0 : Int).toNat * 2, none⟩ = some (.string ((rd_T23 y615 0).f0)) := hcc20 0 _ rfl
       have hx20_1 : World.cell? _ ⟨go20, (0 : Int).toNat * 2 + 1, none⟩ = some (.int .i64 ((rd_T23 y615 0).f1)) := hcc20 1 _ rfl
       have hf20_0 : World.frozen? _ ⟨go20, (0 : Int).toNat * 2, none⟩ = false := hfr20 0
       have hf20_1 : World.frozen? _ ⟨go20, (0 : Int).toNat * 2 + 1, none⟩ = false := hfr20 1
       (try clear hcl20); (try clear hcc20); (try clear hfr20); (try clear hM20)
       (try rw [show ((0 : Int)).toNat = 0 from rfl] at hx20_0)
       (try simp only [Nat.reduceMul, Nat.zero_mul, Nat.zero_add, Nat.reduceAdd] at hx20_0)
       (try rw [show ((0 : Int)).toNat = 0 from rfl] at hf20_0)
       (try simp only [Nat.reduceMul, Nat.zero_mul, Nat.zero_add, Nat.reduceAdd] at hf20_0)
       (try rw [show ((0 : Int)).toNat = 0 from rfl] at hx20_1)
       (try simp only [Nat.reduceMul, Nat.zero_mul, Nat.zero_add, Nat.reduceAdd] at hx20_1)
       (try rw [show ((0 : Int)).toNat = 0 from rfl] at hf20_1)
       (try simp only [Nat.reduceMul, Nat.zero_mul, Nat.zero_add, Nat.reduceAdd] at hf20_1)
       replace p20 := eq_true p20
       replace q20 := eq_true q20
       have HN606_go20 := ak_ (show g606 ≠ go20 from by have h_ := IsS155.own_ne HI606.out HO_6.out (by decide); intro e_; exact h_ (by rw [e_]; rfl))
       obtain ⟨ce27, hcl27, hM27, hcc27, hfr27⟩ := Kd.R_elem HO_6.out z23 (0 : Int) (by omega) (by have h_ : (0 : Int) < ((y615.length : Int) : Int) := od_; first | exact h_ | (have e_ := (Kd.R_reads' HO_6.out).1; omega) | simpa using h_)
       obtain rfl := k23_openM hM27
       have HP27 := (Kd.R_seg HO_6.out (0 : Int) (by omega) (by have h_ : (0 : Int) < ((y615.length : Int) : Int) := od_; first | exact h_ | (have e_ := (Kd.R_reads' HO_6.out).1; omega) | simpa using h_) (seg := [.int .i64 (wrap64 (((rd_T23 y615 0).f1) + t622))]) (j := 1) hcl27 hcc27 (show 2 ≤ 2 from by decide) (x' := (⟨(rd_T23 y615 0).f0, wrap64 (((rd_T23 y615 0).f1) + t622)⟩ : S23)) (k23_mkM _ _ _ (⟨(rd_T23 y615 0).f0, wrap64 (((rd_T23 y615 0).f1) + t622)⟩ : S23) ) (fun _ hk => hk)).1
       rw [← Ny625.out] at HP27
       have HQ27 := ak_ HP27
       (try clear hcl27); (try clear hcc27); (try clear hfr27); (try clear hM27); (try clear HP27)
       refine hK.out _ _ ⟨HS0_, HS1_⟩ (fun hHeld => ?_)
       clear hK K
       refine norm_ (a' := ?_) ?_ ?_
       rotate_left
       ·show Act.put _ (some 26) _ = _
        simp only [Act.put, sT_, s0_, sS_, i64_w, i32_w]
        rfl
       refine pv (i := 6) (N := some 27) HT_ ?_
       refine pv (i := 7) (N := some 28) HT_ ?_
       refine pv (i := 8) (N := some 29) HT_ ?_
       refine last_ (i := 9) (N := none) #[T_,T_,T_,T_,T_,T_,T_,T_,T_,T_] rfl rfl (one_of HT_.out (by kernel_rfl)) (by decide) (fun K hK => ?_)
       refine skip_ (w1 := ?_) (by rfl) rfl ?_ ?_
       rotate_left
       ·go_simp
        rfl
       refine hK.out _ _ ?_
       clear hK K
       refine done_ (done_of HT_.out (by kernel_rfl)) ?_
       try go_wp2_with (first | ((with_reducible refine gate_callee (f := 84) rfl ?_); refine goesL_ (some 31) rfl rfl Tryd.func84 (by kernel_rfl) rfl #[.pointer (some ⟨g606, 0, none⟩), .int .i64 5] rfl ln_ ?_; (with_reducible refine (spec_l00Src_one.calls g606 t603 t623 t624 5 true t627 t628 w _ ?side1 ?side2 A21.out).mono ?_); (case side1 => repeat (first | (with_reducible first | exact HI606.out | apply IsS155.alloc | apply IsS155.drewN | apply IsS155.drew | apply IsS155.set_1 | apply IsS155.set_2 | refine IsS155.far ?_ HN606_go20.out _) | exact HI606.out)); (case side2 => repeat (first | (with_reducible first | exact HB.out | apply below_alloc | apply pw_below_drewN | apply below_drew1 | refine below_set ?_ GB20.out | refine below_set ?_ (IsS155.ge HI606.out)) | exact HB.out)); rintro e w28 ⟨rfl, hi, hb, hk⟩; refine ⟨_, rfl, ?_⟩; replace HO_5 := ak_ (Kd.R_mono (Kd.R_keep (IsS155.apart (show IsS155 w _ g606 t603 t623 t624 from by repeat (first | (with_reducible first | exact HI606.out | apply IsS155.alloc | apply IsS155.drewN | apply IsS155.drew | apply IsS155.set_1 | apply IsS155.set_2 | refine IsS155.far ?_ HN606_go20.out _) | exact HI606.out)) (by (with_reducible repeat (first | apply Kd.R_alloc | apply Kd.R_drewN | apply Kd.R_drew)); exact (Kd.R_mono (Kd.R_far (p := ⟨go20, 1, none⟩) (Kd.R_mono HO_5.out (fun k_ hk => (⟨hk, fun e_ => hk (by rw [e_]; rfl)⟩ : _ ∧ k_ ≠ go20))) (fun _ hk => hk.2) (.int .i64 (wrap64 (((rd_T23 y615 0).f1) + t622)))) (fun _ h_ => h_.1))) (by decide)) hk (fun _ h => h.2)) (fun _ h => h.1)); replace HO_6 := ak_ (Kd.R_mono (Kd.R_keep (IsS155.apart (show IsS155 w _ g606 t603 t623 t624 from by repeat (first | (with_reducible first | exact HI606.out | apply IsS155.alloc | apply IsS155.drewN | apply IsS155.drew | apply IsS155.set_1 | apply IsS155.set_2 | refine IsS155.far ?_ HN606_go20.out _) | exact HI606.out)) (kr_ HQ27) (by decide)) hk (fun _ h => h.2)) (fun _ h => h.1)); replace HB := ak_ (hb); replace HI606 := ak_ (hi); skip; clear hb hk hi) | ((with_reducible refine gate_builtin (b := .append) (xs := #[.tmp 32, .tmp 34]) rfl ?_); at_builtin; refine Kd.R_append k23 (w0 := w) w.heap.size rfl (.tmp 32) (.tmp 34) 30 23 (.agg #[(.string ⟨#[]⟩), (.int .i64 0)]) 24 rfl Tryd.underlying30 info23 rfl (by decide) (by omega) (.slice (some ⟨go20, 0, none⟩) y615.length co25) y625 (⟨(⟨#[]⟩ : ByteArray), 0⟩ : S23) [.string (⟨#[]⟩ : ByteArray), .int .i64 0] (fun k_ => some k_ ≠ (.slice Ao11 t607.length co11 : Value).ownBlock) (fun _ => False) rfl rfl ?aP (fun _ hk => hk.elim) ?aF ?aO ?aB ?aS ?aL ?_; (case aP => exact k23_mkM _ _ _ (⟨(⟨#[]⟩ : ByteArray), 0⟩ : S23)); (case aB => exact (hz_ (IsS155.ge HI606.out))); (case aF => exact (fun k_ hk => Kd.fresh' (Kd.R_lt (kr_ HO_5)) k_ hk)); (case aO => exact (kr_ HO_6)); (case aS => exact (below_size (hz_ (IsS155.ge HI606.out)))); (case aL => have := LMc23.out; omega); intro v630 w29 ho hb hg hat; rw [← Ny629.out] at ho; replace HO_5 := ak_ (Kd.R_after (ok := (fun _ => True)) (by (with_reducible repeat (first | apply Kd.R_alloc | apply Kd.R_drewN | apply Kd.R_drew)); exact Kd.R_mono HO_5.out (fun _ hk => ⟨trivial, hk⟩)) hg hat); replace HI606 := ak_ (IsS155.grown (isS155_a HI606) hg (IsS155.own_ne HI606.out HO_6.out (by decide))); replace HB := ak_ (hb); have HO631 := ak_ (ho); clear HO_6; clear ho hb hg hat))
       go_ret2
       exact ⟨_, _, ew_, by (with_reducible repeat (first | apply Kd.R_alloc | apply Kd.R_drewN | apply Kd.R_drew)); exact Kd.R_mono HO_5.out (fun _ hk => hk.2), by (with_reducible repeat (first | apply Kd.R_alloc | apply Kd.R_drewN | apply Kd.R_drew)); exact HO631.out, hz_ (IsS155.ge HI606.out)⟩
      ·rw [if_neg c23] at H
       exact absurd H (by simp)
     ·replace c22 := Bool.eq_false_iff.mpr c22
      subst c22
      have H1 : (some (t607, y625)) = some (r1, r2) := by rw [if_neg (show ¬ (false = true) by decide)] at H; exact H
      clear H
      have H := H1
      clear H1
      simp only [Option.some.injEq, Prod.mk.injEq] at H
      obtain ⟨rfl, rfl⟩ := H
      try go_wp2
      have n0_ := ak_ (Kd.R_drew HO_5.out)
      have n1_ := ak_ (Kd.R_drew HO_6.out)
      have n2_ := ak_ (IsS155.drew HI606.out)
      have n3_ := ak_ (below_drew1 HB.out)
      clear HO_5
      clear HO_6
      clear HI606
      clear HB
      have HO_5 := n0_
      have HO_6 := n1_
      have HI606 := n2_
      have HB := n3_
      clear n0_ n1_ n2_ n3_
      obtain ⟨Ao31, co31, eo31⟩ := Kd.R_slice HO_6.out
      (first | subst eo31 | (injection eo31 with f1_ f2_ f3_; have f4_ := f1_.symm; have f5_ := f3_.symm; clear f1_ f2_ f3_; subst f4_; subst f5_))
      have p621 : 0 ≤ (0 : Int) := (by omega)
      have q621 : 0 < (y615.length : Int) := od_
      obtain ⟨ad621, e621, hx621_0, hx621_1⟩ := at_T23 (Kd.R_reads' HO_6.out).2.2 0 p621 q621
      cases e621
      have qi621 : (0 < y615.length) = True := eq_true (by omega)
      (try rw [show ((0 : Int)).toNat = 0 from rfl] at hx621_0)
      (try rw [show 0 * 2 = 0 from rfl] at hx621_0)
      (try rw [Addr.add_zero'] at hx621_0)
      (try rw [show ((0 : Int)).toNat = 0 from rfl] at hx621_1)
      (try rw [show 0 * 2 = 0 from rfl] at hx621_1)
      (try rw [Addr.add_zero'] at hx621_1)
      replace p621 := eq_true p621
      replace q621 := eq_true q621
      refine start_ (n := 10) (S := fun w' => w'.cell? ad621 = some (.string ((rd_T23 y615 0).f0)) ∧ w'.cell? ⟨ad621.block, ad621.off + 1, none⟩ = some (.int .i64 ((rd_T23 y615 0).f1))) (ds := [9]) #[F_,F_,F_,F_,F_,F_,F_,F_,F_,F_] (by kernel_rfl) rfl rfl ⟨hx621_0, hx621_1⟩ (fun hHeld => ?_); refine with_tabW spec_DrawSameCoils.tab5 spec_DrawSameCoils.bits5 (fun HT_ HW_ => ?_)
      generalize wc.drew = w30 at HO_5 HO_6 HI606 HB hx621_0 hx621_1 hHeld ⊢
      refine pv (i := 0) (N := some 21) HT_ ?_
      refine pv (i := 1) (N := some 22) HT_ ?_
      refine pv (i := 2) (N := some 23) HT_ ?_
      refine pv (i := 4) (N := some 25) HT_ ?_
      refine take_ (i := 3) (N := some 24) (v := ?_) (a' := ?_) #[T_,T_,T_,T_,T_,F_,F_,F_,F_,F_] rfl rfl (take_ofW HT_.out HW_.out (by kernel_rfl)) (fun _ _ _ h => h) (Or.inl ⟨by rfl, ?_⟩) hHeld ?_ ?_
      rotate_left
      ·rintro w' ⟨s0, s1⟩
       go_simp
       with_reducible rfl
      rotate_left
      ·simp only [Act.put, sT_, s0_, sS_, i64_w, i32_w]
       rfl
      refine one_ (i := 5) (N := some 26) #[T_,T_,T_,T_,T_,T_,F_,F_,F_,F_] rfl rfl (one_of HT_.out (by kernel_rfl)) (by decide) (fun K hK => ?_)
      refine goes_ Tryd.func86 (by kernel_rfl) rfl #[.pointer (some ⟨g606, 0, none⟩), .int .i64 2] (by rfl) rfl rfl ln_ ?_
      with_reducible refine (spec_l00Src_pick.calls g606 t603 x607001_4 x607002_4 2 t622 t623 t624 w _ ?side1 ?side2 A19.out).mono ?_
      (case side1 => exact isS155_a HI606)
      (case side2 => exact hz_ (IsS155.ge HI606.out))
      rintro e w32 ⟨rfl, hi, hb, hk⟩
      have HS0_ := keep_cell hk (hHeld.1) (by first | (rw [add_block]; exact (by have h_ := Kd.own_blk (IsS155.own_ne HI606.out HO_6.out (by decide)); exact h_)) | (show (Addr.add _ _).block ≠ _; rw [add_block]; exact (by have h_ := Kd.own_blk (IsS155.own_ne HI606.out HO_6.out (by decide)); exact h_)) | exact (by have h_ := Kd.own_blk (IsS155.own_ne HI606.out HO_6.out (by decide)); exact h_))
      have HS1_ := keep_cell hk (hHeld.2) (by first | (rw [add_block]; exact (by have h_ := Kd.own_blk (IsS155.own_ne HI606.out HO_6.out (by decide)); exact h_)) | (show (Addr.add _ _).block ≠ _; rw [add_block]; exact (by have h_ := Kd.own_blk (IsS155.own_ne HI606.out HO_6.out (by decide)); exact h_)) | exact (by have h_ := Kd.own_blk (IsS155.own_ne HI606.out HO_6.out (by decide)); exact h_))
      refine ⟨_, rfl, ?_⟩
      have n0_ := ak_ (Kd.R_mono (Kd.R_keep (IsS155.apart (show IsS155 w _ g606 t603 x607001_4 x607002_4 from isS155_a HI606) (kr_ HO_5) (by decide)) hk (fun _ h => h.2)) (fun _ h => h.1))
      have n1_ := ak_ (Kd.R_mono (Kd.R_keep (IsS155.apart (show IsS155 w _ g606 t603 x607001_4 x607002_4 from isS155_a HI606) (kr_ HO_6) (by decide)) hk (fun _ h => h.2)) (fun _ h => h.1))
      have n2_ := ak_ (hb)
      have n3_ := ak_ (hi)
      clear HO_5
      clear HO_6
      clear HB
      clear HI606
      have HO_5 := n0_
      have HO_6 := n1_
      have HB := n2_
      have HI606 := n3_
      clear n0_ n1_ n2_ n3_
      (try clear hb)
      (try clear hb2)
      (try clear hk)
      (try clear hi)
      have p20 : 0 ≤ (0 : Int) := (by omega)
      have q20 : (0 : Int) < ((y615.length : Int) : Int) := od_
      have qi20 : (0 < y615.length) = True := eq_true (by omega)
      obtain ⟨go20, co20, eo20, gb20, gl20, cl20, HG20⟩ := Kd.R_form HO_6.out (by omega)
      (first | cases eo20 | (injection eo20 with ea_ en_ ec_; (first | subst ea_ | (injection ea_ with ea_; subst ea_)); subst ec_; clear en_))
      have GB20 := ak_ gb20
      have GG20 := ak_ HG20
      clear gb20 gl20 HG20
      (first | simp only [add_plain] at hx621_0 | skip)
      (first | simp only [add_plain] at hx621_1 | skip)
      obtain ⟨ce20, hcl20, hM20, hcc20, hfr20⟩ := Kd.R_elem HO_6.out z23 (0 : Int) p20 q20
      obtain rfl := k23_openM hM20
      have hx20_0 : World.cell? _ ⟨go20, (0 : Int).toNat * 2, none⟩ = some (.string ((rd_T23 y615 0).f0)) := hcc20 0 _ rfl
      have hx20_1 : World.cell? _ ⟨go20, (0 : Int).toNat * 2 + 1, none⟩ = some (.int .i64 ((rd_T23 y615 0).f1)) := hcc20 1 _ rfl
      have hf20_0 : World.frozen? _ ⟨go20, (0 : Int).toNat * 2, none⟩ = false := hfr20 0
      have hf20_1 : World.frozen? _ ⟨go20, (0 : Int).toNat * 2 + 1, none⟩ = false := hfr20 1
      (try clear hcl20); (try clear hcc20); (try clear hfr20); (try clear hM20)
      (try rw [show ((0 : Int)).toNat = 0 from rfl] at hx20_0)
      (try simp only [Nat.reduceMul, Nat.zero_mul, Nat.zero_add, Nat.reduceAdd] at hx20_0)
      (try rw [show ((0 : Int)).toNat = 0 from rfl] at hf20_0)
      (try simp only [Nat.reduceMul, Nat.zero_mul, Nat.zero_add, Nat.reduceAdd] at hf20_0)
      (try rw [show ((0 : Int)).toNat = 0 from rfl] at hx20_1)
      (try simp only [Nat.reduceMul, Nat.zero_mul, Nat.zero_add, Nat.reduceAdd] at hx20_1)
      (try rw [show ((0 : Int)).toNat = 0 from rfl] at hf20_1)
      (try simp only [Nat.reduceMul, Nat.zero_mul, Nat.zero_add, Nat.reduceAdd] at hf20_1)
      replace p20 := eq_true p20
      replace q20 := eq_true q20
      have HN606_go20 := ak_ (show g606 ≠ go20 from by have h_ := IsS155.own_ne HI606.out HO_6.out (by decide); intro e_; exact h_ (by rw [e_]; rfl))
      obtain ⟨ce33, hcl33, hM33, hcc33, hfr33⟩ := Kd.R_elem HO_6.out z23 (0 : Int) (by omega) (by have h_ : (0 : Int) < ((y615.length : Int) : Int) := od_; first | exact h_ | (have e_ := (Kd.R_reads' HO_6.out).1; omega) | simpa using h_)
      obtain rfl := k23_openM hM33
      have HP33 := (Kd.R_seg HO_6.out (0 : Int) (by omega) (by have h_ : (0 : Int) < ((y615.length : Int) : Int) := od_; first | exact h_ | (have e_ := (Kd.R_reads' HO_6.out).1; omega) | simpa using h_) (seg := [.int .i64 (wrap64 (((rd_T23 y615 0).f1) + t622))]) (j := 1) hcl33 hcc33 (show 2 ≤ 2 from by decide) (x' := (⟨(rd_T23 y615 0).f0, wrap64 (((rd_T23 y615 0).f1) + t622)⟩ : S23)) (k23_mkM _ _ _ (⟨(rd_T23 y615 0).f0, wrap64 (((rd_T23 y615 0).f1) + t622)⟩ : S23) ) (fun _ hk => hk)).1
      rw [← Ny625.out] at HP33
      have HQ33 := ak_ HP33
      (try clear hcl33); (try clear hcc33); (try clear hfr33); (try clear hM33); (try clear HP33)
      refine hK.out _ _ ⟨HS0_, HS1_⟩ (fun hHeld => ?_)
      clear hK K
      refine norm_ (a' := ?_) ?_ ?_
      rotate_left
      ·show Act.put _ (some 26) _ = _
       simp only [Act.put, sT_, s0_, sS_, i64_w, i32_w]
       rfl
      refine pv (i := 6) (N := some 27) HT_ ?_
      refine pv (i := 7) (N := some 28) HT_ ?_
      refine pv (i := 8) (N := some 29) HT_ ?_
      refine last_ (i := 9) (N := none) #[T_,T_,T_,T_,T_,T_,T_,T_,T_,T_] rfl rfl (one_of HT_.out (by kernel_rfl)) (by decide) (fun K hK => ?_)
      refine skip_ (w1 := ?_) (by rfl) rfl ?_ ?_
      rotate_left
      ·go_simp
       rfl
      refine hK.out _ _ ?_
      clear hK K
      refine done_ (done_of HT_.out (by kernel_rfl)) ?_
      try go_wp2_with (first | ((with_reducible refine gate_callee (f := 84) rfl ?_); refine goesL_ (some 31) rfl rfl Tryd.func84 (by kernel_rfl) rfl #[.pointer (some ⟨g606, 0, none⟩), .int .i64 5] rfl ln_ ?_; (with_reducible refine (spec_l00Src_one.calls g606 t603 t623 t624 5 false t627 t628 w _ ?side1 ?side2 A21.out).mono ?_); (case side1 => repeat (first | (with_reducible first | exact HI606.out | apply IsS155.alloc | apply IsS155.drewN | apply IsS155.drew | apply IsS155.set_1 | apply IsS155.set_2 | refine IsS155.far ?_ HN606_go20.out _) | exact HI606.out)); (case side2 => repeat (first | (with_reducible first | exact HB.out | apply below_alloc | apply pw_below_drewN | apply below_drew1 | refine below_set ?_ GB20.out | refine below_set ?_ (IsS155.ge HI606.out)) | exact HB.out)); rintro e w34 ⟨rfl, hi, hb, hk⟩; refine ⟨_, rfl, ?_⟩; replace HO_5 := ak_ (Kd.R_mono (Kd.R_keep (IsS155.apart (show IsS155 w _ g606 t603 t623 t624 from by repeat (first | (with_reducible first | exact HI606.out | apply IsS155.alloc | apply IsS155.drewN | apply IsS155.drew | apply IsS155.set_1 | apply IsS155.set_2 | refine IsS155.far ?_ HN606_go20.out _) | exact HI606.out)) (by (with_reducible repeat (first | apply Kd.R_alloc | apply Kd.R_drewN | apply Kd.R_drew)); exact (Kd.R_mono (Kd.R_far (p := ⟨go20, 1, none⟩) (Kd.R_mono HO_5.out (fun k_ hk => (⟨hk, fun e_ => hk (by rw [e_]; rfl)⟩ : _ ∧ k_ ≠ go20))) (fun _ hk => hk.2) (.int .i64 (wrap64 (((rd_T23 y615 0).f1) + t622)))) (fun _ h_ => h_.1))) (by decide)) hk (fun _ h => h.2)) (fun _ h => h.1)); replace HO_6 := ak_ (Kd.R_mono (Kd.R_keep (IsS155.apart (show IsS155 w _ g606 t603 t623 t624 from by repeat (first | (with_reducible first | exact HI606.out | apply IsS155.alloc | apply IsS155.drewN | apply IsS155.drew | apply IsS155.set_1 | apply IsS155.set_2 | refine IsS155.far ?_ HN606_go20.out _) | exact HI606.out)) (kr_ HQ33) (by decide)) hk (fun _ h => h.2)) (fun _ h => h.1)); replace HB := ak_ (hb); replace HI606 := ak_ (hi); skip; clear hb hk hi))
      go_ret2
      exact ⟨_, _, ew_, by (with_reducible repeat (first | apply Kd.R_alloc | apply Kd.R_drewN | apply Kd.R_drew)); exact HO_5.out, by (with_reducible repeat (first | apply Kd.R_alloc | apply Kd.R_drewN | apply Kd.R_drew)); exact HO_6.out, hz_ (IsS155.ge HI606.out)⟩
    ·rw [if_neg c18] at H
     exact absurd H (by simp)
   ·replace c17 := Bool.eq_false_iff.mpr c17
    subst c17
    have H1 : ((spec_l00Src_one.f t603 x607001_4 x607002_4 5).bind fun bt632 => (if bt632.1 = true then (if y615.length < 5864062014805 then (some (t607, (y615 ++ [(⟨(⟨#[]⟩ : ByteArray), 0⟩ : S23)]))) else (none)) else (some (t607, y615)))) = some (r1, r2) := by rw [if_neg (show ¬ (false = true) by decide)] at H; exact H
    clear H
    have H := H1
    clear H1
    replace H := ob_ H
    obtain ⟨⟨t632, t633, t634⟩, A350, H⟩ := H
    (try dsimp only at H)
    have A35 := ak_ A350
    clear A350
    by_cases c36 : t632 = true
    ·subst c36
     have H1 : (if y615.length < 5864062014805 then (some (t607, (y615 ++ [(⟨(⟨#[]⟩ : ByteArray), 0⟩ : S23)]))) else (none)) = some (r1, r2) := by rw [if_pos rfl] at H; exact H
     clear H
     have H := H1
     clear H1
     by_cases c37 : y615.length < 5864062014805
     ·rw [if_pos c37] at H
      have LMc37 := ak_ c37
      clear c37
      obtain ⟨y635, hy635⟩ : ∃ y_ : List (S23), y_ = (y615 ++ [(⟨(⟨#[]⟩ : ByteArray), 0⟩ : S23)]) := ⟨_, rfl⟩
      replace H : (some (t607, y635)) = some (r1, r2) := by first | (rw [hy635]; with_reducible exact H) | (have H2_ := (Option.bind_some _ _).symm.trans H; rw [hy635]; with_reducible exact H2_) | (have H2_ := (Option.bind_some _ _).symm.trans H; with_reducible exact H2_) | with_reducible exact H | (rw [hy635]; exact H) | exact H
      have Ny635 := ak_ hy635
      clear hy635
      simp only [Option.some.injEq, Prod.mk.injEq] at H
      obtain ⟨rfl, rfl⟩ := H
      go_wp2_with (first | ((with_reducible refine gate_callee (f := 84) rfl ?_); refine goesL_ (some 31) rfl rfl Tryd.func84 (by kernel_rfl) rfl #[.pointer (some ⟨g606, 0, none⟩), .int .i64 5] rfl ln_ ?_; (with_reducible refine (spec_l00Src_one.calls g606 t603 x607001_4 x607002_4 5 true t633 t634 w _ (isS155_a HI606) (hz_ (IsS155.ge HI606.out)) A35.out).mono ?_); rintro e w38 ⟨rfl, hi, hb, hk⟩; refine ⟨_, rfl, ?_⟩; replace HO_5 := ak_ (Kd.R_mono (Kd.R_keep (IsS155.apart (show IsS155 w _ g606 t603 x607001_4 x607002_4 from isS155_a HI606) (kr_ HO_5) (by decide)) hk (fun _ h => h.2)) (fun _ h => h.1)); replace HO_6 := ak_ (Kd.R_mono (Kd.R_keep (IsS155.apart (show IsS155 w _ g606 t603 x607001_4 x607002_4 from isS155_a HI606) (kr_ HO_6) (by decide)) hk (fun _ h => h.2)) (fun _ h => h.1)); replace HB := ak_ (hb); replace HI606 := ak_ (hi); skip; clear hb hk hi) | ((with_reducible refine gate_builtin (b := .append) (xs := #[.tmp 32, .tmp 34]) rfl ?_); at_builtin; refine Kd.R_append k23 (w0 := w) w.heap.size rfl (.tmp 32) (.tmp 34) 30 23 (.agg #[(.string ⟨#[]⟩), (.int .i64 0)]) 24 rfl Tryd.underlying30 info23 rfl (by decide) (by omega) v616 y615 (⟨(⟨#[]⟩ : ByteArray), 0⟩ : S23) [.string (⟨#[]⟩ : ByteArray), .int .i64 0] (fun k_ => some k_ ≠ (.slice Ao11 t607.length co11 : Value).ownBlock) (fun _ => False) rfl rfl ?aP (fun _ hk => hk.elim) ?aF ?aO ?aB ?aS ?aL ?_; (case aP => exact k23_mkM _ _ _ (⟨(⟨#[]⟩ : ByteArray), 0⟩ : S23)); (case aB => exact (hz_ (IsS155.ge HI606.out))); (case aF => exact (fun k_ hk => Kd.fresh' (Kd.R_lt (kr_ HO_5)) k_ hk)); (case aO => exact (kr_ HO_6)); (case aS => exact (below_size (hz_ (IsS155.ge HI606.out)))); (case aL => have := LMc37.out; omega); intro v636 w39 ho hb hg hat; rw [← Ny635.out] at ho; replace HO_5 := ak_ (Kd.R_after (ok := (fun _ => True)) (by (with_reducible repeat (first | apply Kd.R_alloc | apply Kd.R_drewN | apply Kd.R_drew)); exact Kd.R_mono HO_5.out (fun _ hk => ⟨trivial, hk⟩)) hg hat); replace HI606 := ak_ (IsS155.grown (isS155_a HI606) hg (IsS155.own_ne HI606.out HO_6.out (by decide))); replace HB := ak_ (hb); have HO637 := ak_ (ho); clear HO_6; clear ho hb hg hat))
      go_ret2
      exact ⟨_, _, ew_, by (with_reducible repeat (first | apply Kd.R_alloc | apply Kd.R_drewN | apply Kd.R_drew)); exact Kd.R_mono HO_5.out (fun _ hk => hk.2), by (with_reducible repeat (first | apply Kd.R_alloc | apply Kd.R_drewN | apply Kd.R_drew)); exact HO637.out, hz_ (IsS155.ge HI606.out)⟩
     ·rw [if_neg c37] at H
      exact absurd H (by simp)
    ·replace c36 := Bool.eq_false_iff.mpr c36
     subst c36
     have H1 : (some (t607, y615)) = some (r1, r2) := by rw [if_neg (show ¬ (false = true) by decide)] at H; exact H
     clear H
     have H := H1
     clear H1
     simp only [Option.some.injEq, Prod.mk.injEq] at H
     obtain ⟨rfl, rfl⟩ := H
     go_wp2_with (first | ((with_reducible refine gate_callee (f := 84) rfl ?_); refine goesL_ (some 31) rfl rfl Tryd.func84 (by kernel_rfl) rfl #[.pointer (some ⟨g606, 0, none⟩), .int .i64 5] rfl ln_ ?_; (with_reducible refine (spec_l00Src_one.calls g606 t603 x607001_4 x607002_4 5 false t633 t634 w _ (isS155_a HI606) (hz_ (IsS155.ge HI606.out)) A35.out).mono ?_); rintro e w40 ⟨rfl, hi, hb, hk⟩; refine ⟨_, rfl, ?_⟩; replace HO_5 := ak_ (Kd.R_mono (Kd.R_keep (IsS155.apart (show IsS155 w _ g606 t603 x607001_4 x607002_4 from isS155_a HI606) (kr_ HO_5) (by decide)) hk (fun _ h => h.2)) (fun _ h => h.1)); replace HO_6 := ak_ (Kd.R_mono (Kd.R_keep (IsS155.apart (show IsS155 w _ g606 t603 x607001_4 x607002_4 from isS155_a HI606) (kr_ HO_6) (by decide)) hk (fun _ h => h.2)) (fun _ h => h.1)); replace HB := ak_ (hb); replace HI606 := ak_ (hi); skip; clear hb hk hi))
     go_ret2
     exact ⟨_, _, ew_, by (with_reducible repeat (first | apply Kd.R_alloc | apply Kd.R_drewN | apply Kd.R_drew)); exact HO_5.out, by (with_reducible repeat (first | apply Kd.R_alloc | apply Kd.R_drewN | apply Kd.R_drew)); exact HO_6.out, hz_ (IsS155.ge HI606.out)⟩
/-! ### spec_SameCoils: function 30 -/
def spec_SameCoils.l0 : Nat → List (S23) → List (S23) → Int → Option (Bool)
 | 0, _, _, _ => none
 | k + 1, x0, x1, x5 => if x5 < (x0.length : Int) then (if 0 ≤ x5 then (if x5 < (x1.length : Int) then (if (!((((rd_T23 x0 x5).f0).toList) == (((rd_T23 x1 x5).f0).toList)) || (!(((rd_T23 x0 x5).f1) == ((rd_T23 x1 x5).f1)))) = true then (some false) else (spec_SameCoils.l0 k x0 x1 (wrap64 (x5 + 1)))) else (none)) else (none)) else (some true)
def spec_SameCoils.f (k : Nat) (l0 : List (S23)) (l1 : List (S23)) : Option (Bool) := if (l0.length : Int) = (l1.length : Int) then (spec_SameCoils.l0 k l0 l1 0) else (some false)
set_option maxHeartbeats 8000000 in
set_option maxRecDepth 100000 in
theorem spec_SameCoils.calls (k : Nat) (A0 : Option Addr) (c0 : Nat) (l0 : List (S23)) (A1 : Option Addr) (c1 : Nat) (l1 : List (S23)) (r : Bool) (w : World) (hr0 : Kd.C k23 w A0 l0.length l0) (hc0 : l0.length ≤ c0) (hr1 : Kd.C k23 w A1 l1.length l1) (hc1 : l1.length ≤ c1) (h : spec_SameCoils.f k l0 l1 = some r) :
  Calls Tryd.prog 30 #[.slice A0 l0.length c0, .slice A1 l1.length c1] w fun e w' => e = .returned (.bool r) ∧ Drawn0 w w' := by
 have hu23 := Tryd.underlying23
 have HR0 := ak_ hr0
 have HC0 := ak_ hc0
 clear hr0 hc0
 have HR1 := ak_ hr1
 have HC1 := ak_ hc1
 clear hr1 hc1
 have H : (if (l0.length : Int) = (l1.length : Int) then (spec_SameCoils.l0 k l0 l1 0) else (some false)) = some r := h
 clear h
 by_cases c3 : (l0.length : Int) = (l1.length : Int)
 rotate_left
 ·rw [if_neg c3] at H
  have c3b0 : ((l0.length : Int) == (l1.length : Int)) = false := beq_eq_false_iff_ne.mpr c3
  have c3b1 : ((l0.length : Int) != (l1.length : Int)) = true := bne_iff_ne.mpr c3
  have c3b2 : (l0.length == l1.length) = false := by first | simpa using c3 | (simp at c3 ⊢; omega)
  obtain rfl := Option.some.inj H
  go_enter Tryd.func30, Tryd.ntmps30
  go_wp2
  repeat (go_quiet (fail); try go_wp2)
  go_ret
  exact ⟨by first | rfl | (simp; done) | (simp [*]; done), by repeat (first | exact Drawn0.refl _ | apply Drawn0.step)⟩

 rw [if_pos c3] at H
 have c3b0 : ((l0.length : Int) == (l1.length : Int)) = true := beq_iff_eq.mpr c3
 have c3b1 : ((l0.length : Int) != (l1.length : Int)) = false := bne_eq_false_iff_eq.mpr c3
 have c3b2 : (l0.length == l1.length) = true := by first | simpa using c3 | (simp at c3 ⊢; omega)
 clear c3
 have H' := ak_ H
 clear H
 go_enter Tryd.func30, Tryd.ntmps30
 go_wp2
 repeat (go_quiet (fail); try go_wp2)
 go_loopg [5] k (fun kq v5 w' => ∃ (x5_1 : Int), v5 = .int .i64 x5_1 ∧ Aside0 (spec_SameCoils.l0 kq l0 l1 x5_1 = some r) ∧ Aside0 (kq ≤ k) ∧ Drawn0 w w')
 case atStart => exact ⟨(0), fr_, H', ⟨Nat.le_refl _⟩, by repeat (first | exact Drawn0.refl _ | apply Drawn0.step)⟩
 case round =>
  clear H'
  try clear c1
  try clear p2
  try clear c3
  try clear c3b0
  try clear c3b1
  try clear c3b2
  obtain ⟨x5_1, rfl, HA, HK1, ⟨m1, rfl⟩⟩ := hrel
  cases gk with
  | zero => exact absurd HA.out (by simp [spec_SameCoils.l0])
  | succ k1 =>
   have H := HA.out
   clear HA
   simp only [spec_SameCoils.l0] at H
   by_cases c4 : x5_1 < (l0.length : Int)
   rotate_left
   ·rw [if_neg c4] at H
    have c4b0 : decide (x5_1 < (l0.length : Int)) = false := decide_eq_false c4
    clear c4
    obtain rfl := Option.some.inj H
    go_wp2
    repeat (go_quiet (fail); try go_wp2)
    go_ret
    exact ⟨by first | rfl | (simp; done) | (simp [*]; done), by repeat (first | exact Drawn0.refl _ | apply Drawn0.step)⟩
   rw [if_pos c4] at H
   have c4b0 : decide (x5_1 < (l0.length : Int)) = true := dt_ c4
   clear c4
   by_cases c5 : 0 ≤ x5_1
   rotate_left
   ·rw [if_neg c5] at H
    exact absurd H (by simp)
   rw [if_pos c5] at H
   have c5b0 : decide (0 ≤ x5_1) = true := dt_ c5
   clear c5
   by_cases c6 : x5_1 < (l1.length : Int)
   rotate_left
   ·rw [if_neg c6] at H
    exact absurd H (by simp)
   rw [if_pos c6] at H
   have c6b0 : decide (x5_1 < (l1.length : Int)) = true := dt_ c6
   clear c6
   by_cases c7 : (!((((rd_T23 l0 x5_1).f0).toList) == (((rd_T23 l1 x5_1).f0).toList)) || (!(((rd_T23 l0 x5_1).f1) == ((rd_T23 l1 x5_1).f1)))) = true
   ·rw [if_pos c7] at H
    have c7b0 : (!((((rd_T23 l0 x5_1).f0).toList) == (((rd_T23 l1 x5_1).f0).toList)) || (!(((rd_T23 l0 x5_1).f1) == ((rd_T23 l1 x5_1).f1)))) = true := c7
    clear c7
    obtain rfl := Option.some.inj H
    have p638 : 0 ≤ (x5_1 : Int) := od_
    have q638 : x5_1 < (l0.length : Int) := od_
    obtain ⟨ad638, e638, hx638_0, hx638_1⟩ := at_T23 HR0.out x5_1 p638 q638
    cases e638
    replace p638 := eq_true p638
    replace q638 := eq_true q638
    have p639 : 0 ≤ (x5_1 : Int) := od_
    have q639 : x5_1 < (l1.length : Int) := od_
    obtain ⟨ad639, e639, hx639_0, hx639_1⟩ := at_T23 HR1.out x5_1 p639 q639
    cases e639
    replace p639 := eq_true p639
    replace q639 := eq_true q639
    go_wp2
    repeat (go_quiet (fail); try go_wp2)
    go_ret
    exact ⟨by first | rfl | (simp; done) | (simp [*]; done), by repeat (first | exact Drawn0.refl _ | apply Drawn0.step)⟩
   rw [if_neg c7] at H
   have c7b0 : (!((((rd_T23 l0 x5_1).f0).toList) == (((rd_T23 l1 x5_1).f0).toList)) || (!(((rd_T23 l0 x5_1).f1) == ((rd_T23 l1 x5_1).f1)))) = false := by simpa using c7
   clear c7
   have H' := ak_ H
   clear H
   have p638 : 0 ≤ (x5_1 : Int) := od_
   have q638 : x5_1 < (l0.length : Int) := od_
   obtain ⟨ad638, e638, hx638_0, hx638_1⟩ := at_T23 HR0.out x5_1 p638 q638
   cases e638
   replace p638 := eq_true p638
   replace q638 := eq_true q638
   have p639 : 0 ≤ (x5_1 : Int) := od_
   have q639 : x5_1 < (l1.length : Int) := od_
   obtain ⟨ad639, e639, hx639_0, hx639_1⟩ := at_T23 HR1.out x5_1 p639 q639
   cases e639
   replace p639 := eq_true p639
   replace q639 := eq_true q639
   go_wp2
   repeat (go_quiet (fail); try go_wp2)
   go_roundg k1
   case measure => have := HK1.out; omega
   case rel => exact ⟨(wrap64 (x5_1 + 1)), fr_, H', ⟨by have := HK1.out; omega⟩, by repeat (first | exact Drawn0.refl _ | apply Drawn0.step)⟩
/-! ### impl_Coil: function 94 -/
def impl_Coil.l0 : Nat → List (S23) → List (S23) → Int → Int → Option (Bool)
 | 0, _, _, _, _ => none
 | k + 1, x0, x1, x12, x13 => if x13 < x12 then (if 0 ≤ x13 then (if x13 < (x0.length : Int) then (if x13 < (x1.length : Int) then (if (!((((rd_T23 x0 x13).f0).toList) == (((rd_T23 x1 x13).f0).toList)) || (!(((rd_T23 x0 x13).f1) == ((rd_T23 x1 x13).f1)))) = true then (some false) else (impl_Coil.l0 k x0 x1 x12 (wrap64 (x13 + 1)))) else (none)) else (none)) else (none)) else (some true)
def impl_Coil.f (k : Nat) (l0 : List (S23)) (l1 : List (S23)) : Option (Bool) := if (l0.length : Int) = (l1.length : Int) then (impl_Coil.l0 k l0 l1 (l0.length : Int) 0) else (some false)
set_option maxHeartbeats 8000000 in
set_option maxRecDepth 100000 in
theorem impl_Coil.calls (k : Nat) (A0 : Option Addr) (c0 : Nat) (l0 : List (S23)) (A1 : Option Addr) (c1 : Nat) (l1 : List (S23)) (r : Bool) (w : World) (hr0 : Kd.C k23 w A0 l0.length l0) (hc0 : l0.length ≤ c0) (hr1 : Kd.C k23 w A1 l1.length l1) (hc1 : l1.length ≤ c1) (h : impl_Coil.f k l0 l1 = some r) :
  Calls Tryd.prog 94 #[.slice A0 l0.length c0, .slice A1 l1.length c1] w fun e w' => e = .returned (.bool r) ∧ Drawn0 w w' := by
 have hu23 := Tryd.underlying23
 have HR0 := ak_ hr0
 have HC0 := ak_ hc0
 clear hr0 hc0
 have HR1 := ak_ hr1
 have HC1 := ak_ hc1
 clear hr1 hc1
 have H : (if (l0.length : Int) = (l1.length : Int) then (impl_Coil.l0 k l0 l1 (l0.length : Int) 0) else (some false)) = some r := h
 clear h
 by_cases c3 : (l0.length : Int) = (l1.length : Int)
 rotate_left
 ·rw [if_neg c3] at H
  have c3b0 : ((l0.length : Int) == (l1.length : Int)) = false := beq_eq_false_iff_ne.mpr c3
  have c3b1 : ((l0.length : Int) != (l1.length : Int)) = true := bne_iff_ne.mpr c3
  have c3b2 : (l0.length == l1.length) = false := by first | simpa using c3 | (simp at c3 ⊢; omega)
  obtain rfl := Option.some.inj H
  go_enter Tryd.func94, Tryd.ntmps94
  go_wp2
  repeat (go_quiet (fail); try go_wp2)
  go_ret
  exact ⟨by first | rfl | (simp; done) | (simp [*]; done), by repeat (first | exact Drawn0.refl _ | apply Drawn0.step)⟩

 rw [if_pos c3] at H
 have c3b0 : ((l0.length : Int) == (l1.length : Int)) = true := beq_iff_eq.mpr c3
 have c3b1 : ((l0.length : Int) != (l1.length : Int)) = false := bne_eq_false_iff_eq.mpr c3
 have c3b2 : (l0.length == l1.length) = true := by first | simpa using c3 | (simp at c3 ⊢; omega)
 clear c3
 have H' := ak_ H
 clear H
 go_enter Tryd.func94, Tryd.ntmps94
 go_wp2
 repeat (go_quiet (fail); try go_wp2)
 go_loopg [13] k (fun kq v13 w' => ∃ (x13_1 : Int), v13 = .int .i64 x13_1 ∧ Aside0 (impl_Coil.l0 kq l0 l1 (l0.length : Int) x13_1 = some r) ∧ Aside0 (kq ≤ k) ∧ Drawn0 w w')
 case atStart => exact ⟨(0), fr_, H', ⟨Nat.le_refl _⟩, by repeat (first | exact Drawn0.refl _ | apply Drawn0.step)⟩
 case round =>
  clear H'
  try clear c1
  try clear p2
  try clear c3
  try clear c3b0
  try clear c3b1
  try clear c3b2
  obtain ⟨x13_1, rfl, HA, HK1, ⟨m1, rfl⟩⟩ := hrel
  cases gk with
  | zero => exact absurd HA.out (by simp [impl_Coil.l0])
  | succ k1 =>
   have H := HA.out
   clear HA
   simp only [impl_Coil.l0] at H
   by_cases c4 : x13_1 < (l0.length : Int)
   rotate_left
   ·rw [if_neg c4] at H
    have c4b0 : decide (x13_1 < (l0.length : Int)) = false := decide_eq_false c4
    clear c4
    obtain rfl := Option.some.inj H
    go_wp2
    repeat (go_quiet (fail); try go_wp2)
    go_ret
    exact ⟨by first | rfl | (simp; done) | (simp [*]; done), by repeat (first | exact Drawn0.refl _ | apply Drawn0.step)⟩
   rw [if_pos c4] at H
   have c4b0 : decide (x13_1 < (l0.length : Int)) = true := dt_ c4
   clear c4
   by_cases c5 : 0 ≤ x13_1
   rotate_left
   ·rw [if_neg c5] at H
    exact absurd H (by simp)
   rw [if_pos c5] at H
   have c5b0 : decide (0 ≤ x13_1) = true := dt_ c5
   clear c5
   by_cases c6 : x13_1 < (l0.length : Int)
   rotate_left
   ·rw [if_neg c6] at H
    exact absurd H (by simp)
   rw [if_pos c6] at H
   have c6b0 : decide (x13_1 < (l0.length : Int)) = true := dt_ c6
   clear c6
   by_cases c7 : x13_1 < (l1.length : Int)
   rotate_left
   ·rw [if_neg c7] at H
    exact absurd H (by simp)
   rw [if_pos c7] at H
   have c7b0 : decide (x13_1 < (l1.length : Int)) = true := dt_ c7
   clear c7
   by_cases c8 : (!((((rd_T23 l0 x13_1).f0).toList) == (((rd_T23 l1 x13_1).f0).toList)) || (!(((rd_T23 l0 x13_1).f1) == ((rd_T23 l1 x13_1).f1)))) = true
   ·rw [if_pos c8] at H
    have c8b0 : (!((((rd_T23 l0 x13_1).f0).toList) == (((rd_T23 l1 x13_1).f0).toList)) || (!(((rd_T23 l0 x13_1).f1) == ((rd_T23 l1 x13_1).f1)))) = true := c8
    clear c8
    obtain rfl := Option.some.inj H
    have p640 : 0 ≤ (x13_1 : Int) := od_
    have q640 : x13_1 < (l0.length : Int) := od_
    obtain ⟨ad640, e640, hx640_0, hx640_1⟩ := at_T23 HR0.out x13_1 p640 q640
    cases e640
    replace p640 := eq_true p640
    replace q640 := eq_true q640
    have p641 : 0 ≤ (x13_1 : Int) := od_
    have q641 : x13_1 < (l1.length : Int) := od_
    obtain ⟨ad641, e641, hx641_0, hx641_1⟩ := at_T23 HR1.out x13_1 p641 q641
    cases e641
    replace p641 := eq_true p641
    replace q641 := eq_true q641
    go_wp2
    repeat (go_quiet (fail); try go_wp2)
    go_ret
    exact ⟨by first | rfl | (simp; done) | (simp [*]; done), by repeat (first | exact Drawn0.refl _ | apply Drawn0.step)⟩
   rw [if_neg c8] at H
   have c8b0 : (!((((rd_T23 l0 x13_1).f0).toList) == (((rd_T23 l1 x13_1).f0).toList)) || (!(((rd_T23 l0 x13_1).f1) == ((rd_T23 l1 x13_1).f1)))) = false := by simpa using c8
   clear c8
   have H' := ak_ H
   clear H
   have p640 : 0 ≤ (x13_1 : Int) := od_
   have q640 : x13_1 < (l0.length : Int) := od_
   obtain ⟨ad640, e640, hx640_0, hx640_1⟩ := at_T23 HR0.out x13_1 p640 q640
   cases e640
   replace p640 := eq_true p640
   replace q640 := eq_true q640
   have p641 : 0 ≤ (x13_1 : Int) := od_
   have q641 : x13_1 < (l1.length : Int) := od_
   obtain ⟨ad641, e641, hx641_0, hx641_1⟩ := at_T23 HR1.out x13_1 p641 q641
   cases e641
   replace p641 := eq_true p641
   replace q641 := eq_true q641
   go_wp2
   repeat (go_quiet (fail); try go_wp2)
   go_roundg k1
   case measure => have := HK1.out; omega
   case rel => exact ⟨(wrap64 (x13_1 + 1)), fr_, H', ⟨by have := HK1.out; omega⟩, by repeat (first | exact Drawn0.refl _ | apply Drawn0.step)⟩
/-! ### impl_SameCoils: function 32 -/
def impl_SameCoils.f (k : Nat) (l0 : List (S23)) (l1 : List (S23)) : Option (Bool) := (impl_Coil.f k l0 l1).bind fun t642 => (some t642)
set_option maxHeartbeats 8000000 in
set_option maxRecDepth 100000 in
theorem impl_SameCoils.calls (k : Nat) (A0 : Option Addr) (c0 : Nat) (l0 : List (S23)) (A1 : Option Addr) (c1 : Nat) (l1 : List (S23)) (r : Bool) (w : World) (hr0 : Kd.C k23 w A0 l0.length l0) (hc0 : l0.length ≤ c0) (hr1 : Kd.C k23 w A1 l1.length l1) (hc1 : l1.length ≤ c1) (h : impl_SameCoils.f k l0 l1 = some r) :
  Calls Tryd.prog 32 #[.slice A0 l0.length c0, .slice A1 l1.length c1] w fun e w' => e = .returned (.bool r) ∧ Drawn0 w w' := by
 have HR0 := ak_ hr0
 have HC0 := ak_ hc0
 clear hr0 hc0
 have HR1 := ak_ hr1
 have HC1 := ak_ hc1
 clear hr1 hc1
 have H : ((impl_Coil.f k l0 l1).bind fun t642 => (some t642)) = some r := h
 clear h
 replace H := ob_ H
 obtain ⟨t642, A30, H⟩ := H
 (try dsimp only at H)
 have A3 := ak_ A30
 clear A30
 obtain rfl := Option.some.inj H
 go_enter Tryd.func32, Tryd.ntmps32
 go_wp2_with (first | ((with_reducible refine gate_callee (f := 94) rfl ?_); refine goesL_ (some 7) rfl rfl Tryd.func94 (by kernel_rfl) rfl #[.slice A0 l0.length c0, .slice A1 l1.length c1] rfl ln_ ?_; (with_reducible refine (impl_Coil.calls k _ _ l0 _ _ l1 t642 _ (kc_ HR0.out) HC0.out (kc_ HR1.out) HC1.out A3.out).mono ?_); rintro e w' ⟨rfl, ⟨nd, rfl⟩⟩; refine ⟨_, rfl, ?_⟩))
 go_ret
 exact ⟨by first | rfl | (simp; done) | (simp [*]; done), by repeat (first | exact Drawn0.refl _ | apply Drawn0.step)⟩

/-! ### spec_ValidStockCoils: function 34 -/
def spec_ValidStockCoils.f (k : Nat) (l0 : List (S23)) : Option (Bool) := (spec_l23Ok.f k l0).bind fun t643 => (some t643)
set_option maxHeartbeats 8000000 in
set_option maxRecDepth 100000 in
theorem spec_ValidStockCoils.calls (k : Nat) (A0 : Option Addr) (c0 : Nat) (l0 : List (S23)) (r : Bool) (w : World) (hr0 : Kd.C k23 w A0 l0.length l0) (hc0 : l0.length ≤ c0) (h : spec_ValidStockCoils.f k l0 = some r) :
  Calls Tryd.prog 34 #[.slice A0 l0.length c0] w fun e w' => e = .returned (.bool r) ∧ Below w.heap.size w w' := by
 have HR0 := ak_ hr0
 have HC0 := ak_ hc0
 clear hr0 hc0
 have HB := ak_ (Below.refl w.heap.size w)
 have H : ((spec_l23Ok.f k l0).bind fun t643 => (some t643)) = some r := h
 clear h
 replace H := ob_ H
 obtain ⟨t643, A20, H⟩ := H
 (try dsimp only at H)
 have A2 := ak_ A20
 clear A20
 obtain rfl := Option.some.inj H
 go_enter Tryd.func34, Tryd.ntmps34
 go_wp2_with (first | ((with_reducible refine gate_callee (f := 81) rfl ?_); refine goesL_ (some 4) rfl rfl Tryd.func81 (by kernel_rfl) rfl #[.slice A0 l0.length c0] rfl ln_ ?_; (with_reducible refine (spec_l23Ok.calls k _ _ l0 t643 _ (kc_ HR0.out) HC0.out A2.out).mono ?_); rintro e w3 ⟨rfl, hb⟩; refine ⟨_, rfl, ?_⟩; replace HB := ak_ (below_step hb_ hb); skip; clear hb))
 go_ret
 exact ⟨ew_, hb_⟩

end Go.Proofs.YtfenjlkopofopaaDoor.P
end
