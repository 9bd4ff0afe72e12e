-- Written by gprint.py (own program, over the printer of the kit) out of the translation. Lean checks it.
import Derived.Test.YtkegmjebkikniaaPx0
import Derived.Test.YtkegmjebkikniaaPx3
import Derived.Test.YtkegmjebkikniaaPx11
import Derived.Test.YtkegmjebkikniaaPx20
import Derived.Test.YtkegmjebkikniaaPx21
import Derived.Test.YtkegmjebkikniaaPx30
import Derived.Test.YtkegmjebkikniaaWPk
namespace Go.Proofs.Ytkegmjebkikniaa.P
open Go.RowKit Go.Proofs.YtkegmjebkikniaaW.PrintWords Go.Proofs.YtkegmjebkikniaaW.PrintLast Go.Proofs.YtkegmjebkikniaaW.PrintMore Go.Proofs.YtkegmjebkikniaaW.Pk
open Bool renaming true → T_, false → F_
open List renaming setIfInBounds_toArray → sT_, set_cons_zero → s0_, set_cons_succ → sS_
attribute [local go_sem] max2_int min2_int max_two min_two max_three min_three max_four min_four   -- for this text's walks alone
set_option linter.unusedVariables false
set_option linter.unusedSimpArgs false

/-! ### spec_LeastHarm: function 42 -/
-- (by hand)
open Go.Proofs.YtkegmjebkikniaaW.Hand
def spec_LeastHarm.T5 : Bool × List (List Nat × List Nat) := (true, [([], []), ([0], [0]), ([1], [1]), ([2], [2]), ([], []), ([4], [4]), ([5], [5]), ([6], [6]), ([3, 0, 1, 2, 3], [3]), ([7, 8, 0, 1, 2, 3, 4, 5, 6, 7, 8], [7]), ([9, 0, 1, 2, 3, 4, 5, 6, 7, 8, 9], [])])
def spec_LeastHarm.B5 : List Nat := [0, 1, 3, 7, 0, 16, 48, 112, 15, 511, 1023]
theorem spec_LeastHarm.tab5 : rtab .any (opsOf Try.f42 5) = spec_LeastHarm.T5 := by kernel_rfl
theorem spec_LeastHarm.bits5 : waitsOk spec_LeastHarm.T5.2 spec_LeastHarm.B5 = true := by kernel_rfl

def spec_LeastHarm.f (k : Nat) (l0 : List S55) : Option (List Int × Int × Int) := (spec_l22Ok.f k l0).bind fun b => if b = true then (if l0.length ≤ 7 then ((ordersFrom l0.length l0.length []).foldlM (leafW k l0) ([], -1, 0)).bind fun st => some (st.1, st.2.1, 0) else none) else some ([], 0, 1)
theorem spec_LeastHarm.mono : ∀ a0 k, LeO (spec_LeastHarm.f k a0) (spec_LeastHarm.f (k + 1) a0) := by
 intro a0 k
 unfold spec_LeastHarm.f
 exact LeO.bind (spec_l22Ok.mono _ _) (fun _ => LeO.ite (LeO.ite (LeO.bind (leafs_mono k a0 _ _) (fun _ => LeO.refl _)) (LeO.refl _)) (LeO.refl _))
set_option maxHeartbeats 4000000 in
theorem spec_LeastHarm.calls (k : Nat) (A0 : Option Addr) (c0 : Nat) (l0 : List S55) (r1 : List Int) (r2 r3 : Int) (w : World) (hr0 : Kd.C k55 w A0 l0.length l0) (hc0 : l0.length ≤ c0) (h : spec_LeastHarm.f k l0 = some (r1, r2, r3)) :
  Calls Try.prog 42 #[.slice A0 l0.length c0] w fun e w' => ∃ v0_ : Value, e = .returned (.tuple #[v0_, .int .i64 r2, .int .i64 r3]) ∧ Kd.R (Kd.int .i64) 2 w' w.heap.size (fun _ => True) v0_ r1 ∧ Below w.heap.size w w' := by
 unfold spec_LeastHarm.f at h
 have HR0 := Aside0.mk hr0
 have HC0 := Aside0.mk hc0
 clear hr0 hc0
 replace h := Option.bind_eq_some_iff.mp h
 obtain ⟨b, hv, h⟩ := h
 have HV := Aside0.mk hv
 clear hv
 cases b with
 | false =>
  rw [if_neg (by decide)] at h
  simp only [Option.some.injEq, Prod.mk.injEq] at h
  obtain ⟨rfl, rfl, rfl⟩ := h
  go_enter Try.func42, Try.ntmps42
  go_wp2_with (go_at_call 56; refine (spec_l22Ok.calls k A0 c0 l0 false w HR0.out HC0.out HV.out).mono ?_; rintro e w1 ⟨rfl, hb1⟩; have HB1 := Aside0.mk hb1; clear hb1)
  go_ret3
  exact ⟨_, rfl, Kd.R_nil _ _ _ _ _, HB1.out⟩
 | true =>
  rw [if_pos rfl] at h
  by_cases hn : l0.length ≤ 7
  ·rw [if_pos hn] at h
   replace h := Option.bind_eq_some_iff.mp h
   obtain ⟨st, hst, h⟩ := h
   simp only [Option.some.injEq, Prod.mk.injEq] at h
   obtain ⟨rfl, rfl, rfl⟩ := h
   have HST := Aside0.mk hst
   have HN := Aside0.mk hn
   clear hst hn
   go_enter Try.func42, Try.ntmps42
   go_wp2_with (first
    | (go_at_call 56; refine (spec_l22Ok.calls k A0 c0 l0 true w HR0.out HC0.out HV.out).mono ?_; rintro e w1 ⟨rfl, hb1⟩; have HB1 := Aside0.mk hb1; clear hb1)
    | ((with_reducible refine gate_dst (N := 11) rfl ?_); refine hand_box (fun g w2 => RInv w w2 g A0 c0 l0 (.slice none 0 0) [] (-1) 0) ?hg2 (N := 11) ?hd2 (cs := #[.slice A0 l0.length c0, .slice none 0 0, .int .i64 (-1), .int .i64 0]) (t := 75) ?hr2 ?hF2 ?_; (case hd2 => rfl); (case hg2 => rfl); (case hr2 => first | (go_simp; done) | (go_simp; rfl)); (case hF2 => exact ⟨heap_alloc_new _ _, own_nil _ _ _ _, HR0.out, HC0.out, below_then HB1.out HB1.out.size (below_alloc (Below.refl _ _) _), HB1.out.size⟩); intro g w2 hI; have HI := Aside0.mk hI; clear hI)
    | ((with_reducible refine gate_dst (N := 13) rfl ?_); refine Kd.R_lit (Kd.int .i64) w.heap.size 2 ?hg3 (w0 := w) (N := 13) ?hd3 (xs := ([] : List Int)) (inner := []) (ok := fun _ => True) (okp := fun _ => True) ?hr3 ?hp3 (fun _ hk => hk) trivial HI.out.below HI.out.below.size (by simp) ?_; (case hd3 => rfl); (case hg3 => rfl); (case hr3 => first | (go_simp; done) | (go_simp; rfl)); (case hp3 => exact (Reps.none _ _)); intro v3 w3 ho3 hb3 hg3 _; have ho4 := nums_of_R ho3; obtain ⟨A3, n3, e3⟩ := own_slice ho4; rw [e3] at ho4; rw [e3]; have HO3 := Aside0.mk ho4; have HI3 := Aside0.mk (HI.out.grown hg3); clear ho3 ho4 hb3 hg3 e3 HI)
    | (go_at_call 63; refine (walkW_calls k w g A0 c0 l0 HN.out l0.length w3 _ [] (-1) 0 st A3 n3 [] _ rfl HI3.out HO3.out (by simp) HST.out).mono ?_; rintro e w4 ⟨rfl, _, vb4, hI4⟩; obtain ⟨A4, n4, e4⟩ := own_slice hI4.brow; rw [e4] at hI4; clear e4; have d1 := hI4.c1; have d2 := hI4.c2; have d3 := hI4.c3; have HI4 := Aside0.mk hI4; clear hI4 HI3))
   refine start_ (n := 11) (S := fun w' => w'.cell? ⟨g, 1, none⟩ = some (.slice A4 st.1.length n4) ∧ w'.cell? ⟨g, 2, none⟩ = some (.int .i64 st.2.1)) (ds := [99]) #[F_,F_,F_,F_,F_,F_,F_,F_,F_,F_,F_] (by kernel_rfl) rfl rfl ⟨d1, d2⟩ (fun hHeld => ?_); refine with_tabW spec_LeastHarm.tab5 spec_LeastHarm.bits5 (fun HT_ HW_ => ?_)
   refine pu (i := 0) (N := some 15) #[T_,F_,F_,F_,F_,F_,F_,F_,F_,F_,F_] HT_ ?_
   refine pu (i := 1) (N := some 16) #[T_,T_,F_,F_,F_,F_,F_,F_,F_,F_,F_] HT_ ?_
   refine pu (i := 2) (N := some 17) #[T_,T_,T_,F_,F_,F_,F_,F_,F_,F_,F_] HT_ ?_
   refine pu (i := 4) (N := some 19) #[T_,T_,T_,F_,T_,F_,F_,F_,F_,F_,F_] HT_ ?_
   refine pu (i := 5) (N := some 20) #[T_,T_,T_,F_,T_,T_,F_,F_,F_,F_,F_] HT_ ?_
   refine pu (i := 6) (N := some 21) #[T_,T_,T_,F_,T_,T_,T_,F_,F_,F_,F_] HT_ ?_
   refine take_ (i := 3) (N := some 18) (v := ?_) (a' := ?_) #[T_,T_,T_,T_,T_,T_,T_,F_,F_,F_,F_] rfl rfl (take_ofW HT_.out HW_.out (by kernel_rfl)) (fun _ _ _ h => h) (Or.inl ⟨by rfl, ?_⟩) hHeld ?_ ?_
   rotate_left
   ·rintro w' ⟨s0, s1⟩
    go_simp
    with_reducible rfl
   rotate_left
   ·simp only [Act.put, sT_, s0_, sS_, i64_w, i32_w]
    rfl
   refine pu (i := 8) (N := some 2) #[T_,T_,T_,T_,T_,T_,T_,F_,T_,F_,F_] HT_ ?_
   refine take_ (i := 7) (N := some 22) (v := ?_) (a' := ?_) #[T_,T_,T_,T_,T_,T_,T_,T_,T_,F_,F_] rfl rfl (take_ofW HT_.out HW_.out (by kernel_rfl)) (fun _ _ _ h => h) (Or.inl ⟨by rfl, ?_⟩) hHeld ?_ ?_
   rotate_left
   ·rintro w' ⟨s0, s1⟩
    go_simp
    with_reducible rfl
   rotate_left
   ·simp only [Act.put, sT_, s0_, sS_, i64_w, i32_w]
    rfl
   refine pu (i := 9) (N := some 3) #[T_,T_,T_,T_,T_,T_,T_,T_,T_,T_,F_] HT_ ?_
   refine pu (i := 10) (N := some 4) #[T_,T_,T_,T_,T_,T_,T_,T_,T_,T_,T_] HT_ ?_
   refine done_ (done_of HT_.out (by kernel_rfl)) ?_
   go_wp2_with fail
   go_ret3
   exact ⟨_, rfl, R_of_nums HI4.out.drew.brow, HI4.out.drew.below⟩
  ·rw [if_neg hn] at h
   exact absurd h (by simp)


/-! ### laws_FnExactLeastHarm: function 11 -/
mutual
def laws_FnExactLeastHarm.j0 : Nat → List (S66) → List Int → Int → Int → List (S55) → List Int → Int → Int → Bool → Option (Bool)
 | 0, _, _, _, _, _, _, _, _, _ => none
 | k + 1, x0, x4, x5, x6, x7, x8, x9, x10, x50 => if x50 = true then (some false) else ((laws_toRenewalS.f k x0).bind fun t524 => ((laws_eqRenewalS.f k x7 t524).bind fun t527 => (if t527 = true then ((laws_markRenewalS.f k x7 1).bind fun bt528 => (if bt528.1 < 0 then (laws_FnExactLeastHarm.j1 k x0 x4 x5 x6 x8 true) else ((laws_eqInt64S.f k x8 x4).bind fun t530 => (if t530 = true then (if x9 = x5 then (laws_FnExactLeastHarm.j1 k x0 x4 x5 x6 x8 (x10 != x6)) else (laws_FnExactLeastHarm.j1 k x0 x4 x5 x6 x8 true)) else (laws_FnExactLeastHarm.j1 k x0 x4 x5 x6 x8 true))))) else (some false))))
def laws_FnExactLeastHarm.j1 : Nat → List (S66) → List Int → Int → Int → List Int → Bool → Option (Bool)
 | 0, _, _, _, _, _, _ => none
 | k + 1, x0, x4, x5, x6, x8, x76 => if x76 = true then (some false) else ((laws_markInt64S.f k x8 1).bind fun bt531 => ((laws_heldInt64S.f k bt531.2 1).bind fun t533 => (if t533 < 0 then (some false) else (if t533 = bt531.1 then ((laws_toRenewalS.f k x0).bind fun t534 => ((impl_LeastHarm.f k t534).bind fun bt537 => ((laws_eqInt64S.f k bt537.1 x4).bind fun t542 => (if t542 = true then (if bt537.2.1 = x5 then (laws_FnExactLeastHarm.j2 k bt531.2 bt531.1 (bt537.2.2 != x6)) else (laws_FnExactLeastHarm.j2 k bt531.2 bt531.1 true)) else (laws_FnExactLeastHarm.j2 k bt531.2 bt531.1 true))))) else (some false)))))
def laws_FnExactLeastHarm.j2 : Nat → List Int → Int → Bool → Option (Bool)
 | 0, _, _, _ => none
 | k + 1, x8, x12, x108 => if x108 = true then (some false) else ((laws_heldInt64S.f k x8 1).bind fun t543 => (if t543 < 0 then (some false) else (if t543 = x12 then (some true) else (some false))))
end
def laws_FnExactLeastHarm.f (k : Nat) (l0 : List (S66)) : Option (Bool) := (laws_szRenewalS.f k l0 1048576).bind fun t506 => (if t506 < 0 then (some true) else ((laws_toRenewalS.f k l0).bind fun t507 => ((spec_LeastHarm.f k t507).bind fun bt510 => ((laws_toRenewalS.f k l0).bind fun t515 => ((impl_LeastHarm.f k t515).bind fun bt518 => ((laws_eqInt64S.f k bt518.1 bt510.1).bind fun t523 => (if t523 = true then (if bt518.2.1 = bt510.2.1 then (laws_FnExactLeastHarm.j0 k l0 bt510.1 bt510.2.1 bt510.2.2 t515 bt518.1 bt518.2.1 bt518.2.2 (bt518.2.2 != bt510.2.2)) else (laws_FnExactLeastHarm.j0 k l0 bt510.1 bt510.2.1 bt510.2.2 t515 bt518.1 bt518.2.1 bt518.2.2 true)) else (laws_FnExactLeastHarm.j0 k l0 bt510.1 bt510.2.1 bt510.2.2 t515 bt518.1 bt518.2.1 bt518.2.2 true))))))))
theorem laws_FnExactLeastHarm.mono_l : ∀ k, (∀ y0 y1 y2 y3 y4 y5 y6 y7 y8, LeO (laws_FnExactLeastHarm.j0 k y0 y1 y2 y3 y4 y5 y6 y7 y8) (laws_FnExactLeastHarm.j0 (k + 1) y0 y1 y2 y3 y4 y5 y6 y7 y8)) ∧ (∀ y0 y1 y2 y3 y4 y5, LeO (laws_FnExactLeastHarm.j1 k y0 y1 y2 y3 y4 y5) (laws_FnExactLeastHarm.j1 (k + 1) y0 y1 y2 y3 y4 y5)) ∧ (∀ y0 y1 y2, LeO (laws_FnExactLeastHarm.j2 k y0 y1 y2) (laws_FnExactLeastHarm.j2 (k + 1) y0 y1 y2))
 | 0 => ⟨fun _ _ _ _ _ _ _ _ _ r h => by simp [laws_FnExactLeastHarm.j0] at h, fun _ _ _ _ _ _ r h => by simp [laws_FnExactLeastHarm.j1] at h, fun _ _ _ r h => by simp [laws_FnExactLeastHarm.j2] at h⟩
 | k + 1 => by
  obtain ⟨ih0, ih1, ih2⟩ := laws_FnExactLeastHarm.mono_l k
  refine ⟨?_, ?_, ?_⟩
  ·intro y0 y1 y2 y3 y4 y5 y6 y7 y8
   unfold laws_FnExactLeastHarm.j0
   repeat' first
   | (with_reducible exact ih0 _ _ _ _ _ _ _ _ _)
   | (with_reducible exact ih1 _ _ _ _ _ _)
   | (with_reducible exact ih2 _ _ _)
   | (with_reducible exact impl_LeastHarm.mono _ _)
   | (with_reducible exact laws_eqInt64S.mono _ _ _)
   | (with_reducible exact laws_eqRenewalS.mono _ _ _)
   | (with_reducible exact laws_heldInt64S.mono _ _ _)
   | (with_reducible exact laws_markInt64S.mono _ _ _)
   | (with_reducible exact laws_markRenewalS.mono _ _ _)
   | (with_reducible exact laws_szRenewalS.mono _ _ _)
   | (with_reducible exact laws_toRenewalS.mono _ _)
   | (with_reducible exact spec_LeastHarm.mono _ _)
   | (with_reducible exact LeO.refl _)
   | (with_reducible exact LeO.none _)
   | (with_reducible refine LeO.ite ?_ ?_)
   | (with_reducible refine LeO.bind ?_ (fun _ => ?_))
   | exact ih0 _ _ _ _ _ _ _ _ _
   | exact ih1 _ _ _ _ _ _
   | exact ih2 _ _ _
   | exact impl_LeastHarm.mono _ _
   | exact laws_eqInt64S.mono _ _ _
   | exact laws_eqRenewalS.mono _ _ _
   | exact laws_heldInt64S.mono _ _ _
   | exact laws_markInt64S.mono _ _ _
   | exact laws_markRenewalS.mono _ _ _
   | exact laws_szRenewalS.mono _ _ _
   | exact laws_toRenewalS.mono _ _
   | exact spec_LeastHarm.mono _ _
   | exact LeO.none _
   | refine LeO.ite ?_ ?_
   | refine LeO.bind ?_ (fun _ => ?_)
  ·intro y0 y1 y2 y3 y4 y5
   unfold laws_FnExactLeastHarm.j1
   repeat' first
   | (with_reducible exact ih0 _ _ _ _ _ _ _ _ _)
   | (with_reducible exact ih1 _ _ _ _ _ _)
   | (with_reducible exact ih2 _ _ _)
   | (with_reducible exact impl_LeastHarm.mono _ _)
   | (with_reducible exact laws_eqInt64S.mono _ _ _)
   | (with_reducible exact laws_eqRenewalS.mono _ _ _)
   | (with_reducible exact laws_heldInt64S.mono _ _ _)
   | (with_reducible exact laws_markInt64S.mono _ _ _)
   | (with_reducible exact laws_markRenewalS.mono _ _ _)
   | (with_reducible exact laws_szRenewalS.mono _ _ _)
   | (with_reducible exact laws_toRenewalS.mono _ _)
   | (with_reducible exact spec_LeastHarm.mono _ _)
   | (with_reducible exact LeO.refl _)
   | (with_reducible exact LeO.none _)
   | (with_reducible refine LeO.ite ?_ ?_)
   | (with_reducible refine LeO.bind ?_ (fun _ => ?_))
   | exact ih0 _ _ _ _ _ _ _ _ _
   | exact ih1 _ _ _ _ _ _
   | exact ih2 _ _ _
   | exact impl_LeastHarm.mono _ _
   | exact laws_eqInt64S.mono _ _ _
   | exact laws_eqRenewalS.mono _ _ _
   | exact laws_heldInt64S.mono _ _ _
   | exact laws_markInt64S.mono _ _ _
   | exact laws_markRenewalS.mono _ _ _
   | exact laws_szRenewalS.mono _ _ _
   | exact laws_toRenewalS.mono _ _
   | exact spec_LeastHarm.mono _ _
   | exact LeO.none _
   | refine LeO.ite ?_ ?_
   | refine LeO.bind ?_ (fun _ => ?_)
  ·intro y0 y1 y2
   unfold laws_FnExactLeastHarm.j2
   repeat' first
   | (with_reducible exact ih0 _ _ _ _ _ _ _ _ _)
   | (with_reducible exact ih1 _ _ _ _ _ _)
   | (with_reducible exact ih2 _ _ _)
   | (with_reducible exact impl_LeastHarm.mono _ _)
   | (with_reducible exact laws_eqInt64S.mono _ _ _)
   | (with_reducible exact laws_eqRenewalS.mono _ _ _)
   | (with_reducible exact laws_heldInt64S.mono _ _ _)
   | (with_reducible exact laws_markInt64S.mono _ _ _)
   | (with_reducible exact laws_markRenewalS.mono _ _ _)
   | (with_reducible exact laws_szRenewalS.mono _ _ _)
   | (with_reducible exact laws_toRenewalS.mono _ _)
   | (with_reducible exact spec_LeastHarm.mono _ _)
   | (with_reducible exact LeO.refl _)
   | (with_reducible exact LeO.none _)
   | (with_reducible refine LeO.ite ?_ ?_)
   | (with_reducible refine LeO.bind ?_ (fun _ => ?_))
   | exact ih0 _ _ _ _ _ _ _ _ _
   | exact ih1 _ _ _ _ _ _
   | exact ih2 _ _ _
   | exact impl_LeastHarm.mono _ _
   | exact laws_eqInt64S.mono _ _ _
   | exact laws_eqRenewalS.mono _ _ _
   | exact laws_heldInt64S.mono _ _ _
   | exact laws_markInt64S.mono _ _ _
   | exact laws_markRenewalS.mono _ _ _
   | exact laws_szRenewalS.mono _ _ _
   | exact laws_toRenewalS.mono _ _
   | exact spec_LeastHarm.mono _ _
   | exact LeO.none _
   | refine LeO.ite ?_ ?_
   | refine LeO.bind ?_ (fun _ => ?_)
theorem laws_FnExactLeastHarm.mono : ∀ a0 k, LeO (laws_FnExactLeastHarm.f k a0) (laws_FnExactLeastHarm.f (k + 1) a0) := by
 intro a0 k
 obtain ⟨ih0, ih1, ih2⟩ := laws_FnExactLeastHarm.mono_l k
 unfold laws_FnExactLeastHarm.f
 repeat' first
   | (with_reducible exact ih0 _ _ _ _ _ _ _ _ _)
   | (with_reducible exact ih1 _ _ _ _ _ _)
   | (with_reducible exact ih2 _ _ _)
   | (with_reducible exact impl_LeastHarm.mono _ _)
   | (with_reducible exact laws_eqInt64S.mono _ _ _)
   | (with_reducible exact laws_eqRenewalS.mono _ _ _)
   | (with_reducible exact laws_heldInt64S.mono _ _ _)
   | (with_reducible exact laws_markInt64S.mono _ _ _)
   | (with_reducible exact laws_markRenewalS.mono _ _ _)
   | (with_reducible exact laws_szRenewalS.mono _ _ _)
   | (with_reducible exact laws_toRenewalS.mono _ _)
   | (with_reducible exact spec_LeastHarm.mono _ _)
   | (with_reducible exact LeO.refl _)
   | (with_reducible exact LeO.none _)
   | (with_reducible refine LeO.ite ?_ ?_)
   | (with_reducible refine LeO.bind ?_ (fun _ => ?_))
   | exact ih0 _ _ _ _ _ _ _ _ _
   | exact ih1 _ _ _ _ _ _
   | exact ih2 _ _ _
   | exact impl_LeastHarm.mono _ _
   | exact laws_eqInt64S.mono _ _ _
   | exact laws_eqRenewalS.mono _ _ _
   | exact laws_heldInt64S.mono _ _ _
   | exact laws_markInt64S.mono _ _ _
   | exact laws_markRenewalS.mono _ _ _
   | exact laws_szRenewalS.mono _ _ _
   | exact laws_toRenewalS.mono _ _
   | exact spec_LeastHarm.mono _ _
   | exact LeO.none _
   | refine LeO.ite ?_ ?_
   | refine LeO.bind ?_ (fun _ => ?_)
set_option maxHeartbeats 8000000 in
set_option maxRecDepth 100000 in
theorem laws_FnExactLeastHarm.calls (k : Nat) (A0 : Option Addr) (c0 : Nat) (l0 : List (S66)) (r : Bool) (w : World) (hr0 : Kd.C k66 w A0 l0.length l0) (hc0 : l0.length ≤ c0) (h : laws_FnExactLeastHarm.f k l0 = some r) :
  Calls Try.prog 11 #[.slice A0 l0.length c0] w fun e w' => e = .returned (.bool r) ∧ Below w.heap.size w w' := by
 have HR0 := Aside0.mk hr0
 have HC0 := Aside0.mk hc0
 clear hr0 hc0
 have HB := Aside0.mk (Below.refl w.heap.size w)
 have H : ((laws_szRenewalS.f k l0 1048576).bind fun t506 => (if t506 < 0 then (some true) else ((laws_toRenewalS.f k l0).bind fun t507 => ((spec_LeastHarm.f k t507).bind fun bt510 => ((laws_toRenewalS.f k l0).bind fun t515 => ((impl_LeastHarm.f k t515).bind fun bt518 => ((laws_eqInt64S.f k bt518.1 bt510.1).bind fun t523 => (if t523 = true then (if bt518.2.1 = bt510.2.1 then (laws_FnExactLeastHarm.j0 k l0 bt510.1 bt510.2.1 bt510.2.2 t515 bt518.1 bt518.2.1 bt518.2.2 (bt518.2.2 != bt510.2.2)) else (laws_FnExactLeastHarm.j0 k l0 bt510.1 bt510.2.1 bt510.2.2 t515 bt518.1 bt518.2.1 bt518.2.2 true)) else (laws_FnExactLeastHarm.j0 k l0 bt510.1 bt510.2.1 bt510.2.2 t515 bt518.1 bt518.2.1 bt518.2.2 true))))))))) = some r := h
 clear h
 replace H := Option.bind_eq_some_iff.mp H
 obtain ⟨t506, A20, H⟩ := H
 replace H : (if t506 < 0 then (some true) else ((laws_toRenewalS.f k l0).bind fun t507 => ((spec_LeastHarm.f k t507).bind fun bt510 => ((laws_toRenewalS.f k l0).bind fun t515 => ((impl_LeastHarm.f k t515).bind fun bt518 => ((laws_eqInt64S.f k bt518.1 bt510.1).bind fun t523 => (if t523 = true then (if bt518.2.1 = bt510.2.1 then (laws_FnExactLeastHarm.j0 k l0 bt510.1 bt510.2.1 bt510.2.2 t515 bt518.1 bt518.2.1 bt518.2.2 (bt518.2.2 != bt510.2.2)) else (laws_FnExactLeastHarm.j0 k l0 bt510.1 bt510.2.1 bt510.2.2 t515 bt518.1 bt518.2.1 bt518.2.2 true)) else (laws_FnExactLeastHarm.j0 k l0 bt510.1 bt510.2.1 bt510.2.2 t515 bt518.1 bt518.2.1 bt518.2.2 true)))))))) = some r := H
 have A2 := Aside0.mk A20
 clear A20
 by_cases c3 : t506 < 0
 ·rw [if_pos c3] at H
  have c3b0 : decide (t506 < 0) = true := decide_eq_true c3
  clear c3
  obtain rfl := Option.some.inj H
  go_enter Try.func11, Try.ntmps11
  go_wp2_with (first | ((with_reducible refine gate_callee (f := 20) rfl ?_); refine goesL_ (some 19) rfl rfl Try.func20 (by kernel_rfl) rfl #[.slice A0 l0.length c0, .int .i64 1048576] rfl ln_ ?_; (with_reducible refine (laws_szRenewalS.calls k _ _ l0 1048576 t506 _ ?side1 ?side2 A2.out).mono ?_); (case side1 => exact kc_ HR0.out); (case side2 => exact HC0.out); rintro e w4 ⟨rfl, hb⟩; refine ⟨_, rfl, ?_⟩; have n0_ := Aside0.mk (below_step hb_ hb); clear HB; have HB := n0_; clear n0_; (try clear hb); (try clear hb2); (try clear hk); (try clear hi)))
  go_ret
  exact ⟨ew_, hb_⟩
 ·rw [if_neg c3] at H
  have c3b0 : decide (t506 < 0) = false := decide_eq_false c3
  clear c3
  replace H := Option.bind_eq_some_iff.mp H
  obtain ⟨t507, A50, H⟩ := H
  replace H : ((spec_LeastHarm.f k t507).bind fun bt510 => ((laws_toRenewalS.f k l0).bind fun t515 => ((impl_LeastHarm.f k t515).bind fun bt518 => ((laws_eqInt64S.f k bt518.1 bt510.1).bind fun t523 => (if t523 = true then (if bt518.2.1 = bt510.2.1 then (laws_FnExactLeastHarm.j0 k l0 bt510.1 bt510.2.1 bt510.2.2 t515 bt518.1 bt518.2.1 bt518.2.2 (bt518.2.2 != bt510.2.2)) else (laws_FnExactLeastHarm.j0 k l0 bt510.1 bt510.2.1 bt510.2.2 t515 bt518.1 bt518.2.1 bt518.2.2 true)) else (laws_FnExactLeastHarm.j0 k l0 bt510.1 bt510.2.1 bt510.2.2 t515 bt518.1 bt518.2.1 bt518.2.2 true)))))) = some r := H
  have A5 := Aside0.mk A50
  clear A50
  replace H := Option.bind_eq_some_iff.mp H
  obtain ⟨⟨t510, t511, t512⟩, A60, H⟩ := H
  replace H : ((laws_toRenewalS.f k l0).bind fun t515 => ((impl_LeastHarm.f k t515).bind fun bt518 => ((laws_eqInt64S.f k bt518.1 t510).bind fun t523 => (if t523 = true then (if bt518.2.1 = t511 then (laws_FnExactLeastHarm.j0 k l0 t510 t511 t512 t515 bt518.1 bt518.2.1 bt518.2.2 (bt518.2.2 != t512)) else (laws_FnExactLeastHarm.j0 k l0 t510 t511 t512 t515 bt518.1 bt518.2.1 bt518.2.2 true)) else (laws_FnExactLeastHarm.j0 k l0 t510 t511 t512 t515 bt518.1 bt518.2.1 bt518.2.2 true))))) = some r := H
  have A6 := Aside0.mk A60
  clear A60
  replace H := Option.bind_eq_some_iff.mp H
  obtain ⟨t515, A70, H⟩ := H
  replace H : ((impl_LeastHarm.f k t515).bind fun bt518 => ((laws_eqInt64S.f k bt518.1 t510).bind fun t523 => (if t523 = true then (if bt518.2.1 = t511 then (laws_FnExactLeastHarm.j0 k l0 t510 t511 t512 t515 bt518.1 bt518.2.1 bt518.2.2 (bt518.2.2 != t512)) else (laws_FnExactLeastHarm.j0 k l0 t510 t511 t512 t515 bt518.1 bt518.2.1 bt518.2.2 true)) else (laws_FnExactLeastHarm.j0 k l0 t510 t511 t512 t515 bt518.1 bt518.2.1 bt518.2.2 true)))) = some r := H
  have A7 := Aside0.mk A70
  clear A70
  replace H := Option.bind_eq_some_iff.mp H
  obtain ⟨⟨t518, t519, t520⟩, A80, H⟩ := H
  replace H : ((laws_eqInt64S.f k t518 t510).bind fun t523 => (if t523 = true then (if t519 = t511 then (laws_FnExactLeastHarm.j0 k l0 t510 t511 t512 t515 t518 t519 t520 (t520 != t512)) else (laws_FnExactLeastHarm.j0 k l0 t510 t511 t512 t515 t518 t519 t520 true)) else (laws_FnExactLeastHarm.j0 k l0 t510 t511 t512 t515 t518 t519 t520 true))) = some r := H
  have A8 := Aside0.mk A80
  clear A80
  have HC9 := Aside0.mk H
  clear H
  go_enter Try.func11, Try.ntmps11
  go_upto_region 8 with (first | ((with_reducible refine gate_callee (f := 20) rfl ?_); refine goesL_ (some 19) rfl rfl Try.func20 (by kernel_rfl) rfl #[.slice A0 l0.length c0, .int .i64 1048576] rfl ln_ ?_; (with_reducible refine (laws_szRenewalS.calls k _ _ l0 1048576 t506 _ ?side1 ?side2 A2.out).mono ?_); (case side1 => exact kc_ HR0.out); (case side2 => exact HC0.out); rintro e w10 ⟨rfl, hb⟩; refine ⟨_, rfl, ?_⟩; have n0_ := Aside0.mk (below_step hb_ hb); clear HB; have HB := n0_; clear n0_; (try clear hb); (try clear hb2); (try clear hk); (try clear hi)) | ((with_reducible refine gate_callee (f := 22) rfl ?_); refine goesL_ (some 24) rfl rfl Try.func22 (by kernel_rfl) rfl #[.slice A0 l0.length c0] rfl ln_ ?_; (with_reducible refine (laws_toRenewalS.calls k _ _ l0 t507 _ ?side1 ?side2 A5.out).mono ?_); (case side1 => exact kc_ (Kd.C_below HR0.out HB.out)); (case side2 => exact HC0.out); rintro e w11 ⟨v508, rfl, ho0, hb⟩; refine ⟨_, rfl, ?_⟩; have n0_ := Aside0.mk (Kd.R_lower ho0 (below_size hb_)); have n1_ := Aside0.mk (below_step hb_ hb); clear HB; have HO509 := n0_; have HB := n1_; clear n0_ n1_; (try clear hb); (try clear hb2); (try clear hk); (try clear hi); (try clear ho0); obtain ⟨Ao12, co12, eo12⟩ := Kd.R_slice HO509.out; subst eo12) | ((with_reducible refine gate_callee (f := 42) rfl ?_); refine goesL_ (some 25) rfl rfl Try.func42 (by kernel_rfl) rfl #[.slice Ao12 t507.length co12] rfl ln_ ?_; (with_reducible refine (spec_LeastHarm.calls k _ _ t507 t510 t511 t512 _ ?side1 ?side2 A6.out).mono ?_); (case side1 => repeat (first | exact (Kd.R_reads' HO509.out).2.2 | (with_reducible refine Kd.C_alloc ?_ _) | (with_reducible refine Kd.C_drewN ?_ _) | (with_reducible refine Kd.C_drew ?_))); (case side2 => exact (Kd.R_reads' HO509.out).2.1); rintro e w13 ⟨v513, rfl, ho0, hb⟩; refine ⟨_, rfl, ?_⟩; have n0_ := Aside0.mk (Kd.R_below (kr_ HO509) hb); have n1_ := Aside0.mk (Kd.R_lower ho0 (below_size hb_)); have n2_ := Aside0.mk (below_step hb_ hb); clear HO509; clear HB; have HO509 := n0_; have HO514 := n1_; have HB := n2_; clear n0_ n1_ n2_; (try clear hb); (try clear hb2); (try clear hk); (try clear hi); (try clear ho0)) | ((with_reducible refine gate_callee (f := 22) rfl ?_); refine goesL_ (some 30) rfl rfl Try.func22 (by kernel_rfl) rfl #[.slice A0 l0.length c0] rfl ln_ ?_; (with_reducible refine (laws_toRenewalS.calls k _ _ l0 t515 _ ?side1 ?side2 A7.out).mono ?_); (case side1 => exact kc_ (Kd.C_below HR0.out HB.out)); (case side2 => exact HC0.out); rintro e w14 ⟨v516, rfl, ho0, hb⟩; refine ⟨_, rfl, ?_⟩; have n0_ := Aside0.mk (Kd.R_elder' (kr_ HO509) (Kd.R_base ho0) hb); have n1_ := Aside0.mk (Kd.R_below (kr_ HO514) hb); have n2_ := Aside0.mk (Kd.R_lower (Kd.R_new' ho0 (Kd.R_lt (kr_ HO509))) (below_size hb_)); have n3_ := Aside0.mk (below_step hb_ hb); clear HO509; clear HO514; clear HB; have HO509 := n0_; have HO514 := n1_; have HO517 := n2_; have HB := n3_; clear n0_ n1_ n2_ n3_; (try clear hb); (try clear hb2); (try clear hk); (try clear hi); (try clear ho0); obtain ⟨Ao15, co15, eo15⟩ := Kd.R_slice HO517.out; subst eo15) | ((with_reducible refine gate_callee (f := 43) rfl ?_); refine goesL_ (some 33) rfl rfl Try.func43 (by kernel_rfl) rfl #[.slice Ao15 t515.length co15] rfl ln_ ?_; (with_reducible refine (impl_LeastHarm.calls k _ _ t515 t518 t519 t520 _ ?side1 ?side2 A8.out).mono ?_); (case side1 => repeat (first | exact (Kd.R_reads' HO517.out).2.2 | (with_reducible refine Kd.C_alloc ?_ _) | (with_reducible refine Kd.C_drewN ?_ _) | (with_reducible refine Kd.C_drew ?_))); (case side2 => exact (Kd.R_reads' HO517.out).2.1); rintro e w16 ⟨v521, rfl, ho0, hb⟩; refine ⟨_, rfl, ?_⟩; have n0_ := Aside0.mk (Kd.R_below (kr_ HO509) hb); have n1_ := Aside0.mk (Kd.R_elder' (kr_ HO514) (Kd.R_base ho0) hb); have n2_ := Aside0.mk (Kd.R_below (kr_ HO517) hb); have n3_ := Aside0.mk (Kd.R_lower (Kd.R_new' ho0 (Kd.R_lt (kr_ HO514))) (below_size hb_)); have n4_ := Aside0.mk (below_step hb_ hb); clear HO509; clear HO514; clear HO517; clear HB; have HO509 := n0_; have HO514 := n1_; have HO517 := n2_; have HO522 := n3_; have HB := n4_; clear n0_ n1_ n2_ n3_ n4_; (try clear hb); (try clear hb2); (try clear hk); (try clear hi); (try clear ho0)))
  (try simp only [Act.put, List.setIfInBounds_toArray, List.set_cons_zero, List.set_cons_succ])
  go_cut [50] (fun v50 wc => ∃ (kq : Nat) (x50_8 : Bool), v50 = .bool x50_8 ∧ Aside0 (laws_FnExactLeastHarm.j0 kq l0 t510 t511 t512 t515 t518 t519 t520 x50_8 = some r) ∧ Aside0 (kq ≤ k) ∧ Aside0 (Kd.R (Kd.int .i64) 2 wc w.heap.size (fun k_ => some k_ ≠ (v521 : Value).ownBlock) v513 t510) ∧ Aside0 (Kd.R k55 55 wc w.heap.size (fun _ => True) (.slice Ao15 t515.length co15) t515) ∧ Aside0 (Kd.R (Kd.int .i64) 2 wc w.heap.size (fun k_ => some k_ ≠ (v513 : Value).ownBlock) v521 t518) ∧ Aside0 (Below w.heap.size w wc))
  case first =>
   have H := HC9.out
   clear HC9
   replace H := Option.bind_eq_some_iff.mp H
   obtain ⟨t523, A170, H⟩ := H
   replace H : (if t523 = true then (if t519 = t511 then (laws_FnExactLeastHarm.j0 k l0 t510 t511 t512 t515 t518 t519 t520 (t520 != t512)) else (laws_FnExactLeastHarm.j0 k l0 t510 t511 t512 t515 t518 t519 t520 true)) else (laws_FnExactLeastHarm.j0 k l0 t510 t511 t512 t515 t518 t519 t520 true)) = some r := H
   have A17 := Aside0.mk A170
   clear A170
   by_cases c18 : t523 = true
   ·subst c18
    have H1 : (if t519 = t511 then (laws_FnExactLeastHarm.j0 k l0 t510 t511 t512 t515 t518 t519 t520 (t520 != t512)) else (laws_FnExactLeastHarm.j0 k l0 t510 t511 t512 t515 t518 t519 t520 true)) = some r := by rw [if_pos rfl] at H; exact H
    clear H
    have H := H1
    clear H1
    by_cases c19 : t519 = t511
    ·rw [if_pos c19] at H
     have c19b0 : (t519 == t511) = true := beq_iff_eq.mpr c19
     have c19b1 : (t519 != t511) = false := bne_eq_false_iff_eq.mpr c19
     clear c19
     (first | rw [c19b0] | (simp only [i64_w, i32_w]; rw [c19b0]) | skip)
     have H' := Aside0.mk H
     clear H
     obtain ⟨Ao20, co20, eo20⟩ := Kd.R_slice HO522.out
     subst eo20
     obtain ⟨Ao21, co21, eo21⟩ := Kd.R_slice HO514.out
     subst eo21
     go_wp2_with (first | ((with_reducible refine gate_callee (f := 30) rfl ?_); refine goesL_ (some 39) rfl rfl Try.func30 (by kernel_rfl) rfl #[.slice Ao20 t518.length co20, .slice Ao21 t510.length co21] rfl ln_ ?_; (with_reducible refine (laws_eqInt64S.calls k _ _ t518 _ _ t510 true _ ?side1 ?side2 ?side3 ?side4 A17.out).mono ?_); (case side1 => repeat (first | exact (Kd.R_reads' HO522.out).2.2 | (with_reducible refine Kd.C_alloc ?_ _) | (with_reducible refine Kd.C_drewN ?_ _) | (with_reducible refine Kd.C_drew ?_))); (case side2 => exact (Kd.R_reads' HO522.out).2.1); (case side3 => repeat (first | exact (Kd.R_reads' HO514.out).2.2 | (with_reducible refine Kd.C_alloc ?_ _) | (with_reducible refine Kd.C_drewN ?_ _) | (with_reducible refine Kd.C_drew ?_))); (case side4 => exact (Kd.R_reads' HO514.out).2.1); rintro e w' ⟨rfl, ⟨nd, rfl⟩⟩; refine ⟨_, rfl, ?_⟩))
     go_meet
     case rel => exact ⟨_, ((t520 != t512)), (by first | rfl | (simp; done) | (simp [*]; done)), H', ⟨by first | omega | exact Nat.le_refl _⟩, ⟨by (with_reducible repeat (first | apply Kd.R_alloc | apply Kd.R_drewN | apply Kd.R_drew)); exact Kd.R_mono HO514.out (fun _ hk => hk.2)⟩, ⟨by (with_reducible repeat (first | apply Kd.R_alloc | apply Kd.R_drewN | apply Kd.R_drew)); exact Kd.R_mono HO517.out (fun _ hk => trivial)⟩, ⟨by (with_reducible repeat (first | apply Kd.R_alloc | apply Kd.R_drewN | apply Kd.R_drew)); exact Kd.R_mono HO522.out (fun _ hk => hk.2)⟩, ⟨hb_⟩⟩
    ·rw [if_neg c19] at H
     have c19b0 : (t519 == t511) = false := beq_eq_false_iff_ne.mpr c19
     have c19b1 : (t519 != t511) = true := bne_iff_ne.mpr c19
     (first | rw [c19b0] | (simp only [i64_w, i32_w]; rw [c19b0]) | skip)
     have H' := Aside0.mk H
     clear H
     obtain ⟨Ao22, co22, eo22⟩ := Kd.R_slice HO522.out
     subst eo22
     obtain ⟨Ao23, co23, eo23⟩ := Kd.R_slice HO514.out
     subst eo23
     go_wp2_with (first | ((with_reducible refine gate_callee (f := 30) rfl ?_); refine goesL_ (some 39) rfl rfl Try.func30 (by kernel_rfl) rfl #[.slice Ao22 t518.length co22, .slice Ao23 t510.length co23] rfl ln_ ?_; (with_reducible refine (laws_eqInt64S.calls k _ _ t518 _ _ t510 true _ ?side1 ?side2 ?side3 ?side4 A17.out).mono ?_); (case side1 => repeat (first | exact (Kd.R_reads' HO522.out).2.2 | (with_reducible refine Kd.C_alloc ?_ _) | (with_reducible refine Kd.C_drewN ?_ _) | (with_reducible refine Kd.C_drew ?_))); (case side2 => exact (Kd.R_reads' HO522.out).2.1); (case side3 => repeat (first | exact (Kd.R_reads' HO514.out).2.2 | (with_reducible refine Kd.C_alloc ?_ _) | (with_reducible refine Kd.C_drewN ?_ _) | (with_reducible refine Kd.C_drew ?_))); (case side4 => exact (Kd.R_reads' HO514.out).2.1); rintro e w' ⟨rfl, ⟨nd, rfl⟩⟩; refine ⟨_, rfl, ?_⟩))
     go_meet
     case rel => exact ⟨_, (true), (by first | rfl | (simp; done) | (simp [*]; done)), H', ⟨by first | omega | exact Nat.le_refl _⟩, ⟨by (with_reducible repeat (first | apply Kd.R_alloc | apply Kd.R_drewN | apply Kd.R_drew)); exact Kd.R_mono HO514.out (fun _ hk => hk.2)⟩, ⟨by (with_reducible repeat (first | apply Kd.R_alloc | apply Kd.R_drewN | apply Kd.R_drew)); exact Kd.R_mono HO517.out (fun _ hk => trivial)⟩, ⟨by (with_reducible repeat (first | apply Kd.R_alloc | apply Kd.R_drewN | apply Kd.R_drew)); exact Kd.R_mono HO522.out (fun _ hk => hk.2)⟩, ⟨hb_⟩⟩
   ·replace c18 := Bool.eq_false_iff.mpr c18
    subst c18
    have H1 : (laws_FnExactLeastHarm.j0 k l0 t510 t511 t512 t515 t518 t519 t520 true) = some r := by rw [if_neg (show ¬ (false = true) by decide)] at H; exact H
    clear H
    have H := H1
    clear H1
    have H' := Aside0.mk H
    clear H
    obtain ⟨Ao24, co24, eo24⟩ := Kd.R_slice HO522.out
    subst eo24
    obtain ⟨Ao25, co25, eo25⟩ := Kd.R_slice HO514.out
    subst eo25
    go_wp2_with (first | ((with_reducible refine gate_callee (f := 30) rfl ?_); refine goesL_ (some 39) rfl rfl Try.func30 (by kernel_rfl) rfl #[.slice Ao24 t518.length co24, .slice Ao25 t510.length co25] rfl ln_ ?_; (with_reducible refine (laws_eqInt64S.calls k _ _ t518 _ _ t510 false _ ?side1 ?side2 ?side3 ?side4 A17.out).mono ?_); (case side1 => repeat (first | exact (Kd.R_reads' HO522.out).2.2 | (with_reducible refine Kd.C_alloc ?_ _) | (with_reducible refine Kd.C_drewN ?_ _) | (with_reducible refine Kd.C_drew ?_))); (case side2 => exact (Kd.R_reads' HO522.out).2.1); (case side3 => repeat (first | exact (Kd.R_reads' HO514.out).2.2 | (with_reducible refine Kd.C_alloc ?_ _) | (with_reducible refine Kd.C_drewN ?_ _) | (with_reducible refine Kd.C_drew ?_))); (case side4 => exact (Kd.R_reads' HO514.out).2.1); rintro e w' ⟨rfl, ⟨nd, rfl⟩⟩; refine ⟨_, rfl, ?_⟩))
    go_meet
    case rel => exact ⟨_, (true), (by first | rfl | (simp; done) | (simp [*]; done)), H', ⟨by first | omega | exact Nat.le_refl _⟩, ⟨by (with_reducible repeat (first | apply Kd.R_alloc | apply Kd.R_drewN | apply Kd.R_drew)); exact Kd.R_mono HO514.out (fun _ hk => hk.2)⟩, ⟨by (with_reducible repeat (first | apply Kd.R_alloc | apply Kd.R_drewN | apply Kd.R_drew)); exact Kd.R_mono HO517.out (fun _ hk => trivial)⟩, ⟨by (with_reducible repeat (first | apply Kd.R_alloc | apply Kd.R_drewN | apply Kd.R_drew)); exact Kd.R_mono HO522.out (fun _ hk => hk.2)⟩, ⟨hb_⟩⟩
  case rest =>
   clear HC9
   try clear c1
   try clear c2
   try clear p2
   try clear c3
   try clear c3b0
   try clear c4
   try clear c11
   try clear c18
   try clear c19
   try clear c19b0
   try clear c19b1
   try clear c20
   try clear c22
   obtain ⟨kq, x50_8, rfl, HA, HJ8, HO_4, HO_7, HO_8, HB⟩ := hcut
   cases kq with
   | zero => exact absurd HA.out (by simp [laws_FnExactLeastHarm.j0])
   | succ kj8 =>
    have H := HA.out
    clear HA
    simp only [laws_FnExactLeastHarm.j0] at H
    by_cases c26 : x50_8 = true
    ·subst c26
     have H1 : (some false) = some r := by rw [if_pos rfl] at H; exact H
     clear H
     have H := H1
     clear H1
     obtain rfl := Option.some.inj H
     go_wp2
     go_ret
     exact ⟨ew_, hb_⟩
    ·replace c26 := Bool.eq_false_iff.mpr c26
     subst c26
     have H1 : ((laws_toRenewalS.f kj8 l0).bind fun t524 => ((laws_eqRenewalS.f kj8 t515 t524).bind fun t527 => (if t527 = true then ((laws_markRenewalS.f kj8 t515 1).bind fun bt528 => (if bt528.1 < 0 then (laws_FnExactLeastHarm.j1 kj8 l0 t510 t511 t512 t518 true) else ((laws_eqInt64S.f kj8 t518 t510).bind fun t530 => (if t530 = true then (if t519 = t511 then (laws_FnExactLeastHarm.j1 kj8 l0 t510 t511 t512 t518 (t520 != t512)) else (laws_FnExactLeastHarm.j1 kj8 l0 t510 t511 t512 t518 true)) else (laws_FnExactLeastHarm.j1 kj8 l0 t510 t511 t512 t518 true))))) else (some false)))) = some r := by rw [if_neg (show ¬ (false = true) by decide)] at H; exact H
     clear H
     have H := H1
     clear H1
     replace H := Option.bind_eq_some_iff.mp H
     obtain ⟨t524, A270, H⟩ := H
     replace H : ((laws_eqRenewalS.f kj8 t515 t524).bind fun t527 => (if t527 = true then ((laws_markRenewalS.f kj8 t515 1).bind fun bt528 => (if bt528.1 < 0 then (laws_FnExactLeastHarm.j1 kj8 l0 t510 t511 t512 t518 true) else ((laws_eqInt64S.f kj8 t518 t510).bind fun t530 => (if t530 = true then (if t519 = t511 then (laws_FnExactLeastHarm.j1 kj8 l0 t510 t511 t512 t518 (t520 != t512)) else (laws_FnExactLeastHarm.j1 kj8 l0 t510 t511 t512 t518 true)) else (laws_FnExactLeastHarm.j1 kj8 l0 t510 t511 t512 t518 true))))) else (some false))) = some r := H
     have A27 := Aside0.mk A270
     clear A270
     replace H := Option.bind_eq_some_iff.mp H
     obtain ⟨t527, A280, H⟩ := H
     replace H : (if t527 = true then ((laws_markRenewalS.f kj8 t515 1).bind fun bt528 => (if bt528.1 < 0 then (laws_FnExactLeastHarm.j1 kj8 l0 t510 t511 t512 t518 true) else ((laws_eqInt64S.f kj8 t518 t510).bind fun t530 => (if t530 = true then (if t519 = t511 then (laws_FnExactLeastHarm.j1 kj8 l0 t510 t511 t512 t518 (t520 != t512)) else (laws_FnExactLeastHarm.j1 kj8 l0 t510 t511 t512 t518 true)) else (laws_FnExactLeastHarm.j1 kj8 l0 t510 t511 t512 t518 true))))) else (some false)) = some r := H
     have A28 := Aside0.mk A280
     clear A280
     by_cases c29 : t527 = true
     ·subst c29
      have H1 : ((laws_markRenewalS.f kj8 t515 1).bind fun bt528 => (if bt528.1 < 0 then (laws_FnExactLeastHarm.j1 kj8 l0 t510 t511 t512 t518 true) else ((laws_eqInt64S.f kj8 t518 t510).bind fun t530 => (if t530 = true then (if t519 = t511 then (laws_FnExactLeastHarm.j1 kj8 l0 t510 t511 t512 t518 (t520 != t512)) else (laws_FnExactLeastHarm.j1 kj8 l0 t510 t511 t512 t518 true)) else (laws_FnExactLeastHarm.j1 kj8 l0 t510 t511 t512 t518 true))))) = some r := by rw [if_pos rfl] at H; exact H
      clear H
      have H := H1
      clear H1
      replace H := Option.bind_eq_some_iff.mp H
      obtain ⟨⟨t528, t529⟩, A300, H⟩ := H
      replace H : (if t528 < 0 then (laws_FnExactLeastHarm.j1 kj8 l0 t510 t511 t512 t518 true) else ((laws_eqInt64S.f kj8 t518 t510).bind fun t530 => (if t530 = true then (if t519 = t511 then (laws_FnExactLeastHarm.j1 kj8 l0 t510 t511 t512 t518 (t520 != t512)) else (laws_FnExactLeastHarm.j1 kj8 l0 t510 t511 t512 t518 true)) else (laws_FnExactLeastHarm.j1 kj8 l0 t510 t511 t512 t518 true)))) = some r := H
      have A30 := Aside0.mk A300
      clear A300
      have HC31 := Aside0.mk H
      clear H
      go_upto_region 14 with (first | ((with_reducible refine gate_callee (f := 22) rfl ?_); refine goesL_ (some 53) rfl rfl Try.func22 (by kernel_rfl) rfl #[.slice A0 l0.length c0] rfl ln_ ?_; (with_reducible refine (laws_toRenewalS.calls kj8 _ _ l0 t524 _ ?side1 ?side2 A27.out).mono ?_); (case side1 => exact kc_ (Kd.C_below HR0.out HB.out)); (case side2 => exact HC0.out); rintro e w32 ⟨v525, rfl, ho0, hb⟩; refine ⟨_, rfl, ?_⟩; have n0_ := Aside0.mk (Kd.R_below (kr_ HO_4) hb); have n1_ := Aside0.mk (Kd.R_elder' (kr_ HO_7) (Kd.R_base ho0) hb); have n2_ := Aside0.mk (Kd.R_below (kr_ HO_8) hb); have n3_ := Aside0.mk (Kd.R_lower (Kd.R_new' ho0 (Kd.R_lt (kr_ HO_7))) (below_size hb_)); have n4_ := Aside0.mk (below_step hb_ hb); clear HO_4; clear HO_7; clear HO_8; clear HB; have HO_4 := n0_; have HO_7 := n1_; have HO_8 := n2_; have HO526 := n3_; have HB := n4_; clear n0_ n1_ n2_ n3_ n4_; (try clear hb); (try clear hb2); (try clear hk); (try clear hi); (try clear ho0); obtain ⟨Ao33, co33, eo33⟩ := Kd.R_slice HO526.out; subst eo33) | ((with_reducible refine gate_callee (f := 24) rfl ?_); refine goesL_ (some 54) rfl rfl Try.func24 (by kernel_rfl) rfl #[.slice Ao15 t515.length co15, .slice Ao33 t524.length co33] rfl ln_ ?_; (with_reducible refine (laws_eqRenewalS.calls kj8 _ _ t515 _ _ t524 true _ ?side1 ?side2 ?side3 ?side4 A28.out).mono ?_); (case side1 => repeat (first | exact (Kd.R_reads' HO_7.out).2.2 | (with_reducible refine Kd.C_alloc ?_ _) | (with_reducible refine Kd.C_drewN ?_ _) | (with_reducible refine Kd.C_drew ?_))); (case side2 => exact (Kd.R_reads' HO_7.out).2.1); (case side3 => repeat (first | exact (Kd.R_reads' HO526.out).2.2 | (with_reducible refine Kd.C_alloc ?_ _) | (with_reducible refine Kd.C_drewN ?_ _) | (with_reducible refine Kd.C_drew ?_))); (case side4 => exact (Kd.R_reads' HO526.out).2.1); rintro e w34 ⟨rfl, hb⟩; refine ⟨_, rfl, ?_⟩; have n0_ := Aside0.mk (Kd.R_below (kr_ HO_4) hb); have n1_ := Aside0.mk (Kd.R_below (kr_ HO_7) hb); have n2_ := Aside0.mk (Kd.R_below (kr_ HO_8) hb); have n3_ := Aside0.mk (Kd.R_below (kr_ HO526) hb); have n4_ := Aside0.mk (below_step hb_ hb); clear HO_4; clear HO_7; clear HO_8; clear HO526; clear HB; have HO_4 := n0_; have HO_7 := n1_; have HO_8 := n2_; have HO526 := n3_; have HB := n4_; clear n0_ n1_ n2_ n3_ n4_; (try clear hb); (try clear hb2); (try clear hk); (try clear hi)) | ((with_reducible refine gate_callee (f := 33) rfl ?_); refine goesL_ (some 58) rfl rfl Try.func33 (by kernel_rfl) rfl #[.slice Ao15 t515.length co15, .int .i64 1] rfl ln_ ?_; (with_reducible refine (laws_markRenewalS.calls kj8 (fun k_ => some k_ = (.slice Ao15 t515.length co15 : Value).ownBlock) (.slice Ao15 t515.length co15) t515 1 t528 t529 w _ ?side1 ?side2 A30.out).mono ?_); (case side1 => repeat (first | (with_reducible first | exact HB.out | apply below_alloc | apply pw_below_drewN | apply below_drew1) | exact HB.out)); (case side2 => exact Kd.R_tight rfl HO_7.out); rintro e w35 ⟨rfl, hy0, hb, hkp⟩; refine ⟨_, rfl, ?_⟩; have n0_ := Aside0.mk (Kd.R_mono (ok' := fun k_ => some k_ ≠ (v521 : Value).ownBlock) (Kd.R_keptB ((Kd.R_apart' HO_4.out (Kd.R_typed HO_7.out) (by decide))) hkp (fun k_ hk_ hs_ => (hk_.2) hs_)) (fun k_ hk_ => hk_.1.1)); have n1_ := Aside0.mk (Kd.R_reok rfl hy0 (fun k_ e_ => HO_7.out.1 k_ e_)); have n2_ := Aside0.mk (Kd.R_mono (ok' := fun k_ => some k_ ≠ (v513 : Value).ownBlock) (Kd.R_keptB ((Kd.R_apart' HO_8.out (Kd.R_typed HO_7.out) (by decide))) hkp (fun k_ hk_ hs_ => (hk_.2) hs_)) (fun k_ hk_ => hk_.1.1)); have n3_ := Aside0.mk (Kd.R_mono (ok' := fun k_ => some k_ ≠ (.slice Ao15 t515.length co15 : Value).ownBlock) (Kd.R_keptB (HO526.out) hkp (fun k_ hk_ hs_ => (hk_.2) hs_)) (fun k_ hk_ => hk_.1.2)); have n4_ := Aside0.mk (hb); clear HO_4; clear HO_7; clear HO_8; clear HO526; clear HB; have HO_4 := n0_; have HO_7 := n1_; have HO_8 := n2_; have HO526 := n3_; have HB := n4_; clear n0_ n1_ n2_ n3_ n4_; (try clear hb); (try clear hkp); (try clear hy0)))
      (try simp only [Act.put, List.setIfInBounds_toArray, List.set_cons_zero, List.set_cons_succ])
      go_cut [76] (fun v76 wc => ∃ (kq : Nat) (x76_30 : Bool), v76 = .bool x76_30 ∧ Aside0 (laws_FnExactLeastHarm.j1 kq l0 t510 t511 t512 t518 x76_30 = some r) ∧ Aside0 (kq ≤ kj8) ∧ Aside0 (Kd.R (Kd.int .i64) 2 wc w.heap.size (fun k_ => some k_ ≠ (v521 : Value).ownBlock) v513 t510) ∧ Aside0 (Kd.R (Kd.int .i64) 2 wc w.heap.size (fun k_ => some k_ ≠ (v513 : Value).ownBlock) v521 t518) ∧ Aside0 (Below w.heap.size w wc))
      case first =>
       have H := HC31.out
       clear HC31
       by_cases c36 : t528 < 0
       ·rw [if_pos c36] at H
        have c36b0 : decide (t528 < 0) = true := decide_eq_true c36
        clear c36
        (first | rw [c36b0] | (simp only [i64_w, i32_w]; rw [c36b0]) | skip)
        have H' := Aside0.mk H
        clear H
        go_wp2
        go_meet
        case rel => exact ⟨_, (true), (by first | rfl | (simp; done) | (simp [*]; done)), H', ⟨by have := HJ8.out; first | omega | exact Nat.le_refl _⟩, ⟨by (with_reducible repeat (first | apply Kd.R_alloc | apply Kd.R_drewN | apply Kd.R_drew)); exact HO_4.out⟩, ⟨by (with_reducible repeat (first | apply Kd.R_alloc | apply Kd.R_drewN | apply Kd.R_drew)); exact HO_8.out⟩, ⟨hb_⟩⟩
       ·rw [if_neg c36] at H
        have c36b0 : decide (t528 < 0) = false := decide_eq_false c36
        clear c36
        (first | rw [c36b0] | (simp only [i64_w, i32_w]; rw [c36b0]) | skip)
        replace H := Option.bind_eq_some_iff.mp H
        obtain ⟨t530, A370, H⟩ := H
        replace H : (if t530 = true then (if t519 = t511 then (laws_FnExactLeastHarm.j1 kj8 l0 t510 t511 t512 t518 (t520 != t512)) else (laws_FnExactLeastHarm.j1 kj8 l0 t510 t511 t512 t518 true)) else (laws_FnExactLeastHarm.j1 kj8 l0 t510 t511 t512 t518 true)) = some r := H
        have A37 := Aside0.mk A370
        clear A370
        by_cases c38 : t530 = true
        ·subst c38
         have H1 : (if t519 = t511 then (laws_FnExactLeastHarm.j1 kj8 l0 t510 t511 t512 t518 (t520 != t512)) else (laws_FnExactLeastHarm.j1 kj8 l0 t510 t511 t512 t518 true)) = some r := by rw [if_pos rfl] at H; exact H
         clear H
         have H := H1
         clear H1
         by_cases c39 : t519 = t511
         ·rw [if_pos c39] at H
          have c39b0 : (t519 == t511) = true := beq_iff_eq.mpr c39
          have c39b1 : (t519 != t511) = false := bne_eq_false_iff_eq.mpr c39
          clear c39
          have H' := Aside0.mk H
          clear H
          obtain ⟨Ao40, co40, eo40⟩ := Kd.R_slice HO_8.out
          subst eo40
          obtain ⟨Ao41, co41, eo41⟩ := Kd.R_slice HO_4.out
          subst eo41
          go_wp2_with (first | (go_at_call 30; (with_reducible refine (laws_eqInt64S.calls kj8 _ _ t518 _ _ t510 true _ ?side1 ?side2 ?side3 ?side4 A37.out).mono ?_); (case side1 => repeat (first | exact (Kd.R_reads' HO_8.out).2.2 | (with_reducible refine Kd.C_alloc ?_ _) | (with_reducible refine Kd.C_drewN ?_ _) | (with_reducible refine Kd.C_drew ?_))); (case side2 => exact (Kd.R_reads' HO_8.out).2.1); (case side3 => repeat (first | exact (Kd.R_reads' HO_4.out).2.2 | (with_reducible refine Kd.C_alloc ?_ _) | (with_reducible refine Kd.C_drewN ?_ _) | (with_reducible refine Kd.C_drew ?_))); (case side4 => exact (Kd.R_reads' HO_4.out).2.1); rintro e w' ⟨rfl, ⟨nd, rfl⟩⟩))
          go_meet
          case rel => exact ⟨_, ((t520 != t512)), (by first | rfl | (simp; done) | (simp [*]; done)), H', ⟨by have := HJ8.out; first | omega | exact Nat.le_refl _⟩, ⟨by (with_reducible repeat (first | apply Kd.R_alloc | apply Kd.R_drewN | apply Kd.R_drew)); exact HO_4.out⟩, ⟨by (with_reducible repeat (first | apply Kd.R_alloc | apply Kd.R_drewN | apply Kd.R_drew)); exact HO_8.out⟩, ⟨hb_⟩⟩
         ·rw [if_neg c39] at H
          have c39b0 : (t519 == t511) = false := beq_eq_false_iff_ne.mpr c39
          have c39b1 : (t519 != t511) = true := bne_iff_ne.mpr c39
          have H' := Aside0.mk H
          clear H
          obtain ⟨Ao42, co42, eo42⟩ := Kd.R_slice HO_8.out
          subst eo42
          obtain ⟨Ao43, co43, eo43⟩ := Kd.R_slice HO_4.out
          subst eo43
          go_wp2_with (first | (go_at_call 30; (with_reducible refine (laws_eqInt64S.calls kj8 _ _ t518 _ _ t510 true _ ?side1 ?side2 ?side3 ?side4 A37.out).mono ?_); (case side1 => repeat (first | exact (Kd.R_reads' HO_8.out).2.2 | (with_reducible refine Kd.C_alloc ?_ _) | (with_reducible refine Kd.C_drewN ?_ _) | (with_reducible refine Kd.C_drew ?_))); (case side2 => exact (Kd.R_reads' HO_8.out).2.1); (case side3 => repeat (first | exact (Kd.R_reads' HO_4.out).2.2 | (with_reducible refine Kd.C_alloc ?_ _) | (with_reducible refine Kd.C_drewN ?_ _) | (with_reducible refine Kd.C_drew ?_))); (case side4 => exact (Kd.R_reads' HO_4.out).2.1); rintro e w' ⟨rfl, ⟨nd, rfl⟩⟩))
          go_meet
          case rel => exact ⟨_, (true), (by first | rfl | (simp; done) | (simp [*]; done)), H', ⟨by have := HJ8.out; first | omega | exact Nat.le_refl _⟩, ⟨by (with_reducible repeat (first | apply Kd.R_alloc | apply Kd.R_drewN | apply Kd.R_drew)); exact HO_4.out⟩, ⟨by (with_reducible repeat (first | apply Kd.R_alloc | apply Kd.R_drewN | apply Kd.R_drew)); exact HO_8.out⟩, ⟨hb_⟩⟩
        ·replace c38 := Bool.eq_false_iff.mpr c38
         subst c38
         have H1 : (laws_FnExactLeastHarm.j1 kj8 l0 t510 t511 t512 t518 true) = some r := by rw [if_neg (show ¬ (false = true) by decide)] at H; exact H
         clear H
         have H := H1
         clear H1
         have H' := Aside0.mk H
         clear H
         obtain ⟨Ao44, co44, eo44⟩ := Kd.R_slice HO_8.out
         subst eo44
         obtain ⟨Ao45, co45, eo45⟩ := Kd.R_slice HO_4.out
         subst eo45
         go_wp2_with (first | (go_at_call 30; (with_reducible refine (laws_eqInt64S.calls kj8 _ _ t518 _ _ t510 false _ ?side1 ?side2 ?side3 ?side4 A37.out).mono ?_); (case side1 => repeat (first | exact (Kd.R_reads' HO_8.out).2.2 | (with_reducible refine Kd.C_alloc ?_ _) | (with_reducible refine Kd.C_drewN ?_ _) | (with_reducible refine Kd.C_drew ?_))); (case side2 => exact (Kd.R_reads' HO_8.out).2.1); (case side3 => repeat (first | exact (Kd.R_reads' HO_4.out).2.2 | (with_reducible refine Kd.C_alloc ?_ _) | (with_reducible refine Kd.C_drewN ?_ _) | (with_reducible refine Kd.C_drew ?_))); (case side4 => exact (Kd.R_reads' HO_4.out).2.1); rintro e w' ⟨rfl, ⟨nd, rfl⟩⟩))
         go_meet
         case rel => exact ⟨_, (true), (by first | rfl | (simp; done) | (simp [*]; done)), H', ⟨by have := HJ8.out; first | omega | exact Nat.le_refl _⟩, ⟨by (with_reducible repeat (first | apply Kd.R_alloc | apply Kd.R_drewN | apply Kd.R_drew)); exact HO_4.out⟩, ⟨by (with_reducible repeat (first | apply Kd.R_alloc | apply Kd.R_drewN | apply Kd.R_drew)); exact HO_8.out⟩, ⟨hb_⟩⟩
      case rest =>
       clear HC31
       try clear c1
       try clear c2
       try clear p2
       try clear c3
       try clear c3b0
       try clear c4
       try clear c11
       try clear c18
       try clear c19
       try clear c19b0
       try clear c19b1
       try clear c20
       try clear c22
       try clear c24
       try clear c26
       try clear c29
       try clear c30
       try clear c33
       try clear c36
       try clear c36b0
       try clear c38
       try clear c39
       try clear c39b0
       try clear c39b1
       try clear c42
       try clear c43
       try clear p2
       obtain ⟨kq, x76_30, rfl, HA, HJ30, HO_4, HO_8, HB⟩ := hcut
       cases kq with
       | zero => exact absurd HA.out (by simp [laws_FnExactLeastHarm.j1])
       | succ kj30 =>
        have H := HA.out
        clear HA
        simp only [laws_FnExactLeastHarm.j1] at H
        by_cases c46 : x76_30 = true
        ·subst c46
         have H1 : (some false) = some r := by rw [if_pos rfl] at H; exact H
         clear H
         have H := H1
         clear H1
         obtain rfl := Option.some.inj H
         go_wp2
         go_ret
         exact ⟨ew_, hb_⟩
        ·replace c46 := Bool.eq_false_iff.mpr c46
         subst c46
         have H1 : ((laws_markInt64S.f kj30 t518 1).bind fun bt531 => ((laws_heldInt64S.f kj30 bt531.2 1).bind fun t533 => (if t533 < 0 then (some false) else (if t533 = bt531.1 then ((laws_toRenewalS.f kj30 l0).bind fun t534 => ((impl_LeastHarm.f kj30 t534).bind fun bt537 => ((laws_eqInt64S.f kj30 bt537.1 t510).bind fun t542 => (if t542 = true then (if bt537.2.1 = t511 then (laws_FnExactLeastHarm.j2 kj30 bt531.2 bt531.1 (bt537.2.2 != t512)) else (laws_FnExactLeastHarm.j2 kj30 bt531.2 bt531.1 true)) else (laws_FnExactLeastHarm.j2 kj30 bt531.2 bt531.1 true))))) else (some false))))) = some r := by rw [if_neg (show ¬ (false = true) by decide)] at H; exact H
         clear H
         have H := H1
         clear H1
         replace H := Option.bind_eq_some_iff.mp H
         obtain ⟨⟨t531, t532⟩, A470, H⟩ := H
         replace H : ((laws_heldInt64S.f kj30 t532 1).bind fun t533 => (if t533 < 0 then (some false) else (if t533 = t531 then ((laws_toRenewalS.f kj30 l0).bind fun t534 => ((impl_LeastHarm.f kj30 t534).bind fun bt537 => ((laws_eqInt64S.f kj30 bt537.1 t510).bind fun t542 => (if t542 = true then (if bt537.2.1 = t511 then (laws_FnExactLeastHarm.j2 kj30 t532 t531 (bt537.2.2 != t512)) else (laws_FnExactLeastHarm.j2 kj30 t532 t531 true)) else (laws_FnExactLeastHarm.j2 kj30 t532 t531 true))))) else (some false)))) = some r := H
         have A47 := Aside0.mk A470
         clear A470
         replace H := Option.bind_eq_some_iff.mp H
         obtain ⟨t533, A480, H⟩ := H
         replace H : (if t533 < 0 then (some false) else (if t533 = t531 then ((laws_toRenewalS.f kj30 l0).bind fun t534 => ((impl_LeastHarm.f kj30 t534).bind fun bt537 => ((laws_eqInt64S.f kj30 bt537.1 t510).bind fun t542 => (if t542 = true then (if bt537.2.1 = t511 then (laws_FnExactLeastHarm.j2 kj30 t532 t531 (bt537.2.2 != t512)) else (laws_FnExactLeastHarm.j2 kj30 t532 t531 true)) else (laws_FnExactLeastHarm.j2 kj30 t532 t531 true))))) else (some false))) = some r := H
         have A48 := Aside0.mk A480
         clear A480
         by_cases c49 : t533 < 0
         ·rw [if_pos c49] at H
          have c49b0 : decide (t533 < 0) = true := decide_eq_true c49
          clear c49
          obtain rfl := Option.some.inj H
          obtain ⟨Ao50, co50, eo50⟩ := Kd.R_slice HO_8.out
          subst eo50
          go_wp2_with (first | ((with_reducible refine gate_callee (f := 34) rfl ?_); refine goesL_ (some 79) rfl rfl Try.func34 (by kernel_rfl) rfl #[.slice Ao50 t518.length co50, .int .i64 1] rfl ln_ ?_; (with_reducible refine (laws_markInt64S.calls kj30 (fun k_ => some k_ = (.slice Ao50 t518.length co50 : Value).ownBlock) (.slice Ao50 t518.length co50) t518 1 t531 t532 w _ ?side1 ?side2 A47.out).mono ?_); (case side1 => repeat (first | (with_reducible first | exact HB.out | apply below_alloc | apply pw_below_drewN | apply below_drew1) | exact HB.out)); (case side2 => exact Kd.R_tight rfl HO_8.out); rintro e w51 ⟨rfl, hy0, hb, hkp⟩; refine ⟨_, rfl, ?_⟩; have n0_ := Aside0.mk (Kd.R_mono (ok' := fun k_ => some k_ ≠ (.slice Ao50 t518.length co50 : Value).ownBlock) (Kd.R_keptB (HO_4.out) hkp (fun k_ hk_ hs_ => (hk_) hs_)) (fun k_ hk_ => hk_.1)); have n1_ := Aside0.mk (Kd.R_reok rfl hy0 (fun k_ e_ => HO_8.out.1 k_ e_)); have n2_ := Aside0.mk (hb); clear HO_4; clear HO_8; clear HB; have HO_4 := n0_; have HO_8 := n1_; have HB := n2_; clear n0_ n1_ n2_; (try clear hb); (try clear hkp); (try clear hy0)) | ((with_reducible refine gate_callee (f := 35) rfl ?_); refine goesL_ (some 82) rfl rfl Try.func35 (by kernel_rfl) rfl #[.slice Ao50 t532.length co50, .int .i64 1] rfl (by (try simp only [List.map_toArray, List.map_cons, List.map_nil]); first | done | (rw [show t532.length = t518.length from (Kd.R_reads' HO_8.out).1.symm] <;> rfl) | rfl | (simp only [List.length_drop, List.length_take]; rfl)) ?_; (with_reducible refine (laws_heldInt64S.calls kj30 _ _ t532 1 t533 _ ?side1 ?side2 A48.out).mono ?_); (case side1 => repeat (first | exact (Kd.R_reads' HO_8.out).2.2 | (with_reducible refine Kd.C_alloc ?_ _) | (with_reducible refine Kd.C_drewN ?_ _) | (with_reducible refine Kd.C_drew ?_))); (case side2 => rw [show t532.length = t518.length from (Kd.R_reads' HO_8.out).1.symm]; exact (Kd.R_reads' HO_8.out).2.1); rintro e w' ⟨rfl, ⟨nd, rfl⟩⟩; refine ⟨_, rfl, ?_⟩))
          go_ret
          exact ⟨ew_, hb_⟩
         ·rw [if_neg c49] at H
          have c49b0 : decide (t533 < 0) = false := decide_eq_false c49
          clear c49
          by_cases c52 : t533 = t531
          ·rw [if_pos c52] at H
           have c52b0 : (t533 == t531) = true := beq_iff_eq.mpr c52
           have c52b1 : (t533 != t531) = false := bne_eq_false_iff_eq.mpr c52
           clear c52
           replace H := Option.bind_eq_some_iff.mp H
           obtain ⟨t534, A530, H⟩ := H
           replace H : ((impl_LeastHarm.f kj30 t534).bind fun bt537 => ((laws_eqInt64S.f kj30 bt537.1 t510).bind fun t542 => (if t542 = true then (if bt537.2.1 = t511 then (laws_FnExactLeastHarm.j2 kj30 t532 t531 (bt537.2.2 != t512)) else (laws_FnExactLeastHarm.j2 kj30 t532 t531 true)) else (laws_FnExactLeastHarm.j2 kj30 t532 t531 true)))) = some r := H
           have A53 := Aside0.mk A530
           clear A530
           replace H := Option.bind_eq_some_iff.mp H
           obtain ⟨⟨t537, t538, t539⟩, A540, H⟩ := H
           replace H : ((laws_eqInt64S.f kj30 t537 t510).bind fun t542 => (if t542 = true then (if t538 = t511 then (laws_FnExactLeastHarm.j2 kj30 t532 t531 (t539 != t512)) else (laws_FnExactLeastHarm.j2 kj30 t532 t531 true)) else (laws_FnExactLeastHarm.j2 kj30 t532 t531 true))) = some r := H
           have A54 := Aside0.mk A540
           clear A540
           have HC55 := Aside0.mk H
           clear H
           obtain ⟨Ao56, co56, eo56⟩ := Kd.R_slice HO_8.out
           subst eo56
           go_upto_region 25 with (first | ((with_reducible refine gate_callee (f := 34) rfl ?_); refine goesL_ (some 79) rfl rfl Try.func34 (by kernel_rfl) rfl #[.slice Ao56 t518.length co56, .int .i64 1] rfl ln_ ?_; (with_reducible refine (laws_markInt64S.calls kj30 (fun k_ => some k_ = (.slice Ao56 t518.length co56 : Value).ownBlock) (.slice Ao56 t518.length co56) t518 1 t531 t532 w _ ?side1 ?side2 A47.out).mono ?_); (case side1 => repeat (first | (with_reducible first | exact HB.out | apply below_alloc | apply pw_below_drewN | apply below_drew1) | exact HB.out)); (case side2 => exact Kd.R_tight rfl HO_8.out); rintro e w57 ⟨rfl, hy0, hb, hkp⟩; refine ⟨_, rfl, ?_⟩; have n0_ := Aside0.mk (Kd.R_mono (ok' := fun k_ => some k_ ≠ (.slice Ao56 t518.length co56 : Value).ownBlock) (Kd.R_keptB (HO_4.out) hkp (fun k_ hk_ hs_ => (hk_) hs_)) (fun k_ hk_ => hk_.1)); have n1_ := Aside0.mk (Kd.R_reok rfl hy0 (fun k_ e_ => HO_8.out.1 k_ e_)); have n2_ := Aside0.mk (hb); clear HO_4; clear HO_8; clear HB; have HO_4 := n0_; have HO_8 := n1_; have HB := n2_; clear n0_ n1_ n2_; (try clear hb); (try clear hkp); (try clear hy0)) | ((with_reducible refine gate_callee (f := 35) rfl ?_); refine goesL_ (some 82) rfl rfl Try.func35 (by kernel_rfl) rfl #[.slice Ao56 t532.length co56, .int .i64 1] rfl (by (try simp only [List.map_toArray, List.map_cons, List.map_nil]); first | done | (rw [show t532.length = t518.length from (Kd.R_reads' HO_8.out).1.symm] <;> rfl) | rfl | (simp only [List.length_drop, List.length_take]; rfl)) ?_; (with_reducible refine (laws_heldInt64S.calls kj30 _ _ t532 1 t533 _ ?side1 ?side2 A48.out).mono ?_); (case side1 => repeat (first | exact (Kd.R_reads' HO_8.out).2.2 | (with_reducible refine Kd.C_alloc ?_ _) | (with_reducible refine Kd.C_drewN ?_ _) | (with_reducible refine Kd.C_drew ?_))); (case side2 => rw [show t532.length = t518.length from (Kd.R_reads' HO_8.out).1.symm]; exact (Kd.R_reads' HO_8.out).2.1); rintro e w' ⟨rfl, ⟨nd, rfl⟩⟩; refine ⟨_, rfl, ?_⟩) | ((with_reducible refine gate_callee (f := 22) rfl ?_); refine goesL_ (some 90) rfl rfl Try.func22 (by kernel_rfl) rfl #[.slice A0 l0.length c0] rfl ln_ ?_; (with_reducible refine (laws_toRenewalS.calls kj30 _ _ l0 t534 _ ?side1 ?side2 A53.out).mono ?_); (case side1 => exact kc_ (Kd.C_below HR0.out hb_)); (case side2 => exact HC0.out); rintro e w58 ⟨v535, rfl, ho0, hb⟩; refine ⟨_, rfl, ?_⟩; have n0_ := Aside0.mk (Kd.R_below (kr_ HO_4) hb); have n1_ := Aside0.mk (Kd.R_below (kr_ HO_8) hb); have n2_ := Aside0.mk (Kd.R_lower ho0 (below_size hb_)); have n3_ := Aside0.mk (below_step hb_ hb); clear HO_4; clear HO_8; clear HB; have HO_4 := n0_; have HO_8 := n1_; have HO536 := n2_; have HB := n3_; clear n0_ n1_ n2_ n3_; (try clear hb); (try clear hb2); (try clear hk); (try clear hi); (try clear ho0); obtain ⟨Ao59, co59, eo59⟩ := Kd.R_slice HO536.out; subst eo59) | ((with_reducible refine gate_callee (f := 43) rfl ?_); refine goesL_ (some 91) rfl rfl Try.func43 (by kernel_rfl) rfl #[.slice Ao59 t534.length co59] rfl ln_ ?_; (with_reducible refine (impl_LeastHarm.calls kj30 _ _ t534 t537 t538 t539 _ ?side1 ?side2 A54.out).mono ?_); (case side1 => repeat (first | exact (Kd.R_reads' HO536.out).2.2 | (with_reducible refine Kd.C_alloc ?_ _) | (with_reducible refine Kd.C_drewN ?_ _) | (with_reducible refine Kd.C_drew ?_))); (case side2 => exact (Kd.R_reads' HO536.out).2.1); rintro e w60 ⟨v540, rfl, ho0, hb⟩; refine ⟨_, rfl, ?_⟩; have n0_ := Aside0.mk (Kd.R_elder' (kr_ HO_4) (Kd.R_base ho0) hb); have n1_ := Aside0.mk (Kd.R_elder' (kr_ HO_8) (Kd.R_base ho0) hb); have n2_ := Aside0.mk (Kd.R_below (kr_ HO536) hb); have n3_ := Aside0.mk (Kd.R_lower (Kd.R_new' (Kd.R_new' ho0 (Kd.R_lt (kr_ HO_4))) (Kd.R_lt (kr_ HO_8))) (below_size hb_)); have n4_ := Aside0.mk (below_step hb_ hb); clear HO_4; clear HO_8; clear HO536; clear HB; have HO_4 := n0_; have HO_8 := n1_; have HO536 := n2_; have HO541 := n3_; have HB := n4_; clear n0_ n1_ n2_ n3_ n4_; (try clear hb); (try clear hb2); (try clear hk); (try clear hi); (try clear ho0)))
           (try simp only [Act.put, List.setIfInBounds_toArray, List.set_cons_zero, List.set_cons_succ])
           go_cut [108] (fun v108 wc => ∃ (kq : Nat) (x108_54 : Bool), v108 = .bool x108_54 ∧ Aside0 (laws_FnExactLeastHarm.j2 kq t532 t531 x108_54 = some r) ∧ Aside0 (kq ≤ kj30) ∧ Aside0 (Kd.R (Kd.int .i64) 2 wc w.heap.size (fun _ => True) (.slice Ao56 t518.length co56) t532) ∧ Aside0 (Below w.heap.size w wc))
           case first =>
            have H := HC55.out
            clear HC55
            replace H := Option.bind_eq_some_iff.mp H
            obtain ⟨t542, A610, H⟩ := H
            replace H : (if t542 = true then (if t538 = t511 then (laws_FnExactLeastHarm.j2 kj30 t532 t531 (t539 != t512)) else (laws_FnExactLeastHarm.j2 kj30 t532 t531 true)) else (laws_FnExactLeastHarm.j2 kj30 t532 t531 true)) = some r := H
            have A61 := Aside0.mk A610
            clear A610
            by_cases c62 : t542 = true
            ·subst c62
             have H1 : (if t538 = t511 then (laws_FnExactLeastHarm.j2 kj30 t532 t531 (t539 != t512)) else (laws_FnExactLeastHarm.j2 kj30 t532 t531 true)) = some r := by rw [if_pos rfl] at H; exact H
             clear H
             have H := H1
             clear H1
             by_cases c63 : t538 = t511
             ·rw [if_pos c63] at H
              have c63b0 : (t538 == t511) = true := beq_iff_eq.mpr c63
              have c63b1 : (t538 != t511) = false := bne_eq_false_iff_eq.mpr c63
              clear c63
              (first | rw [c63b0] | (simp only [i64_w, i32_w]; rw [c63b0]) | skip)
              have H' := Aside0.mk H
              clear H
              obtain ⟨Ao64, co64, eo64⟩ := Kd.R_slice HO541.out
              subst eo64
              obtain ⟨Ao65, co65, eo65⟩ := Kd.R_slice HO_4.out
              subst eo65
              go_wp2_with (first | ((with_reducible refine gate_callee (f := 30) rfl ?_); refine goesL_ (some 97) rfl rfl Try.func30 (by kernel_rfl) rfl #[.slice Ao64 t537.length co64, .slice Ao65 t510.length co65] rfl ln_ ?_; (with_reducible refine (laws_eqInt64S.calls kj30 _ _ t537 _ _ t510 true _ ?side1 ?side2 ?side3 ?side4 A61.out).mono ?_); (case side1 => repeat (first | exact (Kd.R_reads' HO541.out).2.2 | (with_reducible refine Kd.C_alloc ?_ _) | (with_reducible refine Kd.C_drewN ?_ _) | (with_reducible refine Kd.C_drew ?_))); (case side2 => exact (Kd.R_reads' HO541.out).2.1); (case side3 => repeat (first | exact (Kd.R_reads' HO_4.out).2.2 | (with_reducible refine Kd.C_alloc ?_ _) | (with_reducible refine Kd.C_drewN ?_ _) | (with_reducible refine Kd.C_drew ?_))); (case side4 => exact (Kd.R_reads' HO_4.out).2.1); rintro e w' ⟨rfl, ⟨nd, rfl⟩⟩; refine ⟨_, rfl, ?_⟩))
              go_meet
              case rel => exact ⟨_, ((t539 != t512)), (by first | rfl | (simp; done) | (simp [*]; done)), H', ⟨by have := HJ8.out; have := HJ30.out; first | omega | exact Nat.le_refl _⟩, ⟨by (with_reducible repeat (first | apply Kd.R_alloc | apply Kd.R_drewN | apply Kd.R_drew)); exact Kd.R_mono HO_8.out (fun _ hk => trivial)⟩, ⟨hb_⟩⟩
             ·rw [if_neg c63] at H
              have c63b0 : (t538 == t511) = false := beq_eq_false_iff_ne.mpr c63
              have c63b1 : (t538 != t511) = true := bne_iff_ne.mpr c63
              (first | rw [c63b0] | (simp only [i64_w, i32_w]; rw [c63b0]) | skip)
              have H' := Aside0.mk H
              clear H
              obtain ⟨Ao66, co66, eo66⟩ := Kd.R_slice HO541.out
              subst eo66
              obtain ⟨Ao67, co67, eo67⟩ := Kd.R_slice HO_4.out
              subst eo67
              go_wp2_with (first | ((with_reducible refine gate_callee (f := 30) rfl ?_); refine goesL_ (some 97) rfl rfl Try.func30 (by kernel_rfl) rfl #[.slice Ao66 t537.length co66, .slice Ao67 t510.length co67] rfl ln_ ?_; (with_reducible refine (laws_eqInt64S.calls kj30 _ _ t537 _ _ t510 true _ ?side1 ?side2 ?side3 ?side4 A61.out).mono ?_); (case side1 => repeat (first | exact (Kd.R_reads' HO541.out).2.2 | (with_reducible refine Kd.C_alloc ?_ _) | (with_reducible refine Kd.C_drewN ?_ _) | (with_reducible refine Kd.C_drew ?_))); (case side2 => exact (Kd.R_reads' HO541.out).2.1); (case side3 => repeat (first | exact (Kd.R_reads' HO_4.out).2.2 | (with_reducible refine Kd.C_alloc ?_ _) | (with_reducible refine Kd.C_drewN ?_ _) | (with_reducible refine Kd.C_drew ?_))); (case side4 => exact (Kd.R_reads' HO_4.out).2.1); rintro e w' ⟨rfl, ⟨nd, rfl⟩⟩; refine ⟨_, rfl, ?_⟩))
              go_meet
              case rel => exact ⟨_, (true), (by first | rfl | (simp; done) | (simp [*]; done)), H', ⟨by have := HJ8.out; have := HJ30.out; first | omega | exact Nat.le_refl _⟩, ⟨by (with_reducible repeat (first | apply Kd.R_alloc | apply Kd.R_drewN | apply Kd.R_drew)); exact Kd.R_mono HO_8.out (fun _ hk => trivial)⟩, ⟨hb_⟩⟩
            ·replace c62 := Bool.eq_false_iff.mpr c62
             subst c62
             have H1 : (laws_FnExactLeastHarm.j2 kj30 t532 t531 true) = some r := by rw [if_neg (show ¬ (false = true) by decide)] at H; exact H
             clear H
             have H := H1
             clear H1
             have H' := Aside0.mk H
             clear H
             obtain ⟨Ao68, co68, eo68⟩ := Kd.R_slice HO541.out
             subst eo68
             obtain ⟨Ao69, co69, eo69⟩ := Kd.R_slice HO_4.out
             subst eo69
             go_wp2_with (first | ((with_reducible refine gate_callee (f := 30) rfl ?_); refine goesL_ (some 97) rfl rfl Try.func30 (by kernel_rfl) rfl #[.slice Ao68 t537.length co68, .slice Ao69 t510.length co69] rfl ln_ ?_; (with_reducible refine (laws_eqInt64S.calls kj30 _ _ t537 _ _ t510 false _ ?side1 ?side2 ?side3 ?side4 A61.out).mono ?_); (case side1 => repeat (first | exact (Kd.R_reads' HO541.out).2.2 | (with_reducible refine Kd.C_alloc ?_ _) | (with_reducible refine Kd.C_drewN ?_ _) | (with_reducible refine Kd.C_drew ?_))); (case side2 => exact (Kd.R_reads' HO541.out).2.1); (case side3 => repeat (first | exact (Kd.R_reads' HO_4.out).2.2 | (with_reducible refine Kd.C_alloc ?_ _) | (with_reducible refine Kd.C_drewN ?_ _) | (with_reducible refine Kd.C_drew ?_))); (case side4 => exact (Kd.R_reads' HO_4.out).2.1); rintro e w' ⟨rfl, ⟨nd, rfl⟩⟩; refine ⟨_, rfl, ?_⟩))
             go_meet
             case rel => exact ⟨_, (true), (by first | rfl | (simp; done) | (simp [*]; done)), H', ⟨by have := HJ8.out; have := HJ30.out; first | omega | exact Nat.le_refl _⟩, ⟨by (with_reducible repeat (first | apply Kd.R_alloc | apply Kd.R_drewN | apply Kd.R_drew)); exact Kd.R_mono HO_8.out (fun _ hk => trivial)⟩, ⟨hb_⟩⟩
           case rest =>
            clear HC55
            try clear c1
            try clear c2
            try clear p2
            try clear c3
            try clear c3b0
            try clear c4
            try clear c5
            try clear c6
            try clear c11
            try clear c18
            try clear c19
            try clear c19b0
            try clear c19b1
            try clear c20
            try clear c22
            try clear c24
            try clear c26
            try clear c29
            try clear c30
            try clear c33
            try clear c34
            try clear c35
            try clear c36
            try clear c36b0
            try clear c38
            try clear c39
            try clear c39b0
            try clear c39b1
            try clear c42
            try clear c43
            try clear c46
            try clear c49
            try clear c49b0
            try clear c52
            try clear c52b0
            try clear c52b1
            try clear c62
            try clear c63
            try clear c63b0
            try clear c63b1
            try clear p2
            obtain ⟨kq, x108_54, rfl, HA, HJ54, HO_8, HB⟩ := hcut
            have hl8_54 := (Kd.R_reads' HO_8.out).1
            rw [hl8_54] at HO_8
            (try simp only [hl8_54])
            cases kq with
            | zero => exact absurd HA.out (by simp [laws_FnExactLeastHarm.j2])
            | succ kj54 =>
             have H := HA.out
             clear HA
             simp only [laws_FnExactLeastHarm.j2] at H
             by_cases c70 : x108_54 = true
             ·subst c70
              have H1 : (some false) = some r := by rw [if_pos rfl] at H; exact H
              clear H
              have H := H1
              clear H1
              obtain rfl := Option.some.inj H
              go_wp2
              go_ret
              exact ⟨ew_, hb_⟩
             ·replace c70 := Bool.eq_false_iff.mpr c70
              subst c70
              have H1 : ((laws_heldInt64S.f kj54 t532 1).bind fun t543 => (if t543 < 0 then (some false) else (if t543 = t531 then (some true) else (some false)))) = some r := by rw [if_neg (show ¬ (false = true) by decide)] at H; exact H
              clear H
              have H := H1
              clear H1
              replace H := Option.bind_eq_some_iff.mp H
              obtain ⟨t543, A710, H⟩ := H
              replace H : (if t543 < 0 then (some false) else (if t543 = t531 then (some true) else (some false))) = some r := H
              have A71 := Aside0.mk A710
              clear A710
              by_cases c72 : t543 < 0
              ·rw [if_pos c72] at H
               have c72b0 : decide (t543 < 0) = true := decide_eq_true c72
               clear c72
               obtain rfl := Option.some.inj H
               go_wp2_with (first | ((with_reducible refine gate_callee (f := 35) rfl ?_); refine goesL_ (some 111) rfl rfl Try.func35 (by kernel_rfl) rfl #[.slice Ao56 t532.length co56, .int .i64 1] rfl ln_ ?_; (with_reducible refine (laws_heldInt64S.calls kj54 _ _ t532 1 t543 _ ?side1 ?side2 A71.out).mono ?_); (case side1 => repeat (first | exact (Kd.R_reads' HO_8.out).2.2 | (with_reducible refine Kd.C_alloc ?_ _) | (with_reducible refine Kd.C_drewN ?_ _) | (with_reducible refine Kd.C_drew ?_))); (case side2 => exact (Kd.R_reads' HO_8.out).2.1); rintro e w' ⟨rfl, ⟨nd, rfl⟩⟩; refine ⟨_, rfl, ?_⟩))
               go_ret
               exact ⟨ew_, hb_⟩
              ·rw [if_neg c72] at H
               have c72b0 : decide (t543 < 0) = false := decide_eq_false c72
               clear c72
               by_cases c73 : t543 = t531
               ·rw [if_pos c73] at H
                have c73b0 : (t543 == t531) = true := beq_iff_eq.mpr c73
                have c73b1 : (t543 != t531) = false := bne_eq_false_iff_eq.mpr c73
                clear c73
                obtain rfl := Option.some.inj H
                go_wp2_with (first | ((with_reducible refine gate_callee (f := 35) rfl ?_); refine goesL_ (some 111) rfl rfl Try.func35 (by kernel_rfl) rfl #[.slice Ao56 t532.length co56, .int .i64 1] rfl ln_ ?_; (with_reducible refine (laws_heldInt64S.calls kj54 _ _ t532 1 t543 _ ?side1 ?side2 A71.out).mono ?_); (case side1 => repeat (first | exact (Kd.R_reads' HO_8.out).2.2 | (with_reducible refine Kd.C_alloc ?_ _) | (with_reducible refine Kd.C_drewN ?_ _) | (with_reducible refine Kd.C_drew ?_))); (case side2 => exact (Kd.R_reads' HO_8.out).2.1); rintro e w' ⟨rfl, ⟨nd, rfl⟩⟩; refine ⟨_, rfl, ?_⟩))
                go_ret
                exact ⟨ew_, hb_⟩
               ·rw [if_neg c73] at H
                have c73b0 : (t543 == t531) = false := beq_eq_false_iff_ne.mpr c73
                have c73b1 : (t543 != t531) = true := bne_iff_ne.mpr c73
                obtain rfl := Option.some.inj H
                go_wp2_with (first | ((with_reducible refine gate_callee (f := 35) rfl ?_); refine goesL_ (some 111) rfl rfl Try.func35 (by kernel_rfl) rfl #[.slice Ao56 t532.length co56, .int .i64 1] rfl ln_ ?_; (with_reducible refine (laws_heldInt64S.calls kj54 _ _ t532 1 t543 _ ?side1 ?side2 A71.out).mono ?_); (case side1 => repeat (first | exact (Kd.R_reads' HO_8.out).2.2 | (with_reducible refine Kd.C_alloc ?_ _) | (with_reducible refine Kd.C_drewN ?_ _) | (with_reducible refine Kd.C_drew ?_))); (case side2 => exact (Kd.R_reads' HO_8.out).2.1); rintro e w' ⟨rfl, ⟨nd, rfl⟩⟩; refine ⟨_, rfl, ?_⟩))
                go_ret
                exact ⟨ew_, hb_⟩
          ·rw [if_neg c52] at H
           have c52b0 : (t533 == t531) = false := beq_eq_false_iff_ne.mpr c52
           have c52b1 : (t533 != t531) = true := bne_iff_ne.mpr c52
           obtain rfl := Option.some.inj H
           obtain ⟨Ao74, co74, eo74⟩ := Kd.R_slice HO_8.out
           subst eo74
           go_wp2_with (first | ((with_reducible refine gate_callee (f := 34) rfl ?_); refine goesL_ (some 79) rfl rfl Try.func34 (by kernel_rfl) rfl #[.slice Ao74 t518.length co74, .int .i64 1] rfl ln_ ?_; (with_reducible refine (laws_markInt64S.calls kj30 (fun k_ => some k_ = (.slice Ao74 t518.length co74 : Value).ownBlock) (.slice Ao74 t518.length co74) t518 1 t531 t532 w _ ?side1 ?side2 A47.out).mono ?_); (case side1 => repeat (first | (with_reducible first | exact HB.out | apply below_alloc | apply pw_below_drewN | apply below_drew1) | exact HB.out)); (case side2 => exact Kd.R_tight rfl HO_8.out); rintro e w75 ⟨rfl, hy0, hb, hkp⟩; refine ⟨_, rfl, ?_⟩; have n0_ := Aside0.mk (Kd.R_mono (ok' := fun k_ => some k_ ≠ (.slice Ao74 t518.length co74 : Value).ownBlock) (Kd.R_keptB (HO_4.out) hkp (fun k_ hk_ hs_ => (hk_) hs_)) (fun k_ hk_ => hk_.1)); have n1_ := Aside0.mk (Kd.R_reok rfl hy0 (fun k_ e_ => HO_8.out.1 k_ e_)); have n2_ := Aside0.mk (hb); clear HO_4; clear HO_8; clear HB; have HO_4 := n0_; have HO_8 := n1_; have HB := n2_; clear n0_ n1_ n2_; (try clear hb); (try clear hkp); (try clear hy0)) | ((with_reducible refine gate_callee (f := 35) rfl ?_); refine goesL_ (some 82) rfl rfl Try.func35 (by kernel_rfl) rfl #[.slice Ao74 t532.length co74, .int .i64 1] rfl (by (try simp only [List.map_toArray, List.map_cons, List.map_nil]); first | done | (rw [show t532.length = t518.length from (Kd.R_reads' HO_8.out).1.symm] <;> rfl) | rfl | (simp only [List.length_drop, List.length_take]; rfl)) ?_; (with_reducible refine (laws_heldInt64S.calls kj30 _ _ t532 1 t533 _ ?side1 ?side2 A48.out).mono ?_); (case side1 => repeat (first | exact (Kd.R_reads' HO_8.out).2.2 | (with_reducible refine Kd.C_alloc ?_ _) | (with_reducible refine Kd.C_drewN ?_ _) | (with_reducible refine Kd.C_drew ?_))); (case side2 => rw [show t532.length = t518.length from (Kd.R_reads' HO_8.out).1.symm]; exact (Kd.R_reads' HO_8.out).2.1); rintro e w' ⟨rfl, ⟨nd, rfl⟩⟩; refine ⟨_, rfl, ?_⟩))
           go_ret
           exact ⟨ew_, hb_⟩
     ·replace c29 := Bool.eq_false_iff.mpr c29
      subst c29
      have H1 : (some false) = some r := by rw [if_neg (show ¬ (false = true) by decide)] at H; exact H
      clear H
      have H := H1
      clear H1
      obtain rfl := Option.some.inj H
      go_wp2_with (first | ((with_reducible refine gate_callee (f := 22) rfl ?_); refine goesL_ (some 53) rfl rfl Try.func22 (by kernel_rfl) rfl #[.slice A0 l0.length c0] rfl ln_ ?_; (with_reducible refine (laws_toRenewalS.calls kj8 _ _ l0 t524 _ ?side1 ?side2 A27.out).mono ?_); (case side1 => exact kc_ (Kd.C_below HR0.out HB.out)); (case side2 => exact HC0.out); rintro e w76 ⟨v525, rfl, ho0, hb⟩; refine ⟨_, rfl, ?_⟩; have n0_ := Aside0.mk (Kd.R_below (kr_ HO_4) hb); have n1_ := Aside0.mk (Kd.R_elder' (kr_ HO_7) (Kd.R_base ho0) hb); have n2_ := Aside0.mk (Kd.R_below (kr_ HO_8) hb); have n3_ := Aside0.mk (Kd.R_lower (Kd.R_new' ho0 (Kd.R_lt (kr_ HO_7))) (below_size hb_)); have n4_ := Aside0.mk (below_step hb_ hb); clear HO_4; clear HO_7; clear HO_8; clear HB; have HO_4 := n0_; have HO_7 := n1_; have HO_8 := n2_; have HO526 := n3_; have HB := n4_; clear n0_ n1_ n2_ n3_ n4_; (try clear hb); (try clear hb2); (try clear hk); (try clear hi); (try clear ho0); obtain ⟨Ao77, co77, eo77⟩ := Kd.R_slice HO526.out; subst eo77) | ((with_reducible refine gate_callee (f := 24) rfl ?_); refine goesL_ (some 54) rfl rfl Try.func24 (by kernel_rfl) rfl #[.slice Ao15 t515.length co15, .slice Ao77 t524.length co77] rfl ln_ ?_; (with_reducible refine (laws_eqRenewalS.calls kj8 _ _ t515 _ _ t524 false _ ?side1 ?side2 ?side3 ?side4 A28.out).mono ?_); (case side1 => repeat (first | exact (Kd.R_reads' HO_7.out).2.2 | (with_reducible refine Kd.C_alloc ?_ _) | (with_reducible refine Kd.C_drewN ?_ _) | (with_reducible refine Kd.C_drew ?_))); (case side2 => exact (Kd.R_reads' HO_7.out).2.1); (case side3 => repeat (first | exact (Kd.R_reads' HO526.out).2.2 | (with_reducible refine Kd.C_alloc ?_ _) | (with_reducible refine Kd.C_drewN ?_ _) | (with_reducible refine Kd.C_drew ?_))); (case side4 => exact (Kd.R_reads' HO526.out).2.1); rintro e w78 ⟨rfl, hb⟩; refine ⟨_, rfl, ?_⟩; have n0_ := Aside0.mk (Kd.R_below (kr_ HO_4) hb); have n1_ := Aside0.mk (Kd.R_below (kr_ HO_7) hb); have n2_ := Aside0.mk (Kd.R_below (kr_ HO_8) hb); have n3_ := Aside0.mk (Kd.R_below (kr_ HO526) hb); have n4_ := Aside0.mk (below_step hb_ hb); clear HO_4; clear HO_7; clear HO_8; clear HO526; clear HB; have HO_4 := n0_; have HO_7 := n1_; have HO_8 := n2_; have HO526 := n3_; have HB := n4_; clear n0_ n1_ n2_ n3_ n4_; (try clear hb); (try clear hb2); (try clear hk); (try clear hi)))
      go_ret
      exact ⟨ew_, hb_⟩

end Go.Proofs.Ytkegmjebkikniaa.P
