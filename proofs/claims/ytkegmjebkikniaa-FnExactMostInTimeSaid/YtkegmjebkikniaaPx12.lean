-- Written by gprint.py (own program, over the printer of the kit) out of the translation. Lean checks it.
import Derived.Test.YtkegmjebkikniaaPx0
import Derived.Test.YtkegmjebkikniaaPx3
import Derived.Test.YtkegmjebkikniaaPx11
import Derived.Test.YtkegmjebkikniaaPx15
import Derived.Test.YtkegmjebkikniaaWPk
namespace Go.Proofs.Ytkegmjebkikniaa.P
open Go.RowKit Go.Proofs.YtkegmjebkikniaaW.PrintWords Go.Proofs.YtkegmjebkikniaaW.PrintLast Go.Proofs.YtkegmjebkikniaaW.PrintMore Go.Proofs.YtkegmjebkikniaaW.Pk
open Bool renaming true → T_, false → F_
open List renaming setIfInBounds_toArray → sT_, set_cons_zero → s0_, set_cons_succ → sS_
attribute [local go_sem] max2_int min2_int max_two min_two max_three min_three max_four min_four   -- for this text's walks alone
set_option linter.unusedVariables false
set_option linter.unusedSimpArgs false

/-! ### spec_MostInTime: function 25 -/
-- (by hand)
open Go.Proofs.YtkegmjebkikniaaW.Hand
def spec_MostInTime.f (k : Nat) (l0 : List S55) : Option (Int × Int) := (spec_l22Ok.f k l0).bind fun b => if b = true then (if l0.length ≤ 7 then ((ordersFrom l0.length l0.length []).foldlM (leafW k l0) ([], -1, 0)).bind fun st => some (st.2.2, 0) else none) else some (0, 1)
theorem spec_MostInTime.mono : ∀ a0 k, LeO (spec_MostInTime.f k a0) (spec_MostInTime.f (k + 1) a0) := by
 intro a0 k
 unfold spec_MostInTime.f
 exact LeO.bind (spec_l22Ok.mono _ _) (fun _ => LeO.ite (LeO.ite (LeO.bind (leafs_mono k a0 _ _) (fun _ => LeO.refl _)) (LeO.refl _)) (LeO.refl _))
set_option maxHeartbeats 4000000 in
theorem spec_MostInTime.calls (k : Nat) (A0 : Option Addr) (c0 : Nat) (l0 : List S55) (r1 r2 : Int) (w : World) (hr0 : Kd.C k55 w A0 l0.length l0) (hc0 : l0.length ≤ c0) (h : spec_MostInTime.f k l0 = some (r1, r2)) :
  Calls Try.prog 25 #[.slice A0 l0.length c0] w fun e w' => e = .returned (.tuple #[.int .i64 r1, .int .i64 r2]) ∧ Below w.heap.size w w' := by
 unfold spec_MostInTime.f at h
 have HR0 := Aside0.mk hr0
 have HC0 := Aside0.mk hc0
 clear hr0 hc0
 replace h := Option.bind_eq_some_iff.mp h
 obtain ⟨b, hv, h⟩ := h
 have HV := Aside0.mk hv
 clear hv
 cases b with
 | false =>
  rw [if_neg (by decide)] at h
  simp only [Option.some.injEq, Prod.mk.injEq] at h
  obtain ⟨rfl, rfl⟩ := h
  go_enter Try.func25, Try.ntmps25
  go_wp2_with (go_at_call 56; refine (spec_l22Ok.calls k A0 c0 l0 false w HR0.out HC0.out HV.out).mono ?_; rintro e w1 ⟨rfl, hb1⟩; have HB1 := Aside0.mk hb1; clear hb1)
  go_ret2
  exact ⟨rfl, HB1.out⟩
 | true =>
  rw [if_pos rfl] at h
  by_cases hn : l0.length ≤ 7
  ·rw [if_pos hn] at h
   replace h := Option.bind_eq_some_iff.mp h
   obtain ⟨st, hst, h⟩ := h
   simp only [Option.some.injEq, Prod.mk.injEq] at h
   obtain ⟨rfl, rfl⟩ := h
   have HST := Aside0.mk hst
   have HN := Aside0.mk hn
   clear hst hn
   go_enter Try.func25, Try.ntmps25
   go_wp2_with (first
    | (go_at_call 56; refine (spec_l22Ok.calls k A0 c0 l0 true w HR0.out HC0.out HV.out).mono ?_; rintro e w1 ⟨rfl, hb1⟩; have HB1 := Aside0.mk hb1; clear hb1)
    | ((with_reducible refine gate_dst (N := 10) rfl ?_); refine hand_box (fun g w2 => RInv w w2 g A0 c0 l0 (.slice none 0 0) [] (-1) 0) ?hg2 (N := 10) ?hd2 (cs := #[.slice A0 l0.length c0, .slice none 0 0, .int .i64 (-1), .int .i64 0]) (t := 75) ?hr2 ?hF2 ?_; (case hd2 => rfl); (case hg2 => rfl); (case hr2 => first | (go_simp; done) | (go_simp; rfl)); (case hF2 => exact ⟨heap_alloc_new _ _, own_nil _ _ _ _, HR0.out, HC0.out, below_then HB1.out HB1.out.size (below_alloc (Below.refl _ _) _), HB1.out.size⟩); intro g w2 hI; have HI := Aside0.mk hI; clear hI)
    | ((with_reducible refine gate_dst (N := 12) rfl ?_); refine Kd.R_lit (Kd.int .i64) w.heap.size 2 ?hg3 (w0 := w) (N := 12) ?hd3 (xs := ([] : List Int)) (inner := []) (ok := fun _ => True) (okp := fun _ => True) ?hr3 ?hp3 (fun _ hk => hk) trivial HI.out.below HI.out.below.size (by simp) ?_; (case hd3 => rfl); (case hg3 => rfl); (case hr3 => first | (go_simp; done) | (go_simp; rfl)); (case hp3 => exact (Reps.none _ _)); intro v3 w3 ho3 hb3 hg3 _; have ho4 := nums_of_R ho3; obtain ⟨A3, n3, e3⟩ := own_slice ho4; rw [e3] at ho4; rw [e3]; have HO3 := Aside0.mk ho4; have HI3 := Aside0.mk (HI.out.grown hg3); clear ho3 ho4 hb3 hg3 e3 HI)
    | (go_at_call 63; refine (walkW_calls k w g A0 c0 l0 HN.out l0.length w3 _ [] (-1) 0 st A3 n3 [] _ rfl HI3.out HO3.out (by simp) HST.out).mono ?_; rintro e w4 ⟨rfl, _, vb4, hI4⟩; obtain ⟨A4, n4, e4⟩ := own_slice hI4.brow; rw [e4] at hI4; clear e4; have d1 := hI4.c1; have d2 := hI4.c2; have d3 := hI4.c3; have HI4 := Aside0.mk hI4; clear hI4 HI3))
   go_ret2
   exact ⟨rfl, HI4.out.below⟩
  ·rw [if_neg hn] at h
   exact absurd h (by simp)


/-! ### laws_FnExactMostInTime: function 5 -/
def laws_FnExactMostInTime.j0 : Nat → List (S66) → List (S55) → Bool → Option (Bool)
 | 0, _, _, _ => none
 | k + 1, x0, x6, x34 => if x34 = true then (some false) else ((laws_toRenewalS.f k x0).bind fun t258 => ((laws_eqRenewalS.f k x6 t258).bind fun t261 => (if t261 = true then (some true) else (some false))))
def laws_FnExactMostInTime.f (k : Nat) (l0 : List (S66)) : Option (Bool) := (laws_szRenewalS.f k l0 1048576).bind fun t247 => (if t247 < 0 then (some true) else ((laws_toRenewalS.f k l0).bind fun t248 => ((spec_MostInTime.f k t248).bind fun bt251 => ((laws_toRenewalS.f k l0).bind fun t253 => ((impl_MostInTime.f k t253).bind fun bt256 => (if bt256.1 = bt251.1 then (laws_FnExactMostInTime.j0 k l0 t253 (bt256.2 != bt251.2)) else (laws_FnExactMostInTime.j0 k l0 t253 true)))))))
theorem laws_FnExactMostInTime.mono_l : ∀ k, (∀ y0 y1 y2, LeO (laws_FnExactMostInTime.j0 k y0 y1 y2) (laws_FnExactMostInTime.j0 (k + 1) y0 y1 y2))
 | 0 => fun _ _ _ r h => by simp [laws_FnExactMostInTime.j0] at h
 | k + 1 => by
  have ih0 := laws_FnExactMostInTime.mono_l k
  ·intro y0 y1 y2
   unfold laws_FnExactMostInTime.j0
   repeat' first
   | (with_reducible exact ih0 _ _ _)
   | (with_reducible exact impl_MostInTime.mono _ _)
   | (with_reducible exact laws_eqRenewalS.mono _ _ _)
   | (with_reducible exact laws_szRenewalS.mono _ _ _)
   | (with_reducible exact laws_toRenewalS.mono _ _)
   | (with_reducible exact spec_MostInTime.mono _ _)
   | (with_reducible exact LeO.refl _)
   | (with_reducible exact LeO.none _)
   | (with_reducible refine LeO.ite ?_ ?_)
   | (with_reducible refine LeO.bind ?_ (fun _ => ?_))
   | exact ih0 _ _ _
   | exact impl_MostInTime.mono _ _
   | exact laws_eqRenewalS.mono _ _ _
   | exact laws_szRenewalS.mono _ _ _
   | exact laws_toRenewalS.mono _ _
   | exact spec_MostInTime.mono _ _
   | exact LeO.none _
   | refine LeO.ite ?_ ?_
   | refine LeO.bind ?_ (fun _ => ?_)
theorem laws_FnExactMostInTime.mono : ∀ a0 k, LeO (laws_FnExactMostInTime.f k a0) (laws_FnExactMostInTime.f (k + 1) a0) := by
 intro a0 k
 have ih0 := laws_FnExactMostInTime.mono_l k
 unfold laws_FnExactMostInTime.f
 repeat' first
   | (with_reducible exact ih0 _ _ _)
   | (with_reducible exact impl_MostInTime.mono _ _)
   | (with_reducible exact laws_eqRenewalS.mono _ _ _)
   | (with_reducible exact laws_szRenewalS.mono _ _ _)
   | (with_reducible exact laws_toRenewalS.mono _ _)
   | (with_reducible exact spec_MostInTime.mono _ _)
   | (with_reducible exact LeO.refl _)
   | (with_reducible exact LeO.none _)
   | (with_reducible refine LeO.ite ?_ ?_)
   | (with_reducible refine LeO.bind ?_ (fun _ => ?_))
   | exact ih0 _ _ _
   | exact impl_MostInTime.mono _ _
   | exact laws_eqRenewalS.mono _ _ _
   | exact laws_szRenewalS.mono _ _ _
   | exact laws_toRenewalS.mono _ _
   | exact spec_MostInTime.mono _ _
   | exact LeO.none _
   | refine LeO.ite ?_ ?_
   | refine LeO.bind ?_ (fun _ => ?_)
set_option maxHeartbeats 8000000 in
set_option maxRecDepth 100000 in
theorem laws_FnExactMostInTime.calls (k : Nat) (A0 : Option Addr) (c0 : Nat) (l0 : List (S66)) (r : Bool) (w : World) (hr0 : Kd.C k66 w A0 l0.length l0) (hc0 : l0.length ≤ c0) (h : laws_FnExactMostInTime.f k l0 = some r) :
  Calls Try.prog 5 #[.slice A0 l0.length c0] w fun e w' => e = .returned (.bool r) ∧ Below w.heap.size w w' := by
 have HR0 := Aside0.mk hr0
 have HC0 := Aside0.mk hc0
 clear hr0 hc0
 have HB := Aside0.mk (Below.refl w.heap.size w)
 have H : ((laws_szRenewalS.f k l0 1048576).bind fun t247 => (if t247 < 0 then (some true) else ((laws_toRenewalS.f k l0).bind fun t248 => ((spec_MostInTime.f k t248).bind fun bt251 => ((laws_toRenewalS.f k l0).bind fun t253 => ((impl_MostInTime.f k t253).bind fun bt256 => (if bt256.1 = bt251.1 then (laws_FnExactMostInTime.j0 k l0 t253 (bt256.2 != bt251.2)) else (laws_FnExactMostInTime.j0 k l0 t253 true)))))))) = some r := h
 clear h
 replace H := Option.bind_eq_some_iff.mp H
 obtain ⟨t247, A20, H⟩ := H
 replace H : (if t247 < 0 then (some true) else ((laws_toRenewalS.f k l0).bind fun t248 => ((spec_MostInTime.f k t248).bind fun bt251 => ((laws_toRenewalS.f k l0).bind fun t253 => ((impl_MostInTime.f k t253).bind fun bt256 => (if bt256.1 = bt251.1 then (laws_FnExactMostInTime.j0 k l0 t253 (bt256.2 != bt251.2)) else (laws_FnExactMostInTime.j0 k l0 t253 true))))))) = some r := H
 have A2 := Aside0.mk A20
 clear A20
 by_cases c3 : t247 < 0
 ·rw [if_pos c3] at H
  have c3b0 : decide (t247 < 0) = true := decide_eq_true c3
  clear c3
  obtain rfl := Option.some.inj H
  go_enter Try.func5, Try.ntmps5
  go_wp2_with (first | ((with_reducible refine gate_callee (f := 20) rfl ?_); refine goesL_ (some 11) rfl rfl Try.func20 (by kernel_rfl) rfl #[.slice A0 l0.length c0, .int .i64 1048576] rfl ln_ ?_; (with_reducible refine (laws_szRenewalS.calls k _ _ l0 1048576 t247 _ ?side1 ?side2 A2.out).mono ?_); (case side1 => exact kc_ HR0.out); (case side2 => exact HC0.out); rintro e w4 ⟨rfl, hb⟩; refine ⟨_, rfl, ?_⟩; have n0_ := Aside0.mk (below_step hb_ hb); clear HB; have HB := n0_; clear n0_; (try clear hb); (try clear hb2); (try clear hk); (try clear hi)))
  go_ret
  exact ⟨ew_, hb_⟩
 ·rw [if_neg c3] at H
  have c3b0 : decide (t247 < 0) = false := decide_eq_false c3
  clear c3
  replace H := Option.bind_eq_some_iff.mp H
  obtain ⟨t248, A50, H⟩ := H
  replace H : ((spec_MostInTime.f k t248).bind fun bt251 => ((laws_toRenewalS.f k l0).bind fun t253 => ((impl_MostInTime.f k t253).bind fun bt256 => (if bt256.1 = bt251.1 then (laws_FnExactMostInTime.j0 k l0 t253 (bt256.2 != bt251.2)) else (laws_FnExactMostInTime.j0 k l0 t253 true))))) = some r := H
  have A5 := Aside0.mk A50
  clear A50
  replace H := Option.bind_eq_some_iff.mp H
  obtain ⟨⟨t251, t252⟩, A60, H⟩ := H
  replace H : ((laws_toRenewalS.f k l0).bind fun t253 => ((impl_MostInTime.f k t253).bind fun bt256 => (if bt256.1 = t251 then (laws_FnExactMostInTime.j0 k l0 t253 (bt256.2 != t252)) else (laws_FnExactMostInTime.j0 k l0 t253 true)))) = some r := H
  have A6 := Aside0.mk A60
  clear A60
  replace H := Option.bind_eq_some_iff.mp H
  obtain ⟨t253, A70, H⟩ := H
  replace H : ((impl_MostInTime.f k t253).bind fun bt256 => (if bt256.1 = t251 then (laws_FnExactMostInTime.j0 k l0 t253 (bt256.2 != t252)) else (laws_FnExactMostInTime.j0 k l0 t253 true))) = some r := H
  have A7 := Aside0.mk A70
  clear A70
  replace H := Option.bind_eq_some_iff.mp H
  obtain ⟨⟨t256, t257⟩, A80, H⟩ := H
  replace H : (if t256 = t251 then (laws_FnExactMostInTime.j0 k l0 t253 (t257 != t252)) else (laws_FnExactMostInTime.j0 k l0 t253 true)) = some r := H
  have A8 := Aside0.mk A80
  clear A80
  have HC9 := Aside0.mk H
  clear H
  go_enter Try.func5, Try.ntmps5
  go_upto_region 8 with (first | ((with_reducible refine gate_callee (f := 20) rfl ?_); refine goesL_ (some 11) rfl rfl Try.func20 (by kernel_rfl) rfl #[.slice A0 l0.length c0, .int .i64 1048576] rfl ln_ ?_; (with_reducible refine (laws_szRenewalS.calls k _ _ l0 1048576 t247 _ ?side1 ?side2 A2.out).mono ?_); (case side1 => exact kc_ HR0.out); (case side2 => exact HC0.out); rintro e w10 ⟨rfl, hb⟩; refine ⟨_, rfl, ?_⟩; have n0_ := Aside0.mk (below_step hb_ hb); clear HB; have HB := n0_; clear n0_; (try clear hb); (try clear hb2); (try clear hk); (try clear hi)) | ((with_reducible refine gate_callee (f := 22) rfl ?_); refine goesL_ (some 16) rfl rfl Try.func22 (by kernel_rfl) rfl #[.slice A0 l0.length c0] rfl ln_ ?_; (with_reducible refine (laws_toRenewalS.calls k _ _ l0 t248 _ ?side1 ?side2 A5.out).mono ?_); (case side1 => exact kc_ (Kd.C_below HR0.out HB.out)); (case side2 => exact HC0.out); rintro e w11 ⟨v249, rfl, ho0, hb⟩; refine ⟨_, rfl, ?_⟩; have n0_ := Aside0.mk (Kd.R_lower ho0 (below_size hb_)); have n1_ := Aside0.mk (below_step hb_ hb); clear HB; have HO250 := n0_; have HB := n1_; clear n0_ n1_; (try clear hb); (try clear hb2); (try clear hk); (try clear hi); (try clear ho0); obtain ⟨Ao12, co12, eo12⟩ := Kd.R_slice HO250.out; subst eo12) | ((with_reducible refine gate_callee (f := 25) rfl ?_); refine goesL_ (some 17) rfl rfl Try.func25 (by kernel_rfl) rfl #[.slice Ao12 t248.length co12] rfl ln_ ?_; (with_reducible refine (spec_MostInTime.calls k _ _ t248 t251 t252 _ ?side1 ?side2 A6.out).mono ?_); (case side1 => repeat (first | exact (Kd.R_reads' HO250.out).2.2 | (with_reducible refine Kd.C_alloc ?_ _) | (with_reducible refine Kd.C_drewN ?_ _) | (with_reducible refine Kd.C_drew ?_))); (case side2 => exact (Kd.R_reads' HO250.out).2.1); rintro e w13 ⟨rfl, hb⟩; refine ⟨_, rfl, ?_⟩; have n0_ := Aside0.mk (Kd.R_below (kr_ HO250) hb); have n1_ := Aside0.mk (below_step hb_ hb); clear HO250; clear HB; have HO250 := n0_; have HB := n1_; clear n0_ n1_; (try clear hb); (try clear hb2); (try clear hk); (try clear hi)) | ((with_reducible refine gate_callee (f := 22) rfl ?_); refine goesL_ (some 21) rfl rfl Try.func22 (by kernel_rfl) rfl #[.slice A0 l0.length c0] rfl ln_ ?_; (with_reducible refine (laws_toRenewalS.calls k _ _ l0 t253 _ ?side1 ?side2 A7.out).mono ?_); (case side1 => exact kc_ (Kd.C_below HR0.out HB.out)); (case side2 => exact HC0.out); rintro e w14 ⟨v254, rfl, ho0, hb⟩; refine ⟨_, rfl, ?_⟩; have n0_ := Aside0.mk (Kd.R_elder' (kr_ HO250) (Kd.R_base ho0) hb); have n1_ := Aside0.mk (Kd.R_lower (Kd.R_new' ho0 (Kd.R_lt (kr_ HO250))) (below_size hb_)); have n2_ := Aside0.mk (below_step hb_ hb); clear HO250; clear HB; have HO250 := n0_; have HO255 := n1_; have HB := n2_; clear n0_ n1_ n2_; (try clear hb); (try clear hb2); (try clear hk); (try clear hi); (try clear ho0); obtain ⟨Ao15, co15, eo15⟩ := Kd.R_slice HO255.out; subst eo15) | ((with_reducible refine gate_callee (f := 26) rfl ?_); refine goesL_ (some 24) rfl rfl Try.func26 (by kernel_rfl) rfl #[.slice Ao15 t253.length co15] rfl ln_ ?_; (with_reducible refine (impl_MostInTime.calls k _ _ t253 t256 t257 _ ?side1 ?side2 A8.out).mono ?_); (case side1 => repeat (first | exact (Kd.R_reads' HO255.out).2.2 | (with_reducible refine Kd.C_alloc ?_ _) | (with_reducible refine Kd.C_drewN ?_ _) | (with_reducible refine Kd.C_drew ?_))); (case side2 => exact (Kd.R_reads' HO255.out).2.1); rintro e w16 ⟨rfl, hb⟩; refine ⟨_, rfl, ?_⟩; have n0_ := Aside0.mk (Kd.R_below (kr_ HO250) hb); have n1_ := Aside0.mk (Kd.R_below (kr_ HO255) hb); have n2_ := Aside0.mk (below_step hb_ hb); clear HO250; clear HO255; clear HB; have HO250 := n0_; have HO255 := n1_; have HB := n2_; clear n0_ n1_ n2_; (try clear hb); (try clear hb2); (try clear hk); (try clear hi)))
  (try simp only [Act.put, List.setIfInBounds_toArray, List.set_cons_zero, List.set_cons_succ])
  go_cut [34] (fun v34 wc => ∃ (kq : Nat) (x34_8 : Bool), v34 = .bool x34_8 ∧ Aside0 (laws_FnExactMostInTime.j0 kq l0 t253 x34_8 = some r) ∧ Aside0 (kq ≤ k) ∧ Aside0 (Kd.R k55 55 wc w.heap.size (fun _ => True) (.slice Ao15 t253.length co15) t253) ∧ Aside0 (Below w.heap.size w wc))
  case first =>
   have H := HC9.out
   clear HC9
   by_cases c17 : t256 = t251
   ·rw [if_pos c17] at H
    have c17b0 : (t256 == t251) = true := beq_iff_eq.mpr c17
    have c17b1 : (t256 != t251) = false := bne_eq_false_iff_eq.mpr c17
    clear c17
    (first | rw [c17b0] | (simp only [i64_w, i32_w]; rw [c17b0]) | skip)
    have H' := Aside0.mk H
    clear H
    go_wp2
    go_meet
    case rel => exact ⟨_, ((t257 != t252)), (by first | rfl | (simp; done) | (simp [*]; done)), H', ⟨by first | omega | exact Nat.le_refl _⟩, ⟨by (with_reducible repeat (first | apply Kd.R_alloc | apply Kd.R_drewN | apply Kd.R_drew)); exact Kd.R_mono HO255.out (fun _ hk => trivial)⟩, ⟨hb_⟩⟩
   ·rw [if_neg c17] at H
    have c17b0 : (t256 == t251) = false := beq_eq_false_iff_ne.mpr c17
    have c17b1 : (t256 != t251) = true := bne_iff_ne.mpr c17
    (first | rw [c17b0] | (simp only [i64_w, i32_w]; rw [c17b0]) | skip)
    have H' := Aside0.mk H
    clear H
    go_wp2
    go_meet
    case rel => exact ⟨_, (true), (by first | rfl | (simp; done) | (simp [*]; done)), H', ⟨by first | omega | exact Nat.le_refl _⟩, ⟨by (with_reducible repeat (first | apply Kd.R_alloc | apply Kd.R_drewN | apply Kd.R_drew)); exact Kd.R_mono HO255.out (fun _ hk => trivial)⟩, ⟨hb_⟩⟩
  case rest =>
   clear HC9
   try clear c1
   try clear c2
   try clear p2
   try clear c3
   try clear c3b0
   try clear c5
   try clear c17
   try clear c17b0
   try clear c17b1
   obtain ⟨kq, x34_8, rfl, HA, HJ8, HO_6, HB⟩ := hcut
   cases kq with
   | zero => exact absurd HA.out (by simp [laws_FnExactMostInTime.j0])
   | succ kj8 =>
    have H := HA.out
    clear HA
    simp only [laws_FnExactMostInTime.j0] at H
    by_cases c18 : x34_8 = true
    ·subst c18
     have H1 : (some false) = some r := by rw [if_pos rfl] at H; exact H
     clear H
     have H := H1
     clear H1
     obtain rfl := Option.some.inj H
     go_wp2
     go_ret
     exact ⟨ew_, hb_⟩
    ·replace c18 := Bool.eq_false_iff.mpr c18
     subst c18
     have H1 : ((laws_toRenewalS.f kj8 l0).bind fun t258 => ((laws_eqRenewalS.f kj8 t253 t258).bind fun t261 => (if t261 = true then (some true) else (some false)))) = some r := by rw [if_neg (show ¬ (false = true) by decide)] at H; exact H
     clear H
     have H := H1
     clear H1
     replace H := Option.bind_eq_some_iff.mp H
     obtain ⟨t258, A190, H⟩ := H
     replace H : ((laws_eqRenewalS.f kj8 t253 t258).bind fun t261 => (if t261 = true then (some true) else (some false))) = some r := H
     have A19 := Aside0.mk A190
     clear A190
     replace H := Option.bind_eq_some_iff.mp H
     obtain ⟨t261, A200, H⟩ := H
     replace H : (if t261 = true then (some true) else (some false)) = some r := H
     have A20 := Aside0.mk A200
     clear A200
     by_cases c21 : t261 = true
     ·subst c21
      have H1 : (some true) = some r := by rw [if_pos rfl] at H; exact H
      clear H
      have H := H1
      clear H1
      obtain rfl := Option.some.inj H
      go_wp2_with (first | ((with_reducible refine gate_callee (f := 22) rfl ?_); refine goesL_ (some 37) rfl rfl Try.func22 (by kernel_rfl) rfl #[.slice A0 l0.length c0] rfl ln_ ?_; (with_reducible refine (laws_toRenewalS.calls kj8 _ _ l0 t258 _ ?side1 ?side2 A19.out).mono ?_); (case side1 => exact kc_ (Kd.C_below HR0.out HB.out)); (case side2 => exact HC0.out); rintro e w22 ⟨v259, rfl, ho0, hb⟩; refine ⟨_, rfl, ?_⟩; have n0_ := Aside0.mk (Kd.R_elder' (kr_ HO_6) (Kd.R_base ho0) hb); have n1_ := Aside0.mk (Kd.R_lower (Kd.R_new' ho0 (Kd.R_lt (kr_ HO_6))) (below_size hb_)); have n2_ := Aside0.mk (below_step hb_ hb); clear HO_6; clear HB; have HO_6 := n0_; have HO260 := n1_; have HB := n2_; clear n0_ n1_ n2_; (try clear hb); (try clear hb2); (try clear hk); (try clear hi); (try clear ho0); obtain ⟨Ao23, co23, eo23⟩ := Kd.R_slice HO260.out; subst eo23) | ((with_reducible refine gate_callee (f := 24) rfl ?_); refine goesL_ (some 38) rfl rfl Try.func24 (by kernel_rfl) rfl #[.slice Ao15 t253.length co15, .slice Ao23 t258.length co23] rfl ln_ ?_; (with_reducible refine (laws_eqRenewalS.calls kj8 _ _ t253 _ _ t258 true _ ?side1 ?side2 ?side3 ?side4 A20.out).mono ?_); (case side1 => repeat (first | exact (Kd.R_reads' HO_6.out).2.2 | (with_reducible refine Kd.C_alloc ?_ _) | (with_reducible refine Kd.C_drewN ?_ _) | (with_reducible refine Kd.C_drew ?_))); (case side2 => exact (Kd.R_reads' HO_6.out).2.1); (case side3 => repeat (first | exact (Kd.R_reads' HO260.out).2.2 | (with_reducible refine Kd.C_alloc ?_ _) | (with_reducible refine Kd.C_drewN ?_ _) | (with_reducible refine Kd.C_drew ?_))); (case side4 => exact (Kd.R_reads' HO260.out).2.1); rintro e w24 ⟨rfl, hb⟩; refine ⟨_, rfl, ?_⟩; have n0_ := Aside0.mk (Kd.R_below (kr_ HO_6) hb); have n1_ := Aside0.mk (Kd.R_below (kr_ HO260) hb); have n2_ := Aside0.mk (below_step hb_ hb); clear HO_6; clear HO260; clear HB; have HO_6 := n0_; have HO260 := n1_; have HB := n2_; clear n0_ n1_ n2_; (try clear hb); (try clear hb2); (try clear hk); (try clear hi)))
      go_ret
      exact ⟨ew_, hb_⟩
     ·replace c21 := Bool.eq_false_iff.mpr c21
      subst c21
      have H1 : (some false) = some r := by rw [if_neg (show ¬ (false = true) by decide)] at H; exact H
      clear H
      have H := H1
      clear H1
      obtain rfl := Option.some.inj H
      go_wp2_with (first | ((with_reducible refine gate_callee (f := 22) rfl ?_); refine goesL_ (some 37) rfl rfl Try.func22 (by kernel_rfl) rfl #[.slice A0 l0.length c0] rfl ln_ ?_; (with_reducible refine (laws_toRenewalS.calls kj8 _ _ l0 t258 _ ?side1 ?side2 A19.out).mono ?_); (case side1 => exact kc_ (Kd.C_below HR0.out HB.out)); (case side2 => exact HC0.out); rintro e w25 ⟨v259, rfl, ho0, hb⟩; refine ⟨_, rfl, ?_⟩; have n0_ := Aside0.mk (Kd.R_elder' (kr_ HO_6) (Kd.R_base ho0) hb); have n1_ := Aside0.mk (Kd.R_lower (Kd.R_new' ho0 (Kd.R_lt (kr_ HO_6))) (below_size hb_)); have n2_ := Aside0.mk (below_step hb_ hb); clear HO_6; clear HB; have HO_6 := n0_; have HO260 := n1_; have HB := n2_; clear n0_ n1_ n2_; (try clear hb); (try clear hb2); (try clear hk); (try clear hi); (try clear ho0); obtain ⟨Ao26, co26, eo26⟩ := Kd.R_slice HO260.out; subst eo26) | ((with_reducible refine gate_callee (f := 24) rfl ?_); refine goesL_ (some 38) rfl rfl Try.func24 (by kernel_rfl) rfl #[.slice Ao15 t253.length co15, .slice Ao26 t258.length co26] rfl ln_ ?_; (with_reducible refine (laws_eqRenewalS.calls kj8 _ _ t253 _ _ t258 false _ ?side1 ?side2 ?side3 ?side4 A20.out).mono ?_); (case side1 => repeat (first | exact (Kd.R_reads' HO_6.out).2.2 | (with_reducible refine Kd.C_alloc ?_ _) | (with_reducible refine Kd.C_drewN ?_ _) | (with_reducible refine Kd.C_drew ?_))); (case side2 => exact (Kd.R_reads' HO_6.out).2.1); (case side3 => repeat (first | exact (Kd.R_reads' HO260.out).2.2 | (with_reducible refine Kd.C_alloc ?_ _) | (with_reducible refine Kd.C_drewN ?_ _) | (with_reducible refine Kd.C_drew ?_))); (case side4 => exact (Kd.R_reads' HO260.out).2.1); rintro e w27 ⟨rfl, hb⟩; refine ⟨_, rfl, ?_⟩; have n0_ := Aside0.mk (Kd.R_below (kr_ HO_6) hb); have n1_ := Aside0.mk (Kd.R_below (kr_ HO260) hb); have n2_ := Aside0.mk (below_step hb_ hb); clear HO_6; clear HO260; clear HB; have HO_6 := n0_; have HO260 := n1_; have HB := n2_; clear n0_ n1_ n2_; (try clear hb); (try clear hb2); (try clear hk); (try clear hi)))
      go_ret
      exact ⟨ew_, hb_⟩

end Go.Proofs.Ytkegmjebkikniaa.P
