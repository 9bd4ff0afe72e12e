-- Written by gprint.py (own program, over the printer of the kit) out of the translation. Lean checks it.
import Derived.Test.YtbglfbmnibhgeaaPx0
import Derived.Test.YtbglfbmnibhgeaaPx5
import Derived.Test.YtbglfbmnibhgeaaPx7
import Derived.Test.YtbglfbmnibhgeaaWPk
namespace Go.Proofs.Ytbglfbmnibhgeaa.P
open Go.RowKit Go.Proofs.YtbglfbmnibhgeaaW.PrintWords Go.Proofs.YtbglfbmnibhgeaaW.PrintLast Go.Proofs.YtbglfbmnibhgeaaW.PrintMore Go.Proofs.YtbglfbmnibhgeaaW.Pk
open Bool renaming true → T_, false → F_
open List renaming setIfInBounds_toArray → sT_, set_cons_zero → s0_, set_cons_succ → sS_
attribute [local go_sem] max2_int min2_int max_two min_two max_three min_three max_four min_four   -- for this text's walks alone
set_option linter.unusedVariables false
set_option linter.unusedSimpArgs false

/-! ### spec_l23Code: function 68 -/
def spec_l23Code.f (k : Nat) (l0 : List (S45)) (s1_0 : ByteArray) (s1_1 : Int) : Option (Int) := (spec_l23Ok.f k l0).bind fun t379 => (if t379 = true then ((spec_l23Want.f k s1_0 s1_1).bind fun t380 => (if t380 = true then (some 0) else (some 2))) else (some 1))
theorem spec_l23Code.mono : ∀ a0 a1 a2 k, LeO (spec_l23Code.f k a0 a1 a2) (spec_l23Code.f (k + 1) a0 a1 a2) := by
 intro a0 a1 a2 k
 unfold spec_l23Code.f
 repeat' first
   | (with_reducible exact spec_l23Ok.mono _ _)
   | (with_reducible exact spec_l23Want.mono _ _ _)
   | (with_reducible exact LeO.refl _)
   | (with_reducible exact LeO.none _)
   | (with_reducible refine LeO.ite ?_ ?_)
   | (with_reducible refine LeO.bind ?_ (fun _ => ?_))
   | exact spec_l23Ok.mono _ _
   | exact spec_l23Want.mono _ _ _
   | exact LeO.none _
   | refine LeO.ite ?_ ?_
   | refine LeO.bind ?_ (fun _ => ?_)
set_option maxHeartbeats 8000000 in
set_option maxRecDepth 100000 in
theorem spec_l23Code.calls0 (k : Nat) (A0 : Option Addr) (c0 : Nat) (l0 : List (S45)) (g o : Nat) (z : Option Nat) (s1_0 : ByteArray) (s1_1 : Int) (r : Int) (w0 w : World) (hI : IsE55 w0 w g o z s1_0 s1_1) (hB : Below w0.heap.size w0 w) (hr0 : ∀ W_, KeepBut w W_ w.heap.size none → Kd.C k45 W_ A0 l0.length l0) (hc0 : l0.length ≤ c0) (h : spec_l23Code.f k l0 s1_0 s1_1 = some r) :
  Calls Try.prog 68 #[.slice A0 l0.length c0, .pointer (some ⟨g, o, z⟩)] w fun e w' => e = .returned (.int .i64 r) ∧ IsE55 w0 w' g o z s1_0 s1_1 ∧ Below w0.heap.size w0 w' ∧ KeepBut w w' w.heap.size none := by
 have HR0 := Aside0.mk hr0
 have HC0 := Aside0.mk hc0
 clear hr0 hc0
 have HI1 := Aside0.mk hI
 have HK := Aside0.mk (KeepBut.refl w w.heap.size none)
 have HL := Aside0.mk hB.size
 clear hI
 have HW0 := Aside0.mk hB.size
 have HB := Aside0.mk hB
 clear hB
 have H : ((spec_l23Ok.f k l0).bind fun t379 => (if t379 = true then ((spec_l23Want.f k s1_0 s1_1).bind fun t380 => (if t380 = true then (some 0) else (some 2))) else (some 1))) = some r := h
 clear h
 replace H := Option.bind_eq_some_iff.mp H
 obtain ⟨t379, A30, H⟩ := H
 replace H : (if t379 = true then ((spec_l23Want.f k s1_0 s1_1).bind fun t380 => (if t380 = true then (some 0) else (some 2))) else (some 1)) = some r := H
 have A3 := Aside0.mk A30
 clear A30
 by_cases c4 : t379 = true
 ·subst c4
  have H1 : ((spec_l23Want.f k s1_0 s1_1).bind fun t380 => (if t380 = true then (some 0) else (some 2))) = some r := by rw [if_pos rfl] at H; exact H
  clear H
  have H := H1
  clear H1
  replace H := Option.bind_eq_some_iff.mp H
  obtain ⟨t380, A50, H⟩ := H
  replace H : (if t380 = true then (some 0) else (some 2)) = some r := H
  have A5 := Aside0.mk A50
  clear A50
  by_cases c6 : t380 = true
  ·subst c6
   have H1 : (some 0) = some r := by rw [if_pos rfl] at H; exact H
   clear H
   have H := H1
   clear H1
   obtain rfl := Option.some.inj H
   go_enter Try.func68, Try.ntmps68
   go_wp2_with (first | ((with_reducible refine gate_callee (f := 55) rfl ?_); refine goesL_ (some 6) rfl rfl Try.func55 (by kernel_rfl) rfl #[.slice A0 l0.length c0] rfl ln_ ?_; (with_reducible refine (spec_l23Ok.calls k _ _ l0 true _ ?side1 ?side2 A3.out).mono ?_); (case side1 => exact Kd.C_foot_now HR0.out (by repeat (first | (with_reducible first | exact HK.out | apply keep_drewN | apply keep_drew | apply keep_alloc) | exact HK.out))); (case side2 => exact HC0.out); rintro e w7 ⟨rfl, hb⟩; refine ⟨_, rfl, ?_⟩; have n0_ := Aside0.mk (IsE55.below (by repeat (first | (with_reducible first | exact HI1.out | apply IsE55.alloc | apply IsE55.drewN | apply IsE55.drew) | exact HI1.out)) hb); have n1_ := Aside0.mk (KeepBut.trans (by repeat (first | (with_reducible first | exact HK.out | apply keep_drewN | apply keep_drew | apply keep_alloc) | exact HK.out)) (KeepBut.of_below hb w.heap.size none) (.inl rfl)); have n2_ := Aside0.mk (below_step hb_ hb); clear HI1; clear HK; clear HB; have HI1 := n0_; have HK := n1_; have HB := n2_; clear n0_ n1_ n2_; (try clear hb); (try clear hb2); (try clear hk); (try clear hi)) | ((with_reducible refine gate_callee (f := 78) rfl ?_); refine goesL_ (some 9) rfl rfl Try.func78 (by kernel_rfl) rfl #[.pointer (some ⟨g, o, z⟩)] rfl ln_ ?_; (with_reducible refine (spec_l23Want.calls k _ s1_0 s1_1 true _ ?side1 ?side2 A5.out).mono ?_); (case side1 => exact cellE55_0 (show IsE55 w0 _ g o z s1_0 s1_1 from by repeat (first | (with_reducible first | exact HI1.out | apply IsE55.alloc | apply IsE55.drewN | apply IsE55.drew) | exact HI1.out)).1); (case side2 => exact cellE55_1 (show IsE55 w0 _ g o z s1_0 s1_1 from by repeat (first | (with_reducible first | exact HI1.out | apply IsE55.alloc | apply IsE55.drewN | apply IsE55.drew) | exact HI1.out)).1); rintro e w8 ⟨rfl, hb⟩; refine ⟨_, rfl, ?_⟩; have n0_ := Aside0.mk (IsE55.below (by repeat (first | (with_reducible first | exact HI1.out | apply IsE55.alloc | apply IsE55.drewN | apply IsE55.drew) | exact HI1.out)) hb); have n1_ := Aside0.mk (KeepBut.trans (by repeat (first | (with_reducible first | exact HK.out | apply keep_drewN | apply keep_drew | apply keep_alloc) | exact HK.out)) (KeepBut.of_below hb w.heap.size none) (.inl rfl)); have n2_ := Aside0.mk (below_step hb_ hb); clear HI1; clear HK; clear HB; have HI1 := n0_; have HK := n1_; have HB := n2_; clear n0_ n1_ n2_; (try clear hb); (try clear hb2); (try clear hk); (try clear hi)))
   go_ret
   exact ⟨ew_, by repeat (first | (with_reducible first | exact HI1.out | apply IsE55.alloc | apply IsE55.drewN | apply IsE55.drew) | exact HI1.out), hb_, by repeat (first | (with_reducible first | exact HK.out | apply keep_drewN | apply keep_drew | apply keep_alloc) | exact HK.out)⟩
  ·replace c6 := Bool.eq_false_iff.mpr c6
   subst c6
   have H1 : (some 2) = some r := by rw [if_neg (show ¬ (false = true) by decide)] at H; exact H
   clear H
   have H := H1
   clear H1
   obtain rfl := Option.some.inj H
   go_enter Try.func68, Try.ntmps68
   go_wp2_with (first | ((with_reducible refine gate_callee (f := 55) rfl ?_); refine goesL_ (some 6) rfl rfl Try.func55 (by kernel_rfl) rfl #[.slice A0 l0.length c0] rfl ln_ ?_; (with_reducible refine (spec_l23Ok.calls k _ _ l0 true _ ?side1 ?side2 A3.out).mono ?_); (case side1 => exact Kd.C_foot_now HR0.out (by repeat (first | (with_reducible first | exact HK.out | apply keep_drewN | apply keep_drew | apply keep_alloc) | exact HK.out))); (case side2 => exact HC0.out); rintro e w9 ⟨rfl, hb⟩; refine ⟨_, rfl, ?_⟩; have n0_ := Aside0.mk (IsE55.below (by repeat (first | (with_reducible first | exact HI1.out | apply IsE55.alloc | apply IsE55.drewN | apply IsE55.drew) | exact HI1.out)) hb); have n1_ := Aside0.mk (KeepBut.trans (by repeat (first | (with_reducible first | exact HK.out | apply keep_drewN | apply keep_drew | apply keep_alloc) | exact HK.out)) (KeepBut.of_below hb w.heap.size none) (.inl rfl)); have n2_ := Aside0.mk (below_step hb_ hb); clear HI1; clear HK; clear HB; have HI1 := n0_; have HK := n1_; have HB := n2_; clear n0_ n1_ n2_; (try clear hb); (try clear hb2); (try clear hk); (try clear hi)) | ((with_reducible refine gate_callee (f := 78) rfl ?_); refine goesL_ (some 9) rfl rfl Try.func78 (by kernel_rfl) rfl #[.pointer (some ⟨g, o, z⟩)] rfl ln_ ?_; (with_reducible refine (spec_l23Want.calls k _ s1_0 s1_1 false _ ?side1 ?side2 A5.out).mono ?_); (case side1 => exact cellE55_0 (show IsE55 w0 _ g o z s1_0 s1_1 from by repeat (first | (with_reducible first | exact HI1.out | apply IsE55.alloc | apply IsE55.drewN | apply IsE55.drew) | exact HI1.out)).1); (case side2 => exact cellE55_1 (show IsE55 w0 _ g o z s1_0 s1_1 from by repeat (first | (with_reducible first | exact HI1.out | apply IsE55.alloc | apply IsE55.drewN | apply IsE55.drew) | exact HI1.out)).1); rintro e w10 ⟨rfl, hb⟩; refine ⟨_, rfl, ?_⟩; have n0_ := Aside0.mk (IsE55.below (by repeat (first | (with_reducible first | exact HI1.out | apply IsE55.alloc | apply IsE55.drewN | apply IsE55.drew) | exact HI1.out)) hb); have n1_ := Aside0.mk (KeepBut.trans (by repeat (first | (with_reducible first | exact HK.out | apply keep_drewN | apply keep_drew | apply keep_alloc) | exact HK.out)) (KeepBut.of_below hb w.heap.size none) (.inl rfl)); have n2_ := Aside0.mk (below_step hb_ hb); clear HI1; clear HK; clear HB; have HI1 := n0_; have HK := n1_; have HB := n2_; clear n0_ n1_ n2_; (try clear hb); (try clear hb2); (try clear hk); (try clear hi)))
   go_ret
   exact ⟨ew_, by repeat (first | (with_reducible first | exact HI1.out | apply IsE55.alloc | apply IsE55.drewN | apply IsE55.drew) | exact HI1.out), hb_, by repeat (first | (with_reducible first | exact HK.out | apply keep_drewN | apply keep_drew | apply keep_alloc) | exact HK.out)⟩
 ·replace c4 := Bool.eq_false_iff.mpr c4
  subst c4
  have H1 : (some 1) = some r := by rw [if_neg (show ¬ (false = true) by decide)] at H; exact H
  clear H
  have H := H1
  clear H1
  obtain rfl := Option.some.inj H
  go_enter Try.func68, Try.ntmps68
  go_wp2_with (first | ((with_reducible refine gate_callee (f := 55) rfl ?_); refine goesL_ (some 6) rfl rfl Try.func55 (by kernel_rfl) rfl #[.slice A0 l0.length c0] rfl ln_ ?_; (with_reducible refine (spec_l23Ok.calls k _ _ l0 false _ ?side1 ?side2 A3.out).mono ?_); (case side1 => exact Kd.C_foot_now HR0.out (by repeat (first | (with_reducible first | exact HK.out | apply keep_drewN | apply keep_drew | apply keep_alloc) | exact HK.out))); (case side2 => exact HC0.out); rintro e w11 ⟨rfl, hb⟩; refine ⟨_, rfl, ?_⟩; have n0_ := Aside0.mk (IsE55.below (by repeat (first | (with_reducible first | exact HI1.out | apply IsE55.alloc | apply IsE55.drewN | apply IsE55.drew) | exact HI1.out)) hb); have n1_ := Aside0.mk (KeepBut.trans (by repeat (first | (with_reducible first | exact HK.out | apply keep_drewN | apply keep_drew | apply keep_alloc) | exact HK.out)) (KeepBut.of_below hb w.heap.size none) (.inl rfl)); have n2_ := Aside0.mk (below_step hb_ hb); clear HI1; clear HK; clear HB; have HI1 := n0_; have HK := n1_; have HB := n2_; clear n0_ n1_ n2_; (try clear hb); (try clear hb2); (try clear hk); (try clear hi)))
  go_ret
  exact ⟨ew_, by repeat (first | (with_reducible first | exact HI1.out | apply IsE55.alloc | apply IsE55.drewN | apply IsE55.drew) | exact HI1.out), hb_, by repeat (first | (with_reducible first | exact HK.out | apply keep_drewN | apply keep_drew | apply keep_alloc) | exact HK.out)⟩
theorem spec_l23Code.calls (k : Nat) (A0 : Option Addr) (c0 : Nat) (l0 : List (S45)) (g : Addr) (s1_0 : ByteArray) (s1_1 : Int) (r : Int) (w : World) (hr0 : Kd.C k45 w A0 l0.length l0) (hc0 : l0.length ≤ c0) (he0 : w.cell? g = some (.string s1_0)) (he1 : w.cell? ⟨g.block, g.off + 1, none⟩ = some (.int .i64 s1_1)) (h : spec_l23Code.f k l0 s1_0 s1_1 = some r) :
  Calls Try.prog 68 #[.slice A0 l0.length c0, .pointer (some g)] w fun e w' => e = .returned (.int .i64 r) ∧ Below w.heap.size w w' := by
 refine (spec_l23Code.calls0 k A0 c0 l0 g.block g.off g.spot s1_0 s1_1 r w w ⟨⟨he0, he1⟩, trivial⟩ (Below.refl _ _) (Kd.C_foot_came k45_heap hr0 (Below.refl _ _) (Nat.le_refl _)) hc0 h).mono ?_
 rintro e w' ⟨rfl, _, hb, _⟩
 exact ⟨rfl, hb⟩


/-! ### spec_l23Best: function 69 -/
def spec_l23Best.l0 : Nat → List (S45) → Int → Int → ByteArray → Int → Option (Int)
 | 0, _, _, _, _, _ => none
 | k + 1, x0, x5, x6, x2000, x2001 => if x6 < (x0.length : Int) then (if 0 ≤ x6 then (if ((rd_T45 x0 x6).f0).toList = x2000.toList then (if ((rd_T45 x0 x6).f1) ≥ x2001 then (if x5 < 0 then (spec_l23Best.l0 k x0 x6 (wrap64 (x6 + 1)) x2000 x2001) else (if 0 ≤ x5 then (if x5 < (x0.length : Int) then (if ((rd_T45 x0 x6).f1) < ((rd_T45 x0 x5).f1) then (spec_l23Best.l0 k x0 x6 (wrap64 (x6 + 1)) x2000 x2001) else (spec_l23Best.l0 k x0 x5 (wrap64 (x6 + 1)) x2000 x2001)) else (none)) else (none))) else (spec_l23Best.l0 k x0 x5 (wrap64 (x6 + 1)) x2000 x2001)) else (spec_l23Best.l0 k x0 x5 (wrap64 (x6 + 1)) x2000 x2001)) else (none)) else (some x5)
def spec_l23Best.f (k : Nat) (l0 : List (S45)) (s1_0 : ByteArray) (s1_1 : Int) : Option (Int) := spec_l23Best.l0 k l0 (-1) 0 s1_0 s1_1
theorem spec_l23Best.mono_l : ∀ k, (∀ y0 y1 y2 y3 y4, LeO (spec_l23Best.l0 k y0 y1 y2 y3 y4) (spec_l23Best.l0 (k + 1) y0 y1 y2 y3 y4))
 | 0 => fun _ _ _ _ _ r h => by simp [spec_l23Best.l0] at h
 | k + 1 => by
  have ih0 := spec_l23Best.mono_l k
  ·intro y0 y1 y2 y3 y4
   unfold spec_l23Best.l0
   repeat' first
   | (with_reducible exact ih0 _ _ _ _ _)
   | (with_reducible exact LeO.refl _)
   | (with_reducible exact LeO.none _)
   | (with_reducible refine LeO.ite ?_ ?_)
   | (with_reducible refine LeO.bind ?_ (fun _ => ?_))
   | exact ih0 _ _ _ _ _
   | exact LeO.none _
   | refine LeO.ite ?_ ?_
   | refine LeO.bind ?_ (fun _ => ?_)
theorem spec_l23Best.mono : ∀ a0 a1 a2 k, LeO (spec_l23Best.f k a0 a1 a2) (spec_l23Best.f (k + 1) a0 a1 a2) := by
 intro a0 a1 a2 k
 have ih0 := spec_l23Best.mono_l k
 unfold spec_l23Best.f
 repeat' first
   | (with_reducible exact ih0 _ _ _ _ _)
   | (with_reducible exact LeO.refl _)
   | (with_reducible exact LeO.none _)
   | (with_reducible refine LeO.ite ?_ ?_)
   | (with_reducible refine LeO.bind ?_ (fun _ => ?_))
   | exact ih0 _ _ _ _ _
   | exact LeO.none _
   | refine LeO.ite ?_ ?_
   | refine LeO.bind ?_ (fun _ => ?_)
set_option maxHeartbeats 8000000 in
set_option maxRecDepth 100000 in
theorem spec_l23Best.calls0 (k : Nat) (A0 : Option Addr) (c0 : Nat) (l0 : List (S45)) (g o : Nat) (z : Option Nat) (s1_0 : ByteArray) (s1_1 : Int) (r : Int) (w0 w : World) (hI : IsE55 w0 w g o z s1_0 s1_1) (hB : Below w0.heap.size w0 w) (hr0 : ∀ W_, KeepBut w W_ w.heap.size none → Kd.C k45 W_ A0 l0.length l0) (hc0 : l0.length ≤ c0) (h : spec_l23Best.f k l0 s1_0 s1_1 = some r) :
  Calls Try.prog 69 #[.slice A0 l0.length c0, .pointer (some ⟨g, o, z⟩)] w fun e w' => e = .returned (.int .i64 r) ∧ IsE55 w0 w' g o z s1_0 s1_1 ∧ Below w0.heap.size w0 w' ∧ KeepBut w w' w.heap.size none := by
 have HR0 := Aside0.mk hr0
 have HC0 := Aside0.mk hc0
 clear hr0 hc0
 have HI1 := Aside0.mk hI
 have HK := Aside0.mk (KeepBut.refl w w.heap.size none)
 have HL := Aside0.mk hB.size
 clear hI
 have HW0 := Aside0.mk hB.size
 have HB := Aside0.mk hB
 clear hB
 have H : (spec_l23Best.l0 k l0 (-1) 0 s1_0 s1_1) = some r := h
 clear h
 have H' := Aside0.mk H
 clear H
 go_enter Try.func69, Try.ntmps69
 go_wp2
 repeat (go_quiet (fail); try go_wp2)
 go_loopg [5, 6] k (fun kq v5 v6 w' => ∃ (x5_1 : Int) (x6_1 : Int), v5 = .int .i64 x5_1 ∧ v6 = .int .i64 x6_1 ∧ Aside0 (spec_l23Best.l0 kq l0 x5_1 x6_1 s1_0 s1_1 = some r) ∧ Aside0 (kq ≤ k) ∧ Aside0 (IsE55 w0 w' g o z s1_0 s1_1) ∧ Aside0 (KeepBut w w' w.heap.size none) ∧ Aside0 (Below w0.heap.size w0 w'))
 case atStart => exact ⟨((-1)), (0), (by first | rfl | (simp; done) | (simp [*]; done)), (by first | rfl | (simp; done) | (simp [*]; done)), H', ⟨Nat.le_refl _⟩, ⟨by repeat (first | (with_reducible first | exact HI1.out | apply IsE55.alloc | apply IsE55.drewN | apply IsE55.drew) | exact HI1.out)⟩, ⟨by repeat (first | (with_reducible first | exact HK.out | apply keep_drewN | apply keep_drew | apply keep_alloc) | exact HK.out)⟩, ⟨hb_⟩⟩
 case round =>
  clear H'
  try clear p2
  obtain ⟨x5_1, x6_1, rfl, rfl, HA, HK1, HI1, HK, HB⟩ := hrel
  cases gk with
  | zero => exact absurd HA.out (by simp [spec_l23Best.l0])
  | succ k1 =>
   have H := HA.out
   clear HA
   simp only [spec_l23Best.l0] at H
   by_cases c3 : x6_1 < (l0.length : Int)
   ·rw [if_pos c3] at H
    have c3b0 : decide (x6_1 < (l0.length : Int)) = true := decide_eq_true c3
    clear c3
    by_cases c4 : 0 ≤ x6_1
    ·rw [if_pos c4] at H
     have c4b0 : decide (0 ≤ x6_1) = true := decide_eq_true c4
     clear c4
     by_cases c5 : ((rd_T45 l0 x6_1).f0).toList = s1_0.toList
     ·rw [if_pos c5] at H
      have c5b0 : (((rd_T45 l0 x6_1).f0).toList == s1_0.toList) = true := beq_iff_eq.mpr c5
      have c5b1 : (((rd_T45 l0 x6_1).f0).toList != s1_0.toList) = false := bne_eq_false_iff_eq.mpr c5
      clear c5
      by_cases c6 : ((rd_T45 l0 x6_1).f1) ≥ s1_1
      ·rw [if_pos c6] at H
       have c6b0 : decide (s1_1 ≤ ((rd_T45 l0 x6_1).f1)) = true := decide_eq_true c6
       clear c6
       by_cases c7 : x5_1 < 0
       ·rw [if_pos c7] at H
        have c7b0 : decide (x5_1 < 0) = true := decide_eq_true c7
        clear c7
        have H' := Aside0.mk H
        clear H
        have p381 : 0 ≤ (x6_1 : Int) := od_
        have q381 : x6_1 < (l0.length : Int) := od_
        obtain ⟨ad381, e381, hx381_0, hx381_1⟩ := at_T45 (Kd.C_foot_now HR0.out HK.out) x6_1 p381 q381
        cases e381
        replace p381 := eq_true p381
        replace q381 := eq_true q381
        obtain ⟨HGz8, hgz8⟩ := HI1.out
        have hcz8_0 := cellE55_0 HGz8
        have hcz8_1 := cellE55_1 HGz8
        clear HGz8 hgz8
        have p382 : 0 ≤ (x6_1 : Int) := od_
        have q382 : x6_1 < (l0.length : Int) := od_
        obtain ⟨ad382, e382, hx382_0, hx382_1⟩ := at_T45 (Kd.C_foot_now HR0.out HK.out) x6_1 p382 q382
        obtain rfl : ad381 = ad382 := (by injection e382)
        replace p382 := eq_true p382
        replace q382 := eq_true q382
        go_wp2
        repeat (go_quiet (fail); try go_wp2)
        go_roundg k1
        case measure => have := HK1.out; omega
        case rel => exact ⟨(x6_1), (wrap64 (x6_1 + 1)), (by first | rfl | (simp; done) | (simp [*]; done)), (by first | rfl | (simp; done) | (simp [*]; done)), H', ⟨by have := HK1.out; omega⟩, ⟨by repeat (first | (with_reducible first | exact HI1.out | apply IsE55.alloc | apply IsE55.drewN | apply IsE55.drew) | exact HI1.out)⟩, ⟨by repeat (first | (with_reducible first | exact HK.out | apply keep_drewN | apply keep_drew | apply keep_alloc) | exact HK.out)⟩, ⟨hb_⟩⟩
       ·rw [if_neg c7] at H
        have c7b0 : decide (x5_1 < 0) = false := decide_eq_false c7
        clear c7
        by_cases c9 : 0 ≤ x5_1
        ·rw [if_pos c9] at H
         have c9b0 : decide (0 ≤ x5_1) = true := decide_eq_true c9
         clear c9
         by_cases c10 : x5_1 < (l0.length : Int)
         ·rw [if_pos c10] at H
          have c10b0 : decide (x5_1 < (l0.length : Int)) = true := decide_eq_true c10
          clear c10
          by_cases c11 : ((rd_T45 l0 x6_1).f1) < ((rd_T45 l0 x5_1).f1)
          ·rw [if_pos c11] at H
           have c11b0 : decide (((rd_T45 l0 x6_1).f1) < ((rd_T45 l0 x5_1).f1)) = true := decide_eq_true c11
           clear c11
           have H' := Aside0.mk H
           clear H
           have p381 : 0 ≤ (x6_1 : Int) := od_
           have q381 : x6_1 < (l0.length : Int) := od_
           obtain ⟨ad381, e381, hx381_0, hx381_1⟩ := at_T45 (Kd.C_foot_now HR0.out HK.out) x6_1 p381 q381
           cases e381
           replace p381 := eq_true p381
           replace q381 := eq_true q381
           obtain ⟨HGz12, hgz12⟩ := HI1.out
           have hcz12_0 := cellE55_0 HGz12
           have hcz12_1 := cellE55_1 HGz12
           clear HGz12 hgz12
           have p382 : 0 ≤ (x6_1 : Int) := od_
           have q382 : x6_1 < (l0.length : Int) := od_
           obtain ⟨ad382, e382, hx382_0, hx382_1⟩ := at_T45 (Kd.C_foot_now HR0.out HK.out) x6_1 p382 q382
           obtain rfl : ad381 = ad382 := (by injection e382)
           replace p382 := eq_true p382
           replace q382 := eq_true q382
           have p383 : 0 ≤ (x6_1 : Int) := od_
           have q383 : x6_1 < (l0.length : Int) := od_
           obtain ⟨ad383, e383, hx383_0, hx383_1⟩ := at_T45 (Kd.C_foot_now HR0.out HK.out) x6_1 p383 q383
           obtain rfl : ad381 = ad383 := (by injection e383)
           replace p383 := eq_true p383
           replace q383 := eq_true q383
           have p384 : 0 ≤ (x5_1 : Int) := od_
           have q384 : x5_1 < (l0.length : Int) := od_
           obtain ⟨ad384, e384, hx384_0, hx384_1⟩ := at_T45 (Kd.C_foot_now HR0.out HK.out) x5_1 p384 q384
           obtain rfl : ad381 = ad384 := (by injection e384)
           replace p384 := eq_true p384
           replace q384 := eq_true q384
           go_wp2
           repeat (go_quiet (fail); try go_wp2)
           go_roundg k1
           case measure => have := HK1.out; omega
           case rel => exact ⟨(x6_1), (wrap64 (x6_1 + 1)), (by first | rfl | (simp; done) | (simp [*]; done)), (by first | rfl | (simp; done) | (simp [*]; done)), H', ⟨by have := HK1.out; omega⟩, ⟨by repeat (first | (with_reducible first | exact HI1.out | apply IsE55.alloc | apply IsE55.drewN | apply IsE55.drew) | exact HI1.out)⟩, ⟨by repeat (first | (with_reducible first | exact HK.out | apply keep_drewN | apply keep_drew | apply keep_alloc) | exact HK.out)⟩, ⟨hb_⟩⟩
          ·rw [if_neg c11] at H
           have c11b0 : decide (((rd_T45 l0 x6_1).f1) < ((rd_T45 l0 x5_1).f1)) = false := decide_eq_false c11
           clear c11
           have H' := Aside0.mk H
           clear H
           have p381 : 0 ≤ (x6_1 : Int) := od_
           have q381 : x6_1 < (l0.length : Int) := od_
           obtain ⟨ad381, e381, hx381_0, hx381_1⟩ := at_T45 (Kd.C_foot_now HR0.out HK.out) x6_1 p381 q381
           cases e381
           replace p381 := eq_true p381
           replace q381 := eq_true q381
           obtain ⟨HGz13, hgz13⟩ := HI1.out
           have hcz13_0 := cellE55_0 HGz13
           have hcz13_1 := cellE55_1 HGz13
           clear HGz13 hgz13
           have p382 : 0 ≤ (x6_1 : Int) := od_
           have q382 : x6_1 < (l0.length : Int) := od_
           obtain ⟨ad382, e382, hx382_0, hx382_1⟩ := at_T45 (Kd.C_foot_now HR0.out HK.out) x6_1 p382 q382
           obtain rfl : ad381 = ad382 := (by injection e382)
           replace p382 := eq_true p382
           replace q382 := eq_true q382
           have p383 : 0 ≤ (x6_1 : Int) := od_
           have q383 : x6_1 < (l0.length : Int) := od_
           obtain ⟨ad383, e383, hx383_0, hx383_1⟩ := at_T45 (Kd.C_foot_now HR0.out HK.out) x6_1 p383 q383
           obtain rfl : ad381 = ad383 := (by injection e383)
           replace p383 := eq_true p383
           replace q383 := eq_true q383
           have p384 : 0 ≤ (x5_1 : Int) := od_
           have q384 : x5_1 < (l0.length : Int) := od_
           obtain ⟨ad384, e384, hx384_0, hx384_1⟩ := at_T45 (Kd.C_foot_now HR0.out HK.out) x5_1 p384 q384
           obtain rfl : ad381 = ad384 := (by injection e384)
           replace p384 := eq_true p384
           replace q384 := eq_true q384
           go_wp2
           repeat (go_quiet (fail); try go_wp2)
           go_roundg k1
           case measure => have := HK1.out; omega
           case rel => exact ⟨(x5_1), (wrap64 (x6_1 + 1)), (by first | rfl | (simp; done) | (simp [*]; done)), (by first | rfl | (simp; done) | (simp [*]; done)), H', ⟨by have := HK1.out; omega⟩, ⟨by repeat (first | (with_reducible first | exact HI1.out | apply IsE55.alloc | apply IsE55.drewN | apply IsE55.drew) | exact HI1.out)⟩, ⟨by repeat (first | (with_reducible first | exact HK.out | apply keep_drewN | apply keep_drew | apply keep_alloc) | exact HK.out)⟩, ⟨hb_⟩⟩
         ·rw [if_neg c10] at H
          exact absurd H (by simp)
        ·rw [if_neg c9] at H
         exact absurd H (by simp)
      ·rw [if_neg c6] at H
       have c6b0 : decide (s1_1 ≤ ((rd_T45 l0 x6_1).f1)) = false := decide_eq_false c6
       clear c6
       have H' := Aside0.mk H
       clear H
       have p381 : 0 ≤ (x6_1 : Int) := od_
       have q381 : x6_1 < (l0.length : Int) := od_
       obtain ⟨ad381, e381, hx381_0, hx381_1⟩ := at_T45 (Kd.C_foot_now HR0.out HK.out) x6_1 p381 q381
       cases e381
       replace p381 := eq_true p381
       replace q381 := eq_true q381
       obtain ⟨HGz14, hgz14⟩ := HI1.out
       have hcz14_0 := cellE55_0 HGz14
       have hcz14_1 := cellE55_1 HGz14
       clear HGz14 hgz14
       have p382 : 0 ≤ (x6_1 : Int) := od_
       have q382 : x6_1 < (l0.length : Int) := od_
       obtain ⟨ad382, e382, hx382_0, hx382_1⟩ := at_T45 (Kd.C_foot_now HR0.out HK.out) x6_1 p382 q382
       obtain rfl : ad381 = ad382 := (by injection e382)
       replace p382 := eq_true p382
       replace q382 := eq_true q382
       go_wp2
       repeat (go_quiet (fail); try go_wp2)
       go_roundg k1
       case measure => have := HK1.out; omega
       case rel => exact ⟨(x5_1), (wrap64 (x6_1 + 1)), (by first | rfl | (simp; done) | (simp [*]; done)), (by first | rfl | (simp; done) | (simp [*]; done)), H', ⟨by have := HK1.out; omega⟩, ⟨by repeat (first | (with_reducible first | exact HI1.out | apply IsE55.alloc | apply IsE55.drewN | apply IsE55.drew) | exact HI1.out)⟩, ⟨by repeat (first | (with_reducible first | exact HK.out | apply keep_drewN | apply keep_drew | apply keep_alloc) | exact HK.out)⟩, ⟨hb_⟩⟩
     ·rw [if_neg c5] at H
      have c5b0 : (((rd_T45 l0 x6_1).f0).toList == s1_0.toList) = false := beq_eq_false_iff_ne.mpr c5
      have c5b1 : (((rd_T45 l0 x6_1).f0).toList != s1_0.toList) = true := bne_iff_ne.mpr c5
      have H' := Aside0.mk H
      clear H
      have p381 : 0 ≤ (x6_1 : Int) := od_
      have q381 : x6_1 < (l0.length : Int) := od_
      obtain ⟨ad381, e381, hx381_0, hx381_1⟩ := at_T45 (Kd.C_foot_now HR0.out HK.out) x6_1 p381 q381
      cases e381
      replace p381 := eq_true p381
      replace q381 := eq_true q381
      obtain ⟨HGz15, hgz15⟩ := HI1.out
      have hcz15_0 := cellE55_0 HGz15
      have hcz15_1 := cellE55_1 HGz15
      clear HGz15 hgz15
      go_wp2
      repeat (go_quiet (fail); try go_wp2)
      go_roundg k1
      case measure => have := HK1.out; omega
      case rel => exact ⟨(x5_1), (wrap64 (x6_1 + 1)), (by first | rfl | (simp; done) | (simp [*]; done)), (by first | rfl | (simp; done) | (simp [*]; done)), H', ⟨by have := HK1.out; omega⟩, ⟨by repeat (first | (with_reducible first | exact HI1.out | apply IsE55.alloc | apply IsE55.drewN | apply IsE55.drew) | exact HI1.out)⟩, ⟨by repeat (first | (with_reducible first | exact HK.out | apply keep_drewN | apply keep_drew | apply keep_alloc) | exact HK.out)⟩, ⟨hb_⟩⟩
    ·rw [if_neg c4] at H
     exact absurd H (by simp)
   ·rw [if_neg c3] at H
    have c3b0 : decide (x6_1 < (l0.length : Int)) = false := decide_eq_false c3
    clear c3
    obtain rfl := Option.some.inj H
    go_wp2
    repeat (go_quiet (fail); try go_wp2)
    go_ret
    exact ⟨ew_, by repeat (first | (with_reducible first | exact HI1.out | apply IsE55.alloc | apply IsE55.drewN | apply IsE55.drew) | exact HI1.out), hb_, by repeat (first | (with_reducible first | exact HK.out | apply keep_drewN | apply keep_drew | apply keep_alloc) | exact HK.out)⟩
theorem spec_l23Best.calls (k : Nat) (A0 : Option Addr) (c0 : Nat) (l0 : List (S45)) (g : Addr) (s1_0 : ByteArray) (s1_1 : Int) (r : Int) (w : World) (hr0 : Kd.C k45 w A0 l0.length l0) (hc0 : l0.length ≤ c0) (he0 : w.cell? g = some (.string s1_0)) (he1 : w.cell? ⟨g.block, g.off + 1, none⟩ = some (.int .i64 s1_1)) (h : spec_l23Best.f k l0 s1_0 s1_1 = some r) :
  Calls Try.prog 69 #[.slice A0 l0.length c0, .pointer (some g)] w fun e w' => e = .returned (.int .i64 r) ∧ Below w.heap.size w w' := by
 refine (spec_l23Best.calls0 k A0 c0 l0 g.block g.off g.spot s1_0 s1_1 r w w ⟨⟨he0, he1⟩, trivial⟩ (Below.refl _ _) (Kd.C_foot_came k45_heap hr0 (Below.refl _ _) (Nat.le_refl _)) hc0 h).mono ?_
 rintro e w' ⟨rfl, _, hb, _⟩
 exact ⟨rfl, hb⟩


/-! ### impl_bestCoil: function 70 -/
def impl_bestCoil.l0 : Nat → List (S45) → Int → List (S45) → Int → Int → ByteArray → Int → Option (Int)
 | 0, _, _, _, _, _, _, _ => none
 | k + 1, x0, x5, x8, x9, x10, x389000, x389001 => if x10 < x9 then (if 0 ≤ x10 then (if x10 < (x8.length : Int) then (if ((rd_T45 x8 x10).f0).toList = x389000.toList then (if ((rd_T45 x8 x10).f1) ≥ x389001 then (if x5 < 0 then (impl_bestCoil.l0 k x0 x10 x8 x9 (wrap64 (x10 + 1)) x389000 x389001) else (if 0 ≤ x5 then (if x5 < (x0.length : Int) then (if ((rd_T45 x8 x10).f1) < ((rd_T45 x0 x5).f1) then (impl_bestCoil.l0 k x0 x10 x8 x9 (wrap64 (x10 + 1)) x389000 x389001) else (impl_bestCoil.l0 k x0 x5 x8 x9 (wrap64 (x10 + 1)) x389000 x389001)) else (none)) else (none))) else (impl_bestCoil.l0 k x0 x5 x8 x9 (wrap64 (x10 + 1)) x389000 x389001)) else (impl_bestCoil.l0 k x0 x5 x8 x9 (wrap64 (x10 + 1)) x389000 x389001)) else (none)) else (none)) else (some x5)
def impl_bestCoil.f (k : Nat) (l0 : List (S45)) (a1_0 : ByteArray) (a1_1 : Int) : Option (Int) := impl_bestCoil.l0 k l0 (-1) l0 (l0.length : Int) 0 a1_0 a1_1
theorem impl_bestCoil.mono_l : ∀ k, (∀ y0 y1 y2 y3 y4 y5 y6, LeO (impl_bestCoil.l0 k y0 y1 y2 y3 y4 y5 y6) (impl_bestCoil.l0 (k + 1) y0 y1 y2 y3 y4 y5 y6))
 | 0 => fun _ _ _ _ _ _ _ r h => by simp [impl_bestCoil.l0] at h
 | k + 1 => by
  have ih0 := impl_bestCoil.mono_l k
  ·intro y0 y1 y2 y3 y4 y5 y6
   unfold impl_bestCoil.l0
   repeat' first
   | (with_reducible exact ih0 _ _ _ _ _ _ _)
   | (with_reducible exact LeO.refl _)
   | (with_reducible exact LeO.none _)
   | (with_reducible refine LeO.ite ?_ ?_)
   | (with_reducible refine LeO.bind ?_ (fun _ => ?_))
   | exact ih0 _ _ _ _ _ _ _
   | exact LeO.none _
   | refine LeO.ite ?_ ?_
   | refine LeO.bind ?_ (fun _ => ?_)
theorem impl_bestCoil.mono : ∀ a0 a1 a2 k, LeO (impl_bestCoil.f k a0 a1 a2) (impl_bestCoil.f (k + 1) a0 a1 a2) := by
 intro a0 a1 a2 k
 have ih0 := impl_bestCoil.mono_l k
 unfold impl_bestCoil.f
 repeat' first
   | (with_reducible exact ih0 _ _ _ _ _ _ _)
   | (with_reducible exact LeO.refl _)
   | (with_reducible exact LeO.none _)
   | (with_reducible refine LeO.ite ?_ ?_)
   | (with_reducible refine LeO.bind ?_ (fun _ => ?_))
   | exact ih0 _ _ _ _ _ _ _
   | exact LeO.none _
   | refine LeO.ite ?_ ?_
   | refine LeO.bind ?_ (fun _ => ?_)
set_option maxHeartbeats 8000000 in
set_option maxRecDepth 100000 in
theorem impl_bestCoil.calls (k : Nat) (A0 : Option Addr) (c0 : Nat) (l0 : List (S45)) (a1_0 : ByteArray) (a1_1 : Int) (r : Int) (w : World) (hr0 : Kd.C k45 w A0 l0.length l0) (hc0 : l0.length ≤ c0) (h : impl_bestCoil.f k l0 a1_0 a1_1 = some r) :
  Calls Try.prog 70 #[.slice A0 l0.length c0, .agg #[.string a1_0, .int .i64 a1_1]] w fun e w' => e = .returned (.int .i64 r) ∧ Below w.heap.size w w' := by
 have hu55 := Try.underlying55
 have hu45 := Try.underlying45
 have HR0 := Aside0.mk hr0
 have HC0 := Aside0.mk hc0
 clear hr0 hc0
 have HB := Aside0.mk (Below.refl w.heap.size w)
 have H : (impl_bestCoil.l0 k l0 (-1) l0 (l0.length : Int) 0 a1_0 a1_1) = some r := h
 clear h
 have H' := Aside0.mk H
 clear H
 go_enter Try.func70, Try.ntmps70
 go_wp2_with (first | ((with_reducible refine gate_dst (N := 3) rfl ?_); refine box_event ?hg (N := 3) ?hd (cs := #[.string a1_0, .int .i64 a1_1]) (t := 55) ?hr ?_; (case hd => rfl); (case hg => rfl); (case hr => first | (go_simp; done) | (go_simp; rfl)); intro gb388 hg w3 hbox hb; have n0_ := Aside0.mk (below_step hb_ hb); have n1_ := Aside0.mk (hbox); have n2_ := Aside0.mk ((by rw [hg]; exact (below_size hb_) : w.heap.size ≤ gb388)); have n3_ := Aside0.mk ((by rw [hg]; exact (below_size hb_) : w.heap.size ≤ gb388)); clear HB; have HB := n0_; have BK388 := n1_; have GW388 := n2_; have GE388 := n3_; clear n0_ n1_ n2_ n3_; clear hb hbox hg))
 repeat (go_quiet (first | ((with_reducible refine gate_dst (N := 3) rfl ?_); refine box_event ?hg (N := 3) ?hd (cs := #[.string a1_0, .int .i64 a1_1]) (t := 55) ?hr ?_; (case hd => rfl); (case hg => rfl); (case hr => first | (go_simp; done) | (go_simp; rfl)); intro gb388 hg w3 hbox hb; have n0_ := Aside0.mk (below_step hb_ hb); have n1_ := Aside0.mk (hbox); have n2_ := Aside0.mk ((by rw [hg]; exact (below_size hb_) : w.heap.size ≤ gb388)); have n3_ := Aside0.mk ((by rw [hg]; exact (below_size hb_) : w.heap.size ≤ gb388)); clear HB; have HB := n0_; have BK388 := n1_; have GW388 := n2_; have GE388 := n3_; clear n0_ n1_ n2_ n3_; clear hb hbox hg)); try go_wp2_with (first | ((with_reducible refine gate_dst (N := 3) rfl ?_); refine box_event ?hg (N := 3) ?hd (cs := #[.string a1_0, .int .i64 a1_1]) (t := 55) ?hr ?_; (case hd => rfl); (case hg => rfl); (case hr => first | (go_simp; done) | (go_simp; rfl)); intro gb388 hg w3 hbox hb; have n0_ := Aside0.mk (below_step hb_ hb); have n1_ := Aside0.mk (hbox); have n2_ := Aside0.mk ((by rw [hg]; exact (below_size hb_) : w.heap.size ≤ gb388)); have n3_ := Aside0.mk ((by rw [hg]; exact (below_size hb_) : w.heap.size ≤ gb388)); clear HB; have HB := n0_; have BK388 := n1_; have GW388 := n2_; have GE388 := n3_; clear n0_ n1_ n2_ n3_; clear hb hbox hg)))
 go_loopg [5, 10] k (fun kq v5 v10 w' => ∃ (x5_1 : Int) (x10_1 : Int), v5 = .int .i64 x5_1 ∧ v10 = .int .i64 x10_1 ∧ Aside0 (impl_bestCoil.l0 kq l0 x5_1 l0 (l0.length : Int) x10_1 a1_0 a1_1 = some r) ∧ Aside0 (kq ≤ k) ∧ Aside0 (w'.heap[gb388]? = some (.cells #[.string a1_0, .int .i64 a1_1] 55 (0, 0))) ∧ Aside0 (Below w.heap.size w w'))
 case atStart => exact ⟨((-1)), (0), (by first | rfl | (simp; done) | (simp [*]; done)), (by first | rfl | (simp; done) | (simp [*]; done)), H', ⟨Nat.le_refl _⟩, ⟨by (with_reducible repeat (first | refine blk_drewN ?_ _ | refine blk_drew ?_ | refine blk_alloc ?_ _)); exact BK388.out⟩, ⟨(hg_ GE388)⟩⟩
 case round =>
  clear H'
  try clear p2
  obtain ⟨x5_1, x10_1, rfl, rfl, HA, HK1, BK388, HB⟩ := hrel
  cases gk with
  | zero => exact absurd HA.out (by simp [impl_bestCoil.l0])
  | succ k1 =>
   have H := HA.out
   clear HA
   simp only [impl_bestCoil.l0] at H
   by_cases c4 : x10_1 < (l0.length : Int)
   ·rw [if_pos c4] at H
    have c4b0 : decide (x10_1 < (l0.length : Int)) = true := decide_eq_true c4
    clear c4
    by_cases c5 : 0 ≤ x10_1
    ·rw [if_pos c5] at H
     have c5b0 : decide (0 ≤ x10_1) = true := decide_eq_true c5
     clear c5
     by_cases c6 : x10_1 < (l0.length : Int)
     ·rw [if_pos c6] at H
      have c6b0 : decide (x10_1 < (l0.length : Int)) = true := decide_eq_true c6
      clear c6
      by_cases c7 : ((rd_T45 l0 x10_1).f0).toList = a1_0.toList
      ·rw [if_pos c7] at H
       have c7b0 : (((rd_T45 l0 x10_1).f0).toList == a1_0.toList) = true := beq_iff_eq.mpr c7
       have c7b1 : (((rd_T45 l0 x10_1).f0).toList != a1_0.toList) = false := bne_eq_false_iff_eq.mpr c7
       clear c7
       by_cases c8 : ((rd_T45 l0 x10_1).f1) ≥ a1_1
       ·rw [if_pos c8] at H
        have c8b0 : decide (a1_1 ≤ ((rd_T45 l0 x10_1).f1)) = true := decide_eq_true c8
        clear c8
        by_cases c9 : x5_1 < 0
        ·rw [if_pos c9] at H
         have c9b0 : decide (x5_1 < 0) = true := decide_eq_true c9
         clear c9
         have H' := Aside0.mk H
         clear H
         have p389 : 0 ≤ (x10_1 : Int) := od_
         have q389 : x10_1 < (l0.length : Int) := od_
         obtain ⟨ad389, e389, hx389_0, hx389_1⟩ := at_T45 HR0.out x10_1 p389 q389
         cases e389
         replace hx389_0 := cq_ HB hx389_0
         replace hx389_1 := cq_ HB hx389_1
         replace p389 := eq_true p389
         replace q389 := eq_true q389
         go_wp2_with (first | ((with_reducible refine gate_dst (N := 7) rfl ?_); refine box_event ?hg (N := 7) ?hd (cs := #[.string (⟨#[]⟩ : ByteArray), .int .i64 0]) (t := 45) ?hr ?_; (case hd => rfl); (case hg => rfl); (case hr => first | (go_simp; done) | (go_simp; rfl)); intro gb390 hg w10 hbox hb; have n0_ := Aside0.mk (blk_below (g := gb388) (o := .cells #[.string a1_0, .int .i64 a1_1] 55 (0, 0)) (bk_ BK388) hb); have n1_ := Aside0.mk (below_step (hg_ GE388) hb); have n2_ := Aside0.mk (hbox); have n3_ := Aside0.mk ((by rw [hg]; exact (below_size (hg_ GE388)) : w.heap.size ≤ gb390)); have n4_ := Aside0.mk ((by rw [hg]; exact (below_size (hg_ GE388)) : w.heap.size ≤ gb390)); have n5_ := Aside0.mk ((by rw [hg]; exact Nat.ne_of_lt (blk_lt (g := gb388) (o := .cells #[.string a1_0, .int .i64 a1_1] 55 (0, 0)) (bk_ BK388)) : gb388 ≠ gb390)); have n6_ := Aside0.mk ((by rw [hg]; exact Nat.ne_of_gt (blk_lt (g := gb388) (o := .cells #[.string a1_0, .int .i64 a1_1] 55 (0, 0)) (bk_ BK388)) : gb390 ≠ gb388)); clear BK388; clear HB; have BK388 := n0_; have HB := n1_; have BK390 := n2_; have GW390 := n3_; have GE390 := n4_; have NB388_390 := n5_; have NB390_388 := n6_; clear n0_ n1_ n2_ n3_ n4_ n5_ n6_; clear hb hbox hg; have hnb11 := NB390_388.out; have hnc11 := NB388_390.out; have hcz12_0 : w10.cell? ⟨gb390, 0, none⟩ = some (.string (⟨#[]⟩ : ByteArray)) := (blk_cell BK390.out 0).trans rfl; have hcz12_1 : w10.cell? ⟨gb390, 1, none⟩ = some (.int .i64 0) := (blk_cell BK390.out 1).trans rfl; have hfz12_0 := blk_frozen BK390.out 0; have hfz12_1 := blk_frozen BK390.out 1; have hcz13_0 : w10.cell? ⟨gb388, 0, none⟩ = some (.string a1_0) := (blk_cell BK388.out 0).trans rfl; have hcz13_1 : w10.cell? ⟨gb388, 1, none⟩ = some (.int .i64 a1_1) := (blk_cell BK388.out 1).trans rfl; have hfz13_0 := blk_frozen BK388.out 0; have hfz13_1 := blk_frozen BK388.out 1))
         repeat (go_quiet (first | ((with_reducible refine gate_dst (N := 7) rfl ?_); refine box_event ?hg (N := 7) ?hd (cs := #[.string (⟨#[]⟩ : ByteArray), .int .i64 0]) (t := 45) ?hr ?_; (case hd => rfl); (case hg => rfl); (case hr => first | (go_simp; done) | (go_simp; rfl)); intro gb390 hg w10 hbox hb; have n0_ := Aside0.mk (blk_below (g := gb388) (o := .cells #[.string a1_0, .int .i64 a1_1] 55 (0, 0)) (bk_ BK388) hb); have n1_ := Aside0.mk (below_step (hg_ GE388) hb); have n2_ := Aside0.mk (hbox); have n3_ := Aside0.mk ((by rw [hg]; exact (below_size (hg_ GE388)) : w.heap.size ≤ gb390)); have n4_ := Aside0.mk ((by rw [hg]; exact (below_size (hg_ GE388)) : w.heap.size ≤ gb390)); have n5_ := Aside0.mk ((by rw [hg]; exact Nat.ne_of_lt (blk_lt (g := gb388) (o := .cells #[.string a1_0, .int .i64 a1_1] 55 (0, 0)) (bk_ BK388)) : gb388 ≠ gb390)); have n6_ := Aside0.mk ((by rw [hg]; exact Nat.ne_of_gt (blk_lt (g := gb388) (o := .cells #[.string a1_0, .int .i64 a1_1] 55 (0, 0)) (bk_ BK388)) : gb390 ≠ gb388)); clear BK388; clear HB; have BK388 := n0_; have HB := n1_; have BK390 := n2_; have GW390 := n3_; have GE390 := n4_; have NB388_390 := n5_; have NB390_388 := n6_; clear n0_ n1_ n2_ n3_ n4_ n5_ n6_; clear hb hbox hg; have hnb11 := NB390_388.out; have hnc11 := NB388_390.out; have hcz12_0 : w10.cell? ⟨gb390, 0, none⟩ = some (.string (⟨#[]⟩ : ByteArray)) := (blk_cell BK390.out 0).trans rfl; have hcz12_1 : w10.cell? ⟨gb390, 1, none⟩ = some (.int .i64 0) := (blk_cell BK390.out 1).trans rfl; have hfz12_0 := blk_frozen BK390.out 0; have hfz12_1 := blk_frozen BK390.out 1; have hcz13_0 : w10.cell? ⟨gb388, 0, none⟩ = some (.string a1_0) := (blk_cell BK388.out 0).trans rfl; have hcz13_1 : w10.cell? ⟨gb388, 1, none⟩ = some (.int .i64 a1_1) := (blk_cell BK388.out 1).trans rfl; have hfz13_0 := blk_frozen BK388.out 0; have hfz13_1 := blk_frozen BK388.out 1)); try go_wp2_with (first | ((with_reducible refine gate_dst (N := 7) rfl ?_); refine box_event ?hg (N := 7) ?hd (cs := #[.string (⟨#[]⟩ : ByteArray), .int .i64 0]) (t := 45) ?hr ?_; (case hd => rfl); (case hg => rfl); (case hr => first | (go_simp; done) | (go_simp; rfl)); intro gb390 hg w10 hbox hb; have n0_ := Aside0.mk (blk_below (g := gb388) (o := .cells #[.string a1_0, .int .i64 a1_1] 55 (0, 0)) (bk_ BK388) hb); have n1_ := Aside0.mk (below_step (hg_ GE388) hb); have n2_ := Aside0.mk (hbox); have n3_ := Aside0.mk ((by rw [hg]; exact (below_size (hg_ GE388)) : w.heap.size ≤ gb390)); have n4_ := Aside0.mk ((by rw [hg]; exact (below_size (hg_ GE388)) : w.heap.size ≤ gb390)); have n5_ := Aside0.mk ((by rw [hg]; exact Nat.ne_of_lt (blk_lt (g := gb388) (o := .cells #[.string a1_0, .int .i64 a1_1] 55 (0, 0)) (bk_ BK388)) : gb388 ≠ gb390)); have n6_ := Aside0.mk ((by rw [hg]; exact Nat.ne_of_gt (blk_lt (g := gb388) (o := .cells #[.string a1_0, .int .i64 a1_1] 55 (0, 0)) (bk_ BK388)) : gb390 ≠ gb388)); clear BK388; clear HB; have BK388 := n0_; have HB := n1_; have BK390 := n2_; have GW390 := n3_; have GE390 := n4_; have NB388_390 := n5_; have NB390_388 := n6_; clear n0_ n1_ n2_ n3_ n4_ n5_ n6_; clear hb hbox hg; have hnb11 := NB390_388.out; have hnc11 := NB388_390.out; have hcz12_0 : w10.cell? ⟨gb390, 0, none⟩ = some (.string (⟨#[]⟩ : ByteArray)) := (blk_cell BK390.out 0).trans rfl; have hcz12_1 : w10.cell? ⟨gb390, 1, none⟩ = some (.int .i64 0) := (blk_cell BK390.out 1).trans rfl; have hfz12_0 := blk_frozen BK390.out 0; have hfz12_1 := blk_frozen BK390.out 1; have hcz13_0 : w10.cell? ⟨gb388, 0, none⟩ = some (.string a1_0) := (blk_cell BK388.out 0).trans rfl; have hcz13_1 : w10.cell? ⟨gb388, 1, none⟩ = some (.int .i64 a1_1) := (blk_cell BK388.out 1).trans rfl; have hfz13_0 := blk_frozen BK388.out 0; have hfz13_1 := blk_frozen BK388.out 1)))
         go_roundg k1
         case measure => have := HK1.out; omega
         case rel => exact ⟨(x10_1), (wrap64 (x10_1 + 1)), (by first | rfl | (simp; done) | (simp [*]; done)), (by first | rfl | (simp; done) | (simp [*]; done)), H', ⟨by have := HK1.out; omega⟩, ⟨by (with_reducible repeat (first | refine blk_drewN ?_ _ | refine blk_drew ?_ | refine blk_alloc ?_ _)); refine blk_far ?_ NB388_390.out _; (with_reducible repeat (first | refine blk_drewN ?_ _ | refine blk_drew ?_ | refine blk_alloc ?_ _)); refine blk_far ?_ NB388_390.out _; (with_reducible repeat (first | refine blk_drewN ?_ _ | refine blk_drew ?_ | refine blk_alloc ?_ _)); exact BK388.out⟩, ⟨(hg2_ GE388 GE390)⟩⟩
        ·rw [if_neg c9] at H
         have c9b0 : decide (x5_1 < 0) = false := decide_eq_false c9
         clear c9
         by_cases c14 : 0 ≤ x5_1
         ·rw [if_pos c14] at H
          have c14b0 : decide (0 ≤ x5_1) = true := decide_eq_true c14
          clear c14
          by_cases c15 : x5_1 < (l0.length : Int)
          ·rw [if_pos c15] at H
           have c15b0 : decide (x5_1 < (l0.length : Int)) = true := decide_eq_true c15
           clear c15
           by_cases c16 : ((rd_T45 l0 x10_1).f1) < ((rd_T45 l0 x5_1).f1)
           ·rw [if_pos c16] at H
            have c16b0 : decide (((rd_T45 l0 x10_1).f1) < ((rd_T45 l0 x5_1).f1)) = true := decide_eq_true c16
            clear c16
            have H' := Aside0.mk H
            clear H
            have p389 : 0 ≤ (x10_1 : Int) := od_
            have q389 : x10_1 < (l0.length : Int) := od_
            obtain ⟨ad389, e389, hx389_0, hx389_1⟩ := at_T45 HR0.out x10_1 p389 q389
            cases e389
            replace hx389_0 := cq_ HB hx389_0
            replace hx389_1 := cq_ HB hx389_1
            replace p389 := eq_true p389
            replace q389 := eq_true q389
            go_wp2_with (first | ((with_reducible refine gate_dst (N := 7) rfl ?_); refine box_event ?hg (N := 7) ?hd (cs := #[.string (⟨#[]⟩ : ByteArray), .int .i64 0]) (t := 45) ?hr ?_; (case hd => rfl); (case hg => rfl); (case hr => first | (go_simp; done) | (go_simp; rfl)); intro gb390 hg w17 hbox hb; have n0_ := Aside0.mk (blk_below (g := gb388) (o := .cells #[.string a1_0, .int .i64 a1_1] 55 (0, 0)) (bk_ BK388) hb); have n1_ := Aside0.mk (below_step (hg_ GE388) hb); have n2_ := Aside0.mk (hbox); have n3_ := Aside0.mk ((by rw [hg]; exact (below_size (hg_ GE388)) : w.heap.size ≤ gb390)); have n4_ := Aside0.mk ((by rw [hg]; exact (below_size (hg_ GE388)) : w.heap.size ≤ gb390)); have n5_ := Aside0.mk ((by rw [hg]; exact Nat.ne_of_lt (blk_lt (g := gb388) (o := .cells #[.string a1_0, .int .i64 a1_1] 55 (0, 0)) (bk_ BK388)) : gb388 ≠ gb390)); have n6_ := Aside0.mk ((by rw [hg]; exact Nat.ne_of_gt (blk_lt (g := gb388) (o := .cells #[.string a1_0, .int .i64 a1_1] 55 (0, 0)) (bk_ BK388)) : gb390 ≠ gb388)); clear BK388; clear HB; have BK388 := n0_; have HB := n1_; have BK390 := n2_; have GW390 := n3_; have GE390 := n4_; have NB388_390 := n5_; have NB390_388 := n6_; clear n0_ n1_ n2_ n3_ n4_ n5_ n6_; clear hb hbox hg; have hnb18 := NB390_388.out; have hnc18 := NB388_390.out; have hcz19_0 : w17.cell? ⟨gb390, 0, none⟩ = some (.string (⟨#[]⟩ : ByteArray)) := (blk_cell BK390.out 0).trans rfl; have hcz19_1 : w17.cell? ⟨gb390, 1, none⟩ = some (.int .i64 0) := (blk_cell BK390.out 1).trans rfl; have hfz19_0 := blk_frozen BK390.out 0; have hfz19_1 := blk_frozen BK390.out 1; have hcz20_0 : w17.cell? ⟨gb388, 0, none⟩ = some (.string a1_0) := (blk_cell BK388.out 0).trans rfl; have hcz20_1 : w17.cell? ⟨gb388, 1, none⟩ = some (.int .i64 a1_1) := (blk_cell BK388.out 1).trans rfl; have hfz20_0 := blk_frozen BK388.out 0; have hfz20_1 := blk_frozen BK388.out 1; have p391 : 0 ≤ (x5_1 : Int) := od_; have q391 : x5_1 < (l0.length : Int) := od_; obtain ⟨ad391, e391, hx391_0, hx391_1⟩ := at_T45 HR0.out x5_1 p391 q391; obtain rfl : ad389 = ad391 := (by injection e391); have hn391_0 : ad389.block ≠ gb390 := Nat.ne_of_lt (Nat.lt_of_lt_of_le (by have := World.block_lt_of_cell? _ _ hx391_0; first | rwa [add_block] at this | exact this) GW390.out); have hn391_1 : ad389.block ≠ gb390 := Nat.ne_of_lt (Nat.lt_of_lt_of_le (by have := World.block_lt_of_cell? _ _ hx391_0; first | rwa [add_block] at this | exact this) GW390.out); replace hx391_0 := cq_ HB hx391_0; replace hx391_1 := cq_ HB hx391_1; replace hx391_0 := (cell_far (p := ⟨gb390, 0, none⟩) (by first | (rw [add_block]; exact hn391_0) | (show (Addr.add _ _).block ≠ _; rw [add_block]; exact hn391_0) | exact hn391_0) (.string ((rd_T45 l0 x10_1).f0))).trans hx391_0; replace hx391_1 := (cell_far (p := ⟨gb390, 0, none⟩) (by first | (rw [add_block]; exact hn391_0) | (show (Addr.add _ _).block ≠ _; rw [add_block]; exact hn391_0) | exact hn391_0) (.string ((rd_T45 l0 x10_1).f0))).trans hx391_1; replace hx391_0 := (cell_far (p := ⟨gb390, 1, none⟩) (by first | (rw [add_block]; exact hn391_1) | (show (Addr.add _ _).block ≠ _; rw [add_block]; exact hn391_1) | exact hn391_1) (.int .i64 ((rd_T45 l0 x10_1).f1))).trans hx391_0; replace hx391_1 := (cell_far (p := ⟨gb390, 1, none⟩) (by first | (rw [add_block]; exact hn391_1) | (show (Addr.add _ _).block ≠ _; rw [add_block]; exact hn391_1) | exact hn391_1) (.int .i64 ((rd_T45 l0 x10_1).f1))).trans hx391_1; (try have hy391_0 := fun (n_ : Nat) => (show ((((w17.drewN n_).setCell ⟨gb390, 0, none⟩ (.string ((rd_T45 l0 x10_1).f0))).setCell ⟨gb390, 1, none⟩ (.int .i64 ((rd_T45 l0 x10_1).f1)))).cell? _ = some _ from hx391_0)); (try have hy391_1 := fun (n_ : Nat) => (show ((((w17.drewN n_).setCell ⟨gb390, 0, none⟩ (.string ((rd_T45 l0 x10_1).f0))).setCell ⟨gb390, 1, none⟩ (.int .i64 ((rd_T45 l0 x10_1).f1)))).cell? _ = some _ from hx391_1)); clear hn391_0; clear hn391_1; replace p391 := eq_true p391; replace q391 := eq_true q391))
            repeat (go_quiet (first | ((with_reducible refine gate_dst (N := 7) rfl ?_); refine box_event ?hg (N := 7) ?hd (cs := #[.string (⟨#[]⟩ : ByteArray), .int .i64 0]) (t := 45) ?hr ?_; (case hd => rfl); (case hg => rfl); (case hr => first | (go_simp; done) | (go_simp; rfl)); intro gb390 hg w17 hbox hb; have n0_ := Aside0.mk (blk_below (g := gb388) (o := .cells #[.string a1_0, .int .i64 a1_1] 55 (0, 0)) (bk_ BK388) hb); have n1_ := Aside0.mk (below_step (hg_ GE388) hb); have n2_ := Aside0.mk (hbox); have n3_ := Aside0.mk ((by rw [hg]; exact (below_size (hg_ GE388)) : w.heap.size ≤ gb390)); have n4_ := Aside0.mk ((by rw [hg]; exact (below_size (hg_ GE388)) : w.heap.size ≤ gb390)); have n5_ := Aside0.mk ((by rw [hg]; exact Nat.ne_of_lt (blk_lt (g := gb388) (o := .cells #[.string a1_0, .int .i64 a1_1] 55 (0, 0)) (bk_ BK388)) : gb388 ≠ gb390)); have n6_ := Aside0.mk ((by rw [hg]; exact Nat.ne_of_gt (blk_lt (g := gb388) (o := .cells #[.string a1_0, .int .i64 a1_1] 55 (0, 0)) (bk_ BK388)) : gb390 ≠ gb388)); clear BK388; clear HB; have BK388 := n0_; have HB := n1_; have BK390 := n2_; have GW390 := n3_; have GE390 := n4_; have NB388_390 := n5_; have NB390_388 := n6_; clear n0_ n1_ n2_ n3_ n4_ n5_ n6_; clear hb hbox hg; have hnb18 := NB390_388.out; have hnc18 := NB388_390.out; have hcz19_0 : w17.cell? ⟨gb390, 0, none⟩ = some (.string (⟨#[]⟩ : ByteArray)) := (blk_cell BK390.out 0).trans rfl; have hcz19_1 : w17.cell? ⟨gb390, 1, none⟩ = some (.int .i64 0) := (blk_cell BK390.out 1).trans rfl; have hfz19_0 := blk_frozen BK390.out 0; have hfz19_1 := blk_frozen BK390.out 1; have hcz20_0 : w17.cell? ⟨gb388, 0, none⟩ = some (.string a1_0) := (blk_cell BK388.out 0).trans rfl; have hcz20_1 : w17.cell? ⟨gb388, 1, none⟩ = some (.int .i64 a1_1) := (blk_cell BK388.out 1).trans rfl; have hfz20_0 := blk_frozen BK388.out 0; have hfz20_1 := blk_frozen BK388.out 1; have p391 : 0 ≤ (x5_1 : Int) := od_; have q391 : x5_1 < (l0.length : Int) := od_; obtain ⟨ad391, e391, hx391_0, hx391_1⟩ := at_T45 HR0.out x5_1 p391 q391; obtain rfl : ad389 = ad391 := (by injection e391); have hn391_0 : ad389.block ≠ gb390 := Nat.ne_of_lt (Nat.lt_of_lt_of_le (by have := World.block_lt_of_cell? _ _ hx391_0; first | rwa [add_block] at this | exact this) GW390.out); have hn391_1 : ad389.block ≠ gb390 := Nat.ne_of_lt (Nat.lt_of_lt_of_le (by have := World.block_lt_of_cell? _ _ hx391_0; first | rwa [add_block] at this | exact this) GW390.out); replace hx391_0 := cq_ HB hx391_0; replace hx391_1 := cq_ HB hx391_1; replace hx391_0 := (cell_far (p := ⟨gb390, 0, none⟩) (by first | (rw [add_block]; exact hn391_0) | (show (Addr.add _ _).block ≠ _; rw [add_block]; exact hn391_0) | exact hn391_0) (.string ((rd_T45 l0 x10_1).f0))).trans hx391_0; replace hx391_1 := (cell_far (p := ⟨gb390, 0, none⟩) (by first | (rw [add_block]; exact hn391_0) | (show (Addr.add _ _).block ≠ _; rw [add_block]; exact hn391_0) | exact hn391_0) (.string ((rd_T45 l0 x10_1).f0))).trans hx391_1; replace hx391_0 := (cell_far (p := ⟨gb390, 1, none⟩) (by first | (rw [add_block]; exact hn391_1) | (show (Addr.add _ _).block ≠ _; rw [add_block]; exact hn391_1) | exact hn391_1) (.int .i64 ((rd_T45 l0 x10_1).f1))).trans hx391_0; replace hx391_1 := (cell_far (p := ⟨gb390, 1, none⟩) (by first | (rw [add_block]; exact hn391_1) | (show (Addr.add _ _).block ≠ _; rw [add_block]; exact hn391_1) | exact hn391_1) (.int .i64 ((rd_T45 l0 x10_1).f1))).trans hx391_1; (try have hy391_0 := fun (n_ : Nat) => (show ((((w17.drewN n_).setCell ⟨gb390, 0, none⟩ (.string ((rd_T45 l0 x10_1).f0))).setCell ⟨gb390, 1, none⟩ (.int .i64 ((rd_T45 l0 x10_1).f1)))).cell? _ = some _ from hx391_0)); (try have hy391_1 := fun (n_ : Nat) => (show ((((w17.drewN n_).setCell ⟨gb390, 0, none⟩ (.string ((rd_T45 l0 x10_1).f0))).setCell ⟨gb390, 1, none⟩ (.int .i64 ((rd_T45 l0 x10_1).f1)))).cell? _ = some _ from hx391_1)); clear hn391_0; clear hn391_1; replace p391 := eq_true p391; replace q391 := eq_true q391)); try go_wp2_with (first | ((with_reducible refine gate_dst (N := 7) rfl ?_); refine box_event ?hg (N := 7) ?hd (cs := #[.string (⟨#[]⟩ : ByteArray), .int .i64 0]) (t := 45) ?hr ?_; (case hd => rfl); (case hg => rfl); (case hr => first | (go_simp; done) | (go_simp; rfl)); intro gb390 hg w17 hbox hb; have n0_ := Aside0.mk (blk_below (g := gb388) (o := .cells #[.string a1_0, .int .i64 a1_1] 55 (0, 0)) (bk_ BK388) hb); have n1_ := Aside0.mk (below_step (hg_ GE388) hb); have n2_ := Aside0.mk (hbox); have n3_ := Aside0.mk ((by rw [hg]; exact (below_size (hg_ GE388)) : w.heap.size ≤ gb390)); have n4_ := Aside0.mk ((by rw [hg]; exact (below_size (hg_ GE388)) : w.heap.size ≤ gb390)); have n5_ := Aside0.mk ((by rw [hg]; exact Nat.ne_of_lt (blk_lt (g := gb388) (o := .cells #[.string a1_0, .int .i64 a1_1] 55 (0, 0)) (bk_ BK388)) : gb388 ≠ gb390)); have n6_ := Aside0.mk ((by rw [hg]; exact Nat.ne_of_gt (blk_lt (g := gb388) (o := .cells #[.string a1_0, .int .i64 a1_1] 55 (0, 0)) (bk_ BK388)) : gb390 ≠ gb388)); clear BK388; clear HB; have BK388 := n0_; have HB := n1_; have BK390 := n2_; have GW390 := n3_; have GE390 := n4_; have NB388_390 := n5_; have NB390_388 := n6_; clear n0_ n1_ n2_ n3_ n4_ n5_ n6_; clear hb hbox hg; have hnb18 := NB390_388.out; have hnc18 := NB388_390.out; have hcz19_0 : w17.cell? ⟨gb390, 0, none⟩ = some (.string (⟨#[]⟩ : ByteArray)) := (blk_cell BK390.out 0).trans rfl; have hcz19_1 : w17.cell? ⟨gb390, 1, none⟩ = some (.int .i64 0) := (blk_cell BK390.out 1).trans rfl; have hfz19_0 := blk_frozen BK390.out 0; have hfz19_1 := blk_frozen BK390.out 1; have hcz20_0 : w17.cell? ⟨gb388, 0, none⟩ = some (.string a1_0) := (blk_cell BK388.out 0).trans rfl; have hcz20_1 : w17.cell? ⟨gb388, 1, none⟩ = some (.int .i64 a1_1) := (blk_cell BK388.out 1).trans rfl; have hfz20_0 := blk_frozen BK388.out 0; have hfz20_1 := blk_frozen BK388.out 1; have p391 : 0 ≤ (x5_1 : Int) := od_; have q391 : x5_1 < (l0.length : Int) := od_; obtain ⟨ad391, e391, hx391_0, hx391_1⟩ := at_T45 HR0.out x5_1 p391 q391; obtain rfl : ad389 = ad391 := (by injection e391); have hn391_0 : ad389.block ≠ gb390 := Nat.ne_of_lt (Nat.lt_of_lt_of_le (by have := World.block_lt_of_cell? _ _ hx391_0; first | rwa [add_block] at this | exact this) GW390.out); have hn391_1 : ad389.block ≠ gb390 := Nat.ne_of_lt (Nat.lt_of_lt_of_le (by have := World.block_lt_of_cell? _ _ hx391_0; first | rwa [add_block] at this | exact this) GW390.out); replace hx391_0 := cq_ HB hx391_0; replace hx391_1 := cq_ HB hx391_1; replace hx391_0 := (cell_far (p := ⟨gb390, 0, none⟩) (by first | (rw [add_block]; exact hn391_0) | (show (Addr.add _ _).block ≠ _; rw [add_block]; exact hn391_0) | exact hn391_0) (.string ((rd_T45 l0 x10_1).f0))).trans hx391_0; replace hx391_1 := (cell_far (p := ⟨gb390, 0, none⟩) (by first | (rw [add_block]; exact hn391_0) | (show (Addr.add _ _).block ≠ _; rw [add_block]; exact hn391_0) | exact hn391_0) (.string ((rd_T45 l0 x10_1).f0))).trans hx391_1; replace hx391_0 := (cell_far (p := ⟨gb390, 1, none⟩) (by first | (rw [add_block]; exact hn391_1) | (show (Addr.add _ _).block ≠ _; rw [add_block]; exact hn391_1) | exact hn391_1) (.int .i64 ((rd_T45 l0 x10_1).f1))).trans hx391_0; replace hx391_1 := (cell_far (p := ⟨gb390, 1, none⟩) (by first | (rw [add_block]; exact hn391_1) | (show (Addr.add _ _).block ≠ _; rw [add_block]; exact hn391_1) | exact hn391_1) (.int .i64 ((rd_T45 l0 x10_1).f1))).trans hx391_1; (try have hy391_0 := fun (n_ : Nat) => (show ((((w17.drewN n_).setCell ⟨gb390, 0, none⟩ (.string ((rd_T45 l0 x10_1).f0))).setCell ⟨gb390, 1, none⟩ (.int .i64 ((rd_T45 l0 x10_1).f1)))).cell? _ = some _ from hx391_0)); (try have hy391_1 := fun (n_ : Nat) => (show ((((w17.drewN n_).setCell ⟨gb390, 0, none⟩ (.string ((rd_T45 l0 x10_1).f0))).setCell ⟨gb390, 1, none⟩ (.int .i64 ((rd_T45 l0 x10_1).f1)))).cell? _ = some _ from hx391_1)); clear hn391_0; clear hn391_1; replace p391 := eq_true p391; replace q391 := eq_true q391)))
            go_roundg k1
            case measure => have := HK1.out; omega
            case rel => exact ⟨(x10_1), (wrap64 (x10_1 + 1)), (by first | rfl | (simp; done) | (simp [*]; done)), (by first | rfl | (simp; done) | (simp [*]; done)), H', ⟨by have := HK1.out; omega⟩, ⟨by (with_reducible repeat (first | refine blk_drewN ?_ _ | refine blk_drew ?_ | refine blk_alloc ?_ _)); refine blk_far ?_ NB388_390.out _; (with_reducible repeat (first | refine blk_drewN ?_ _ | refine blk_drew ?_ | refine blk_alloc ?_ _)); refine blk_far ?_ NB388_390.out _; (with_reducible repeat (first | refine blk_drewN ?_ _ | refine blk_drew ?_ | refine blk_alloc ?_ _)); exact BK388.out⟩, ⟨(hg2_ GE388 GE390)⟩⟩
           ·rw [if_neg c16] at H
            have c16b0 : decide (((rd_T45 l0 x10_1).f1) < ((rd_T45 l0 x5_1).f1)) = false := decide_eq_false c16
            clear c16
            have H' := Aside0.mk H
            clear H
            have p389 : 0 ≤ (x10_1 : Int) := od_
            have q389 : x10_1 < (l0.length : Int) := od_
            obtain ⟨ad389, e389, hx389_0, hx389_1⟩ := at_T45 HR0.out x10_1 p389 q389
            cases e389
            replace hx389_0 := cq_ HB hx389_0
            replace hx389_1 := cq_ HB hx389_1
            replace p389 := eq_true p389
            replace q389 := eq_true q389
            go_wp2_with (first | ((with_reducible refine gate_dst (N := 7) rfl ?_); refine box_event ?hg (N := 7) ?hd (cs := #[.string (⟨#[]⟩ : ByteArray), .int .i64 0]) (t := 45) ?hr ?_; (case hd => rfl); (case hg => rfl); (case hr => first | (go_simp; done) | (go_simp; rfl)); intro gb390 hg w21 hbox hb; have n0_ := Aside0.mk (blk_below (g := gb388) (o := .cells #[.string a1_0, .int .i64 a1_1] 55 (0, 0)) (bk_ BK388) hb); have n1_ := Aside0.mk (below_step (hg_ GE388) hb); have n2_ := Aside0.mk (hbox); have n3_ := Aside0.mk ((by rw [hg]; exact (below_size (hg_ GE388)) : w.heap.size ≤ gb390)); have n4_ := Aside0.mk ((by rw [hg]; exact (below_size (hg_ GE388)) : w.heap.size ≤ gb390)); have n5_ := Aside0.mk ((by rw [hg]; exact Nat.ne_of_lt (blk_lt (g := gb388) (o := .cells #[.string a1_0, .int .i64 a1_1] 55 (0, 0)) (bk_ BK388)) : gb388 ≠ gb390)); have n6_ := Aside0.mk ((by rw [hg]; exact Nat.ne_of_gt (blk_lt (g := gb388) (o := .cells #[.string a1_0, .int .i64 a1_1] 55 (0, 0)) (bk_ BK388)) : gb390 ≠ gb388)); clear BK388; clear HB; have BK388 := n0_; have HB := n1_; have BK390 := n2_; have GW390 := n3_; have GE390 := n4_; have NB388_390 := n5_; have NB390_388 := n6_; clear n0_ n1_ n2_ n3_ n4_ n5_ n6_; clear hb hbox hg; have hnb22 := NB390_388.out; have hnc22 := NB388_390.out; have hcz23_0 : w21.cell? ⟨gb390, 0, none⟩ = some (.string (⟨#[]⟩ : ByteArray)) := (blk_cell BK390.out 0).trans rfl; have hcz23_1 : w21.cell? ⟨gb390, 1, none⟩ = some (.int .i64 0) := (blk_cell BK390.out 1).trans rfl; have hfz23_0 := blk_frozen BK390.out 0; have hfz23_1 := blk_frozen BK390.out 1; have hcz24_0 : w21.cell? ⟨gb388, 0, none⟩ = some (.string a1_0) := (blk_cell BK388.out 0).trans rfl; have hcz24_1 : w21.cell? ⟨gb388, 1, none⟩ = some (.int .i64 a1_1) := (blk_cell BK388.out 1).trans rfl; have hfz24_0 := blk_frozen BK388.out 0; have hfz24_1 := blk_frozen BK388.out 1; have p391 : 0 ≤ (x5_1 : Int) := od_; have q391 : x5_1 < (l0.length : Int) := od_; obtain ⟨ad391, e391, hx391_0, hx391_1⟩ := at_T45 HR0.out x5_1 p391 q391; obtain rfl : ad389 = ad391 := (by injection e391); have hn391_0 : ad389.block ≠ gb390 := Nat.ne_of_lt (Nat.lt_of_lt_of_le (by have := World.block_lt_of_cell? _ _ hx391_0; first | rwa [add_block] at this | exact this) GW390.out); have hn391_1 : ad389.block ≠ gb390 := Nat.ne_of_lt (Nat.lt_of_lt_of_le (by have := World.block_lt_of_cell? _ _ hx391_0; first | rwa [add_block] at this | exact this) GW390.out); replace hx391_0 := cq_ HB hx391_0; replace hx391_1 := cq_ HB hx391_1; replace hx391_0 := (cell_far (p := ⟨gb390, 0, none⟩) (by first | (rw [add_block]; exact hn391_0) | (show (Addr.add _ _).block ≠ _; rw [add_block]; exact hn391_0) | exact hn391_0) (.string ((rd_T45 l0 x10_1).f0))).trans hx391_0; replace hx391_1 := (cell_far (p := ⟨gb390, 0, none⟩) (by first | (rw [add_block]; exact hn391_0) | (show (Addr.add _ _).block ≠ _; rw [add_block]; exact hn391_0) | exact hn391_0) (.string ((rd_T45 l0 x10_1).f0))).trans hx391_1; replace hx391_0 := (cell_far (p := ⟨gb390, 1, none⟩) (by first | (rw [add_block]; exact hn391_1) | (show (Addr.add _ _).block ≠ _; rw [add_block]; exact hn391_1) | exact hn391_1) (.int .i64 ((rd_T45 l0 x10_1).f1))).trans hx391_0; replace hx391_1 := (cell_far (p := ⟨gb390, 1, none⟩) (by first | (rw [add_block]; exact hn391_1) | (show (Addr.add _ _).block ≠ _; rw [add_block]; exact hn391_1) | exact hn391_1) (.int .i64 ((rd_T45 l0 x10_1).f1))).trans hx391_1; (try have hy391_0 := fun (n_ : Nat) => (show ((((w21.drewN n_).setCell ⟨gb390, 0, none⟩ (.string ((rd_T45 l0 x10_1).f0))).setCell ⟨gb390, 1, none⟩ (.int .i64 ((rd_T45 l0 x10_1).f1)))).cell? _ = some _ from hx391_0)); (try have hy391_1 := fun (n_ : Nat) => (show ((((w21.drewN n_).setCell ⟨gb390, 0, none⟩ (.string ((rd_T45 l0 x10_1).f0))).setCell ⟨gb390, 1, none⟩ (.int .i64 ((rd_T45 l0 x10_1).f1)))).cell? _ = some _ from hx391_1)); clear hn391_0; clear hn391_1; replace p391 := eq_true p391; replace q391 := eq_true q391))
            repeat (go_quiet (first | ((with_reducible refine gate_dst (N := 7) rfl ?_); refine box_event ?hg (N := 7) ?hd (cs := #[.string (⟨#[]⟩ : ByteArray), .int .i64 0]) (t := 45) ?hr ?_; (case hd => rfl); (case hg => rfl); (case hr => first | (go_simp; done) | (go_simp; rfl)); intro gb390 hg w21 hbox hb; have n0_ := Aside0.mk (blk_below (g := gb388) (o := .cells #[.string a1_0, .int .i64 a1_1] 55 (0, 0)) (bk_ BK388) hb); have n1_ := Aside0.mk (below_step (hg_ GE388) hb); have n2_ := Aside0.mk (hbox); have n3_ := Aside0.mk ((by rw [hg]; exact (below_size (hg_ GE388)) : w.heap.size ≤ gb390)); have n4_ := Aside0.mk ((by rw [hg]; exact (below_size (hg_ GE388)) : w.heap.size ≤ gb390)); have n5_ := Aside0.mk ((by rw [hg]; exact Nat.ne_of_lt (blk_lt (g := gb388) (o := .cells #[.string a1_0, .int .i64 a1_1] 55 (0, 0)) (bk_ BK388)) : gb388 ≠ gb390)); have n6_ := Aside0.mk ((by rw [hg]; exact Nat.ne_of_gt (blk_lt (g := gb388) (o := .cells #[.string a1_0, .int .i64 a1_1] 55 (0, 0)) (bk_ BK388)) : gb390 ≠ gb388)); clear BK388; clear HB; have BK388 := n0_; have HB := n1_; have BK390 := n2_; have GW390 := n3_; have GE390 := n4_; have NB388_390 := n5_; have NB390_388 := n6_; clear n0_ n1_ n2_ n3_ n4_ n5_ n6_; clear hb hbox hg; have hnb22 := NB390_388.out; have hnc22 := NB388_390.out; have hcz23_0 : w21.cell? ⟨gb390, 0, none⟩ = some (.string (⟨#[]⟩ : ByteArray)) := (blk_cell BK390.out 0).trans rfl; have hcz23_1 : w21.cell? ⟨gb390, 1, none⟩ = some (.int .i64 0) := (blk_cell BK390.out 1).trans rfl; have hfz23_0 := blk_frozen BK390.out 0; have hfz23_1 := blk_frozen BK390.out 1; have hcz24_0 : w21.cell? ⟨gb388, 0, none⟩ = some (.string a1_0) := (blk_cell BK388.out 0).trans rfl; have hcz24_1 : w21.cell? ⟨gb388, 1, none⟩ = some (.int .i64 a1_1) := (blk_cell BK388.out 1).trans rfl; have hfz24_0 := blk_frozen BK388.out 0; have hfz24_1 := blk_frozen BK388.out 1; have p391 : 0 ≤ (x5_1 : Int) := od_; have q391 : x5_1 < (l0.length : Int) := od_; obtain ⟨ad391, e391, hx391_0, hx391_1⟩ := at_T45 HR0.out x5_1 p391 q391; obtain rfl : ad389 = ad391 := (by injection e391); have hn391_0 : ad389.block ≠ gb390 := Nat.ne_of_lt (Nat.lt_of_lt_of_le (by have := World.block_lt_of_cell? _ _ hx391_0; first | rwa [add_block] at this | exact this) GW390.out); have hn391_1 : ad389.block ≠ gb390 := Nat.ne_of_lt (Nat.lt_of_lt_of_le (by have := World.block_lt_of_cell? _ _ hx391_0; first | rwa [add_block] at this | exact this) GW390.out); replace hx391_0 := cq_ HB hx391_0; replace hx391_1 := cq_ HB hx391_1; replace hx391_0 := (cell_far (p := ⟨gb390, 0, none⟩) (by first | (rw [add_block]; exact hn391_0) | (show (Addr.add _ _).block ≠ _; rw [add_block]; exact hn391_0) | exact hn391_0) (.string ((rd_T45 l0 x10_1).f0))).trans hx391_0; replace hx391_1 := (cell_far (p := ⟨gb390, 0, none⟩) (by first | (rw [add_block]; exact hn391_0) | (show (Addr.add _ _).block ≠ _; rw [add_block]; exact hn391_0) | exact hn391_0) (.string ((rd_T45 l0 x10_1).f0))).trans hx391_1; replace hx391_0 := (cell_far (p := ⟨gb390, 1, none⟩) (by first | (rw [add_block]; exact hn391_1) | (show (Addr.add _ _).block ≠ _; rw [add_block]; exact hn391_1) | exact hn391_1) (.int .i64 ((rd_T45 l0 x10_1).f1))).trans hx391_0; replace hx391_1 := (cell_far (p := ⟨gb390, 1, none⟩) (by first | (rw [add_block]; exact hn391_1) | (show (Addr.add _ _).block ≠ _; rw [add_block]; exact hn391_1) | exact hn391_1) (.int .i64 ((rd_T45 l0 x10_1).f1))).trans hx391_1; (try have hy391_0 := fun (n_ : Nat) => (show ((((w21.drewN n_).setCell ⟨gb390, 0, none⟩ (.string ((rd_T45 l0 x10_1).f0))).setCell ⟨gb390, 1, none⟩ (.int .i64 ((rd_T45 l0 x10_1).f1)))).cell? _ = some _ from hx391_0)); (try have hy391_1 := fun (n_ : Nat) => (show ((((w21.drewN n_).setCell ⟨gb390, 0, none⟩ (.string ((rd_T45 l0 x10_1).f0))).setCell ⟨gb390, 1, none⟩ (.int .i64 ((rd_T45 l0 x10_1).f1)))).cell? _ = some _ from hx391_1)); clear hn391_0; clear hn391_1; replace p391 := eq_true p391; replace q391 := eq_true q391)); try go_wp2_with (first | ((with_reducible refine gate_dst (N := 7) rfl ?_); refine box_event ?hg (N := 7) ?hd (cs := #[.string (⟨#[]⟩ : ByteArray), .int .i64 0]) (t := 45) ?hr ?_; (case hd => rfl); (case hg => rfl); (case hr => first | (go_simp; done) | (go_simp; rfl)); intro gb390 hg w21 hbox hb; have n0_ := Aside0.mk (blk_below (g := gb388) (o := .cells #[.string a1_0, .int .i64 a1_1] 55 (0, 0)) (bk_ BK388) hb); have n1_ := Aside0.mk (below_step (hg_ GE388) hb); have n2_ := Aside0.mk (hbox); have n3_ := Aside0.mk ((by rw [hg]; exact (below_size (hg_ GE388)) : w.heap.size ≤ gb390)); have n4_ := Aside0.mk ((by rw [hg]; exact (below_size (hg_ GE388)) : w.heap.size ≤ gb390)); have n5_ := Aside0.mk ((by rw [hg]; exact Nat.ne_of_lt (blk_lt (g := gb388) (o := .cells #[.string a1_0, .int .i64 a1_1] 55 (0, 0)) (bk_ BK388)) : gb388 ≠ gb390)); have n6_ := Aside0.mk ((by rw [hg]; exact Nat.ne_of_gt (blk_lt (g := gb388) (o := .cells #[.string a1_0, .int .i64 a1_1] 55 (0, 0)) (bk_ BK388)) : gb390 ≠ gb388)); clear BK388; clear HB; have BK388 := n0_; have HB := n1_; have BK390 := n2_; have GW390 := n3_; have GE390 := n4_; have NB388_390 := n5_; have NB390_388 := n6_; clear n0_ n1_ n2_ n3_ n4_ n5_ n6_; clear hb hbox hg; have hnb22 := NB390_388.out; have hnc22 := NB388_390.out; have hcz23_0 : w21.cell? ⟨gb390, 0, none⟩ = some (.string (⟨#[]⟩ : ByteArray)) := (blk_cell BK390.out 0).trans rfl; have hcz23_1 : w21.cell? ⟨gb390, 1, none⟩ = some (.int .i64 0) := (blk_cell BK390.out 1).trans rfl; have hfz23_0 := blk_frozen BK390.out 0; have hfz23_1 := blk_frozen BK390.out 1; have hcz24_0 : w21.cell? ⟨gb388, 0, none⟩ = some (.string a1_0) := (blk_cell BK388.out 0).trans rfl; have hcz24_1 : w21.cell? ⟨gb388, 1, none⟩ = some (.int .i64 a1_1) := (blk_cell BK388.out 1).trans rfl; have hfz24_0 := blk_frozen BK388.out 0; have hfz24_1 := blk_frozen BK388.out 1; have p391 : 0 ≤ (x5_1 : Int) := od_; have q391 : x5_1 < (l0.length : Int) := od_; obtain ⟨ad391, e391, hx391_0, hx391_1⟩ := at_T45 HR0.out x5_1 p391 q391; obtain rfl : ad389 = ad391 := (by injection e391); have hn391_0 : ad389.block ≠ gb390 := Nat.ne_of_lt (Nat.lt_of_lt_of_le (by have := World.block_lt_of_cell? _ _ hx391_0; first | rwa [add_block] at this | exact this) GW390.out); have hn391_1 : ad389.block ≠ gb390 := Nat.ne_of_lt (Nat.lt_of_lt_of_le (by have := World.block_lt_of_cell? _ _ hx391_0; first | rwa [add_block] at this | exact this) GW390.out); replace hx391_0 := cq_ HB hx391_0; replace hx391_1 := cq_ HB hx391_1; replace hx391_0 := (cell_far (p := ⟨gb390, 0, none⟩) (by first | (rw [add_block]; exact hn391_0) | (show (Addr.add _ _).block ≠ _; rw [add_block]; exact hn391_0) | exact hn391_0) (.string ((rd_T45 l0 x10_1).f0))).trans hx391_0; replace hx391_1 := (cell_far (p := ⟨gb390, 0, none⟩) (by first | (rw [add_block]; exact hn391_0) | (show (Addr.add _ _).block ≠ _; rw [add_block]; exact hn391_0) | exact hn391_0) (.string ((rd_T45 l0 x10_1).f0))).trans hx391_1; replace hx391_0 := (cell_far (p := ⟨gb390, 1, none⟩) (by first | (rw [add_block]; exact hn391_1) | (show (Addr.add _ _).block ≠ _; rw [add_block]; exact hn391_1) | exact hn391_1) (.int .i64 ((rd_T45 l0 x10_1).f1))).trans hx391_0; replace hx391_1 := (cell_far (p := ⟨gb390, 1, none⟩) (by first | (rw [add_block]; exact hn391_1) | (show (Addr.add _ _).block ≠ _; rw [add_block]; exact hn391_1) | exact hn391_1) (.int .i64 ((rd_T45 l0 x10_1).f1))).trans hx391_1; (try have hy391_0 := fun (n_ : Nat) => (show ((((w21.drewN n_).setCell ⟨gb390, 0, none⟩ (.string ((rd_T45 l0 x10_1).f0))).setCell ⟨gb390, 1, none⟩ (.int .i64 ((rd_T45 l0 x10_1).f1)))).cell? _ = some _ from hx391_0)); (try have hy391_1 := fun (n_ : Nat) => (show ((((w21.drewN n_).setCell ⟨gb390, 0, none⟩ (.string ((rd_T45 l0 x10_1).f0))).setCell ⟨gb390, 1, none⟩ (.int .i64 ((rd_T45 l0 x10_1).f1)))).cell? _ = some _ from hx391_1)); clear hn391_0; clear hn391_1; replace p391 := eq_true p391; replace q391 := eq_true q391)))
            go_roundg k1
            case measure => have := HK1.out; omega
            case rel => exact ⟨(x5_1), (wrap64 (x10_1 + 1)), (by first | rfl | (simp; done) | (simp [*]; done)), (by first | rfl | (simp; done) | (simp [*]; done)), H', ⟨by have := HK1.out; omega⟩, ⟨by (with_reducible repeat (first | refine blk_drewN ?_ _ | refine blk_drew ?_ | refine blk_alloc ?_ _)); refine blk_far ?_ NB388_390.out _; (with_reducible repeat (first | refine blk_drewN ?_ _ | refine blk_drew ?_ | refine blk_alloc ?_ _)); refine blk_far ?_ NB388_390.out _; (with_reducible repeat (first | refine blk_drewN ?_ _ | refine blk_drew ?_ | refine blk_alloc ?_ _)); exact BK388.out⟩, ⟨(hg2_ GE388 GE390)⟩⟩
          ·rw [if_neg c15] at H
           exact absurd H (by simp)
         ·rw [if_neg c14] at H
          exact absurd H (by simp)
       ·rw [if_neg c8] at H
        have c8b0 : decide (a1_1 ≤ ((rd_T45 l0 x10_1).f1)) = false := decide_eq_false c8
        clear c8
        have H' := Aside0.mk H
        clear H
        have p389 : 0 ≤ (x10_1 : Int) := od_
        have q389 : x10_1 < (l0.length : Int) := od_
        obtain ⟨ad389, e389, hx389_0, hx389_1⟩ := at_T45 HR0.out x10_1 p389 q389
        cases e389
        replace hx389_0 := cq_ HB hx389_0
        replace hx389_1 := cq_ HB hx389_1
        replace p389 := eq_true p389
        replace q389 := eq_true q389
        go_wp2_with (first | ((with_reducible refine gate_dst (N := 7) rfl ?_); refine box_event ?hg (N := 7) ?hd (cs := #[.string (⟨#[]⟩ : ByteArray), .int .i64 0]) (t := 45) ?hr ?_; (case hd => rfl); (case hg => rfl); (case hr => first | (go_simp; done) | (go_simp; rfl)); intro gb390 hg w25 hbox hb; have n0_ := Aside0.mk (blk_below (g := gb388) (o := .cells #[.string a1_0, .int .i64 a1_1] 55 (0, 0)) (bk_ BK388) hb); have n1_ := Aside0.mk (below_step (hg_ GE388) hb); have n2_ := Aside0.mk (hbox); have n3_ := Aside0.mk ((by rw [hg]; exact (below_size (hg_ GE388)) : w.heap.size ≤ gb390)); have n4_ := Aside0.mk ((by rw [hg]; exact (below_size (hg_ GE388)) : w.heap.size ≤ gb390)); have n5_ := Aside0.mk ((by rw [hg]; exact Nat.ne_of_lt (blk_lt (g := gb388) (o := .cells #[.string a1_0, .int .i64 a1_1] 55 (0, 0)) (bk_ BK388)) : gb388 ≠ gb390)); have n6_ := Aside0.mk ((by rw [hg]; exact Nat.ne_of_gt (blk_lt (g := gb388) (o := .cells #[.string a1_0, .int .i64 a1_1] 55 (0, 0)) (bk_ BK388)) : gb390 ≠ gb388)); clear BK388; clear HB; have BK388 := n0_; have HB := n1_; have BK390 := n2_; have GW390 := n3_; have GE390 := n4_; have NB388_390 := n5_; have NB390_388 := n6_; clear n0_ n1_ n2_ n3_ n4_ n5_ n6_; clear hb hbox hg; have hnb26 := NB390_388.out; have hnc26 := NB388_390.out; have hcz27_0 : w25.cell? ⟨gb390, 0, none⟩ = some (.string (⟨#[]⟩ : ByteArray)) := (blk_cell BK390.out 0).trans rfl; have hcz27_1 : w25.cell? ⟨gb390, 1, none⟩ = some (.int .i64 0) := (blk_cell BK390.out 1).trans rfl; have hfz27_0 := blk_frozen BK390.out 0; have hfz27_1 := blk_frozen BK390.out 1; have hcz28_0 : w25.cell? ⟨gb388, 0, none⟩ = some (.string a1_0) := (blk_cell BK388.out 0).trans rfl; have hcz28_1 : w25.cell? ⟨gb388, 1, none⟩ = some (.int .i64 a1_1) := (blk_cell BK388.out 1).trans rfl; have hfz28_0 := blk_frozen BK388.out 0; have hfz28_1 := blk_frozen BK388.out 1))
        repeat (go_quiet (first | ((with_reducible refine gate_dst (N := 7) rfl ?_); refine box_event ?hg (N := 7) ?hd (cs := #[.string (⟨#[]⟩ : ByteArray), .int .i64 0]) (t := 45) ?hr ?_; (case hd => rfl); (case hg => rfl); (case hr => first | (go_simp; done) | (go_simp; rfl)); intro gb390 hg w25 hbox hb; have n0_ := Aside0.mk (blk_below (g := gb388) (o := .cells #[.string a1_0, .int .i64 a1_1] 55 (0, 0)) (bk_ BK388) hb); have n1_ := Aside0.mk (below_step (hg_ GE388) hb); have n2_ := Aside0.mk (hbox); have n3_ := Aside0.mk ((by rw [hg]; exact (below_size (hg_ GE388)) : w.heap.size ≤ gb390)); have n4_ := Aside0.mk ((by rw [hg]; exact (below_size (hg_ GE388)) : w.heap.size ≤ gb390)); have n5_ := Aside0.mk ((by rw [hg]; exact Nat.ne_of_lt (blk_lt (g := gb388) (o := .cells #[.string a1_0, .int .i64 a1_1] 55 (0, 0)) (bk_ BK388)) : gb388 ≠ gb390)); have n6_ := Aside0.mk ((by rw [hg]; exact Nat.ne_of_gt (blk_lt (g := gb388) (o := .cells #[.string a1_0, .int .i64 a1_1] 55 (0, 0)) (bk_ BK388)) : gb390 ≠ gb388)); clear BK388; clear HB; have BK388 := n0_; have HB := n1_; have BK390 := n2_; have GW390 := n3_; have GE390 := n4_; have NB388_390 := n5_; have NB390_388 := n6_; clear n0_ n1_ n2_ n3_ n4_ n5_ n6_; clear hb hbox hg; have hnb26 := NB390_388.out; have hnc26 := NB388_390.out; have hcz27_0 : w25.cell? ⟨gb390, 0, none⟩ = some (.string (⟨#[]⟩ : ByteArray)) := (blk_cell BK390.out 0).trans rfl; have hcz27_1 : w25.cell? ⟨gb390, 1, none⟩ = some (.int .i64 0) := (blk_cell BK390.out 1).trans rfl; have hfz27_0 := blk_frozen BK390.out 0; have hfz27_1 := blk_frozen BK390.out 1; have hcz28_0 : w25.cell? ⟨gb388, 0, none⟩ = some (.string a1_0) := (blk_cell BK388.out 0).trans rfl; have hcz28_1 : w25.cell? ⟨gb388, 1, none⟩ = some (.int .i64 a1_1) := (blk_cell BK388.out 1).trans rfl; have hfz28_0 := blk_frozen BK388.out 0; have hfz28_1 := blk_frozen BK388.out 1)); try go_wp2_with (first | ((with_reducible refine gate_dst (N := 7) rfl ?_); refine box_event ?hg (N := 7) ?hd (cs := #[.string (⟨#[]⟩ : ByteArray), .int .i64 0]) (t := 45) ?hr ?_; (case hd => rfl); (case hg => rfl); (case hr => first | (go_simp; done) | (go_simp; rfl)); intro gb390 hg w25 hbox hb; have n0_ := Aside0.mk (blk_below (g := gb388) (o := .cells #[.string a1_0, .int .i64 a1_1] 55 (0, 0)) (bk_ BK388) hb); have n1_ := Aside0.mk (below_step (hg_ GE388) hb); have n2_ := Aside0.mk (hbox); have n3_ := Aside0.mk ((by rw [hg]; exact (below_size (hg_ GE388)) : w.heap.size ≤ gb390)); have n4_ := Aside0.mk ((by rw [hg]; exact (below_size (hg_ GE388)) : w.heap.size ≤ gb390)); have n5_ := Aside0.mk ((by rw [hg]; exact Nat.ne_of_lt (blk_lt (g := gb388) (o := .cells #[.string a1_0, .int .i64 a1_1] 55 (0, 0)) (bk_ BK388)) : gb388 ≠ gb390)); have n6_ := Aside0.mk ((by rw [hg]; exact Nat.ne_of_gt (blk_lt (g := gb388) (o := .cells #[.string a1_0, .int .i64 a1_1] 55 (0, 0)) (bk_ BK388)) : gb390 ≠ gb388)); clear BK388; clear HB; have BK388 := n0_; have HB := n1_; have BK390 := n2_; have GW390 := n3_; have GE390 := n4_; have NB388_390 := n5_; have NB390_388 := n6_; clear n0_ n1_ n2_ n3_ n4_ n5_ n6_; clear hb hbox hg; have hnb26 := NB390_388.out; have hnc26 := NB388_390.out; have hcz27_0 : w25.cell? ⟨gb390, 0, none⟩ = some (.string (⟨#[]⟩ : ByteArray)) := (blk_cell BK390.out 0).trans rfl; have hcz27_1 : w25.cell? ⟨gb390, 1, none⟩ = some (.int .i64 0) := (blk_cell BK390.out 1).trans rfl; have hfz27_0 := blk_frozen BK390.out 0; have hfz27_1 := blk_frozen BK390.out 1; have hcz28_0 : w25.cell? ⟨gb388, 0, none⟩ = some (.string a1_0) := (blk_cell BK388.out 0).trans rfl; have hcz28_1 : w25.cell? ⟨gb388, 1, none⟩ = some (.int .i64 a1_1) := (blk_cell BK388.out 1).trans rfl; have hfz28_0 := blk_frozen BK388.out 0; have hfz28_1 := blk_frozen BK388.out 1)))
        go_roundg k1
        case measure => have := HK1.out; omega
        case rel => exact ⟨(x5_1), (wrap64 (x10_1 + 1)), (by first | rfl | (simp; done) | (simp [*]; done)), (by first | rfl | (simp; done) | (simp [*]; done)), H', ⟨by have := HK1.out; omega⟩, ⟨by (with_reducible repeat (first | refine blk_drewN ?_ _ | refine blk_drew ?_ | refine blk_alloc ?_ _)); refine blk_far ?_ NB388_390.out _; (with_reducible repeat (first | refine blk_drewN ?_ _ | refine blk_drew ?_ | refine blk_alloc ?_ _)); refine blk_far ?_ NB388_390.out _; (with_reducible repeat (first | refine blk_drewN ?_ _ | refine blk_drew ?_ | refine blk_alloc ?_ _)); exact BK388.out⟩, ⟨(hg2_ GE388 GE390)⟩⟩
      ·rw [if_neg c7] at H
       have c7b0 : (((rd_T45 l0 x10_1).f0).toList == a1_0.toList) = false := beq_eq_false_iff_ne.mpr c7
       have c7b1 : (((rd_T45 l0 x10_1).f0).toList != a1_0.toList) = true := bne_iff_ne.mpr c7
       have H' := Aside0.mk H
       clear H
       have p389 : 0 ≤ (x10_1 : Int) := od_
       have q389 : x10_1 < (l0.length : Int) := od_
       obtain ⟨ad389, e389, hx389_0, hx389_1⟩ := at_T45 HR0.out x10_1 p389 q389
       cases e389
       replace hx389_0 := cq_ HB hx389_0
       replace hx389_1 := cq_ HB hx389_1
       replace p389 := eq_true p389
       replace q389 := eq_true q389
       go_wp2_with (first | ((with_reducible refine gate_dst (N := 7) rfl ?_); refine box_event ?hg (N := 7) ?hd (cs := #[.string (⟨#[]⟩ : ByteArray), .int .i64 0]) (t := 45) ?hr ?_; (case hd => rfl); (case hg => rfl); (case hr => first | (go_simp; done) | (go_simp; rfl)); intro gb390 hg w29 hbox hb; have n0_ := Aside0.mk (blk_below (g := gb388) (o := .cells #[.string a1_0, .int .i64 a1_1] 55 (0, 0)) (bk_ BK388) hb); have n1_ := Aside0.mk (below_step (hg_ GE388) hb); have n2_ := Aside0.mk (hbox); have n3_ := Aside0.mk ((by rw [hg]; exact (below_size (hg_ GE388)) : w.heap.size ≤ gb390)); have n4_ := Aside0.mk ((by rw [hg]; exact (below_size (hg_ GE388)) : w.heap.size ≤ gb390)); have n5_ := Aside0.mk ((by rw [hg]; exact Nat.ne_of_lt (blk_lt (g := gb388) (o := .cells #[.string a1_0, .int .i64 a1_1] 55 (0, 0)) (bk_ BK388)) : gb388 ≠ gb390)); have n6_ := Aside0.mk ((by rw [hg]; exact Nat.ne_of_gt (blk_lt (g := gb388) (o := .cells #[.string a1_0, .int .i64 a1_1] 55 (0, 0)) (bk_ BK388)) : gb390 ≠ gb388)); clear BK388; clear HB; have BK388 := n0_; have HB := n1_; have BK390 := n2_; have GW390 := n3_; have GE390 := n4_; have NB388_390 := n5_; have NB390_388 := n6_; clear n0_ n1_ n2_ n3_ n4_ n5_ n6_; clear hb hbox hg; have hnb30 := NB390_388.out; have hnc30 := NB388_390.out; have hcz31_0 : w29.cell? ⟨gb390, 0, none⟩ = some (.string (⟨#[]⟩ : ByteArray)) := (blk_cell BK390.out 0).trans rfl; have hcz31_1 : w29.cell? ⟨gb390, 1, none⟩ = some (.int .i64 0) := (blk_cell BK390.out 1).trans rfl; have hfz31_0 := blk_frozen BK390.out 0; have hfz31_1 := blk_frozen BK390.out 1; have hcz32_0 : w29.cell? ⟨gb388, 0, none⟩ = some (.string a1_0) := (blk_cell BK388.out 0).trans rfl; have hcz32_1 : w29.cell? ⟨gb388, 1, none⟩ = some (.int .i64 a1_1) := (blk_cell BK388.out 1).trans rfl; have hfz32_0 := blk_frozen BK388.out 0; have hfz32_1 := blk_frozen BK388.out 1))
       repeat (go_quiet (first | ((with_reducible refine gate_dst (N := 7) rfl ?_); refine box_event ?hg (N := 7) ?hd (cs := #[.string (⟨#[]⟩ : ByteArray), .int .i64 0]) (t := 45) ?hr ?_; (case hd => rfl); (case hg => rfl); (case hr => first | (go_simp; done) | (go_simp; rfl)); intro gb390 hg w29 hbox hb; have n0_ := Aside0.mk (blk_below (g := gb388) (o := .cells #[.string a1_0, .int .i64 a1_1] 55 (0, 0)) (bk_ BK388) hb); have n1_ := Aside0.mk (below_step (hg_ GE388) hb); have n2_ := Aside0.mk (hbox); have n3_ := Aside0.mk ((by rw [hg]; exact (below_size (hg_ GE388)) : w.heap.size ≤ gb390)); have n4_ := Aside0.mk ((by rw [hg]; exact (below_size (hg_ GE388)) : w.heap.size ≤ gb390)); have n5_ := Aside0.mk ((by rw [hg]; exact Nat.ne_of_lt (blk_lt (g := gb388) (o := .cells #[.string a1_0, .int .i64 a1_1] 55 (0, 0)) (bk_ BK388)) : gb388 ≠ gb390)); have n6_ := Aside0.mk ((by rw [hg]; exact Nat.ne_of_gt (blk_lt (g := gb388) (o := .cells #[.string a1_0, .int .i64 a1_1] 55 (0, 0)) (bk_ BK388)) : gb390 ≠ gb388)); clear BK388; clear HB; have BK388 := n0_; have HB := n1_; have BK390 := n2_; have GW390 := n3_; have GE390 := n4_; have NB388_390 := n5_; have NB390_388 := n6_; clear n0_ n1_ n2_ n3_ n4_ n5_ n6_; clear hb hbox hg; have hnb30 := NB390_388.out; have hnc30 := NB388_390.out; have hcz31_0 : w29.cell? ⟨gb390, 0, none⟩ = some (.string (⟨#[]⟩ : ByteArray)) := (blk_cell BK390.out 0).trans rfl; have hcz31_1 : w29.cell? ⟨gb390, 1, none⟩ = some (.int .i64 0) := (blk_cell BK390.out 1).trans rfl; have hfz31_0 := blk_frozen BK390.out 0; have hfz31_1 := blk_frozen BK390.out 1; have hcz32_0 : w29.cell? ⟨gb388, 0, none⟩ = some (.string a1_0) := (blk_cell BK388.out 0).trans rfl; have hcz32_1 : w29.cell? ⟨gb388, 1, none⟩ = some (.int .i64 a1_1) := (blk_cell BK388.out 1).trans rfl; have hfz32_0 := blk_frozen BK388.out 0; have hfz32_1 := blk_frozen BK388.out 1)); try go_wp2_with (first | ((with_reducible refine gate_dst (N := 7) rfl ?_); refine box_event ?hg (N := 7) ?hd (cs := #[.string (⟨#[]⟩ : ByteArray), .int .i64 0]) (t := 45) ?hr ?_; (case hd => rfl); (case hg => rfl); (case hr => first | (go_simp; done) | (go_simp; rfl)); intro gb390 hg w29 hbox hb; have n0_ := Aside0.mk (blk_below (g := gb388) (o := .cells #[.string a1_0, .int .i64 a1_1] 55 (0, 0)) (bk_ BK388) hb); have n1_ := Aside0.mk (below_step (hg_ GE388) hb); have n2_ := Aside0.mk (hbox); have n3_ := Aside0.mk ((by rw [hg]; exact (below_size (hg_ GE388)) : w.heap.size ≤ gb390)); have n4_ := Aside0.mk ((by rw [hg]; exact (below_size (hg_ GE388)) : w.heap.size ≤ gb390)); have n5_ := Aside0.mk ((by rw [hg]; exact Nat.ne_of_lt (blk_lt (g := gb388) (o := .cells #[.string a1_0, .int .i64 a1_1] 55 (0, 0)) (bk_ BK388)) : gb388 ≠ gb390)); have n6_ := Aside0.mk ((by rw [hg]; exact Nat.ne_of_gt (blk_lt (g := gb388) (o := .cells #[.string a1_0, .int .i64 a1_1] 55 (0, 0)) (bk_ BK388)) : gb390 ≠ gb388)); clear BK388; clear HB; have BK388 := n0_; have HB := n1_; have BK390 := n2_; have GW390 := n3_; have GE390 := n4_; have NB388_390 := n5_; have NB390_388 := n6_; clear n0_ n1_ n2_ n3_ n4_ n5_ n6_; clear hb hbox hg; have hnb30 := NB390_388.out; have hnc30 := NB388_390.out; have hcz31_0 : w29.cell? ⟨gb390, 0, none⟩ = some (.string (⟨#[]⟩ : ByteArray)) := (blk_cell BK390.out 0).trans rfl; have hcz31_1 : w29.cell? ⟨gb390, 1, none⟩ = some (.int .i64 0) := (blk_cell BK390.out 1).trans rfl; have hfz31_0 := blk_frozen BK390.out 0; have hfz31_1 := blk_frozen BK390.out 1; have hcz32_0 : w29.cell? ⟨gb388, 0, none⟩ = some (.string a1_0) := (blk_cell BK388.out 0).trans rfl; have hcz32_1 : w29.cell? ⟨gb388, 1, none⟩ = some (.int .i64 a1_1) := (blk_cell BK388.out 1).trans rfl; have hfz32_0 := blk_frozen BK388.out 0; have hfz32_1 := blk_frozen BK388.out 1)))
       go_roundg k1
       case measure => have := HK1.out; omega
       case rel => exact ⟨(x5_1), (wrap64 (x10_1 + 1)), (by first | rfl | (simp; done) | (simp [*]; done)), (by first | rfl | (simp; done) | (simp [*]; done)), H', ⟨by have := HK1.out; omega⟩, ⟨by (with_reducible repeat (first | refine blk_drewN ?_ _ | refine blk_drew ?_ | refine blk_alloc ?_ _)); refine blk_far ?_ NB388_390.out _; (with_reducible repeat (first | refine blk_drewN ?_ _ | refine blk_drew ?_ | refine blk_alloc ?_ _)); refine blk_far ?_ NB388_390.out _; (with_reducible repeat (first | refine blk_drewN ?_ _ | refine blk_drew ?_ | refine blk_alloc ?_ _)); exact BK388.out⟩, ⟨(hg2_ GE388 GE390)⟩⟩
     ·rw [if_neg c6] at H
      exact absurd H (by simp)
    ·rw [if_neg c5] at H
     exact absurd H (by simp)
   ·rw [if_neg c4] at H
    have c4b0 : decide (x10_1 < (l0.length : Int)) = false := decide_eq_false c4
    clear c4
    obtain rfl := Option.some.inj H
    go_wp2
    repeat (go_quiet (fail); try go_wp2)
    go_ret
    exact ⟨ew_, (hg_ GE388)⟩

/-! ### impl_BestCoil: function 39 -/
def impl_BestCoil.f (k : Nat) (l0 : List (S45)) (a1_0 : ByteArray) (a1_1 : Int) : Option (Int × Int) := (impl_ValidStockCoils.f k l0).bind fun t393 => (if t393 = true then ((impl_validWant.f k a1_0 a1_1).bind fun t394 => (if t394 = true then ((impl_bestCoil.f k l0 a1_0 a1_1).bind fun t395 => (if t395 < 0 then (some (0, 3)) else (some (t395, 0)))) else (some (0, 2)))) else (some (0, 1)))
theorem impl_BestCoil.mono : ∀ a0 a1 a2 k, LeO (impl_BestCoil.f k a0 a1 a2) (impl_BestCoil.f (k + 1) a0 a1 a2) := by
 intro a0 a1 a2 k
 unfold impl_BestCoil.f
 repeat' first
   | (with_reducible exact impl_ValidStockCoils.mono _ _)
   | (with_reducible exact impl_bestCoil.mono _ _ _ _)
   | (with_reducible exact impl_validWant.mono _ _ _)
   | (with_reducible exact LeO.refl _)
   | (with_reducible exact LeO.none _)
   | (with_reducible refine LeO.ite ?_ ?_)
   | (with_reducible refine LeO.bind ?_ (fun _ => ?_))
   | exact impl_ValidStockCoils.mono _ _
   | exact impl_bestCoil.mono _ _ _ _
   | exact impl_validWant.mono _ _ _
   | exact LeO.none _
   | refine LeO.ite ?_ ?_
   | refine LeO.bind ?_ (fun _ => ?_)
set_option maxHeartbeats 8000000 in
set_option maxRecDepth 100000 in
theorem impl_BestCoil.calls (k : Nat) (A0 : Option Addr) (c0 : Nat) (l0 : List (S45)) (a1_0 : ByteArray) (a1_1 : Int) (r1 : Int) (r2 : Int) (w : World) (hr0 : Kd.C k45 w A0 l0.length l0) (hc0 : l0.length ≤ c0) (h : impl_BestCoil.f k l0 a1_0 a1_1 = some (r1, r2)) :
  Calls Try.prog 39 #[.slice A0 l0.length c0, .agg #[.string a1_0, .int .i64 a1_1]] w fun e w' => e = .returned (.tuple #[.int .i64 r1, .int .i64 r2]) ∧ Below w.heap.size w w' := by
 have hu55 := Try.underlying55
 have HR0 := Aside0.mk hr0
 have HC0 := Aside0.mk hc0
 clear hr0 hc0
 have HB := Aside0.mk (Below.refl w.heap.size w)
 have H : ((impl_ValidStockCoils.f k l0).bind fun t393 => (if t393 = true then ((impl_validWant.f k a1_0 a1_1).bind fun t394 => (if t394 = true then ((impl_bestCoil.f k l0 a1_0 a1_1).bind fun t395 => (if t395 < 0 then (some (0, 3)) else (some (t395, 0)))) else (some (0, 2)))) else (some (0, 1)))) = some (r1, r2) := h
 clear h
 replace H := Option.bind_eq_some_iff.mp H
 obtain ⟨t393, A30, H⟩ := H
 replace H : (if t393 = true then ((impl_validWant.f k a1_0 a1_1).bind fun t394 => (if t394 = true then ((impl_bestCoil.f k l0 a1_0 a1_1).bind fun t395 => (if t395 < 0 then (some (0, 3)) else (some (t395, 0)))) else (some (0, 2)))) else (some (0, 1))) = some (r1, r2) := H
 have A3 := Aside0.mk A30
 clear A30
 by_cases c4 : t393 = true
 ·subst c4
  have H1 : ((impl_validWant.f k a1_0 a1_1).bind fun t394 => (if t394 = true then ((impl_bestCoil.f k l0 a1_0 a1_1).bind fun t395 => (if t395 < 0 then (some (0, 3)) else (some (t395, 0)))) else (some (0, 2)))) = some (r1, r2) := by rw [if_pos rfl] at H; exact H
  clear H
  have H := H1
  clear H1
  replace H := Option.bind_eq_some_iff.mp H
  obtain ⟨t394, A50, H⟩ := H
  replace H : (if t394 = true then ((impl_bestCoil.f k l0 a1_0 a1_1).bind fun t395 => (if t395 < 0 then (some (0, 3)) else (some (t395, 0)))) else (some (0, 2))) = some (r1, r2) := H
  have A5 := Aside0.mk A50
  clear A50
  by_cases c6 : t394 = true
  ·subst c6
   have H1 : ((impl_bestCoil.f k l0 a1_0 a1_1).bind fun t395 => (if t395 < 0 then (some (0, 3)) else (some (t395, 0)))) = some (r1, r2) := by rw [if_pos rfl] at H; exact H
   clear H
   have H := H1
   clear H1
   replace H := Option.bind_eq_some_iff.mp H
   obtain ⟨t395, A70, H⟩ := H
   replace H : (if t395 < 0 then (some (0, 3)) else (some (t395, 0))) = some (r1, r2) := H
   have A7 := Aside0.mk A70
   clear A70
   by_cases c8 : t395 < 0
   ·rw [if_pos c8] at H
    have c8b0 : decide (t395 < 0) = true := decide_eq_true c8
    clear c8
    simp only [Option.some.injEq, Prod.mk.injEq] at H
    obtain ⟨rfl, rfl⟩ := H
    go_enter Try.func39, Try.ntmps39
    go_wp2_with (first | ((with_reducible refine gate_dst (N := 3) rfl ?_); refine box_event ?hg (N := 3) ?hd (cs := #[.string a1_0, .int .i64 a1_1]) (t := 55) ?hr ?_; (case hd => rfl); (case hg => rfl); (case hr => first | (go_simp; done) | (go_simp; rfl)); intro gb392 hg w9 hbox hb; have n0_ := Aside0.mk (below_step hb_ hb); have n1_ := Aside0.mk (hbox); have n2_ := Aside0.mk ((by rw [hg]; exact (below_size hb_) : w.heap.size ≤ gb392)); have n3_ := Aside0.mk ((by rw [hg]; exact (below_size hb_) : w.heap.size ≤ gb392)); clear HB; have HB := n0_; have BK392 := n1_; have GW392 := n2_; have GE392 := n3_; clear n0_ n1_ n2_ n3_; clear hb hbox hg) | ((with_reducible refine gate_callee (f := 20) rfl ?_); refine goesL_ (some 8) rfl rfl Try.func20 (by kernel_rfl) rfl #[.slice A0 l0.length c0] rfl ln_ ?_; (with_reducible refine (impl_ValidStockCoils.calls k _ _ l0 true _ ?side1 ?side2 A3.out).mono ?_); (case side1 => exact kc_ (Kd.C_below HR0.out HB.out)); (case side2 => exact HC0.out); rintro e w10 ⟨rfl, hb⟩; refine ⟨_, rfl, ?_⟩; have n0_ := Aside0.mk (blk_below (g := gb392) (o := .cells #[.string a1_0, .int .i64 a1_1] 55 (0, 0)) (bk_ BK392) hb); have n1_ := Aside0.mk (below_step (hg_ GE392) hb); clear BK392; clear HB; have BK392 := n0_; have HB := n1_; clear n0_ n1_; (try clear hb); (try clear hb2); (try clear hk); (try clear hi); have hcz11_0 : w10.cell? ⟨gb392, 0, none⟩ = some (.string a1_0) := (blk_cell BK392.out 0).trans rfl; have hcz11_1 : w10.cell? ⟨gb392, 1, none⟩ = some (.int .i64 a1_1) := (blk_cell BK392.out 1).trans rfl; have hfz11_0 := blk_frozen BK392.out 0; have hfz11_1 := blk_frozen BK392.out 1) | ((with_reducible refine gate_callee (f := 58) rfl ?_); refine goesL_ (some 11) rfl rfl Try.func58 (by kernel_rfl) rfl #[.agg #[.string a1_0, .int .i64 a1_1]] rfl ln_ ?_; (with_reducible refine (impl_validWant.calls k a1_0 a1_1 true _ A5.out).mono ?_); rintro e w12 ⟨rfl, hb⟩; refine ⟨_, rfl, ?_⟩; have n0_ := Aside0.mk (blk_below (g := gb392) (o := .cells #[.string a1_0, .int .i64 a1_1] 55 (0, 0)) (bk_ BK392) hb); have n1_ := Aside0.mk (below_step (hg_ GE392) hb); clear BK392; clear HB; have BK392 := n0_; have HB := n1_; clear n0_ n1_; (try clear hb); (try clear hb2); (try clear hk); (try clear hi); have hcz13_0 : w12.cell? ⟨gb392, 0, none⟩ = some (.string a1_0) := (blk_cell BK392.out 0).trans rfl; have hcz13_1 : w12.cell? ⟨gb392, 1, none⟩ = some (.int .i64 a1_1) := (blk_cell BK392.out 1).trans rfl; have hfz13_0 := blk_frozen BK392.out 0; have hfz13_1 := blk_frozen BK392.out 1) | ((with_reducible refine gate_callee (f := 70) rfl ?_); refine goesL_ (some 15) rfl rfl Try.func70 (by kernel_rfl) rfl #[.slice A0 l0.length c0, .agg #[.string a1_0, .int .i64 a1_1]] rfl ln_ ?_; (with_reducible refine (impl_bestCoil.calls k _ _ l0 a1_0 a1_1 t395 _ ?side1 ?side2 A7.out).mono ?_); (case side1 => exact kc_ (Kd.C_below HR0.out HB.out)); (case side2 => exact HC0.out); rintro e w14 ⟨rfl, hb⟩; refine ⟨_, rfl, ?_⟩; have n0_ := Aside0.mk (blk_below (g := gb392) (o := .cells #[.string a1_0, .int .i64 a1_1] 55 (0, 0)) (bk_ BK392) hb); have n1_ := Aside0.mk (below_step (hg_ GE392) hb); clear BK392; clear HB; have BK392 := n0_; have HB := n1_; clear n0_ n1_; (try clear hb); (try clear hb2); (try clear hk); (try clear hi)))
    go_ret2
    exact ⟨ew_, (hg_ GE392)⟩
   ·rw [if_neg c8] at H
    have c8b0 : decide (t395 < 0) = false := decide_eq_false c8
    clear c8
    simp only [Option.some.injEq, Prod.mk.injEq] at H
    obtain ⟨rfl, rfl⟩ := H
    go_enter Try.func39, Try.ntmps39
    go_wp2_with (first | ((with_reducible refine gate_dst (N := 3) rfl ?_); refine box_event ?hg (N := 3) ?hd (cs := #[.string a1_0, .int .i64 a1_1]) (t := 55) ?hr ?_; (case hd => rfl); (case hg => rfl); (case hr => first | (go_simp; done) | (go_simp; rfl)); intro gb392 hg w15 hbox hb; have n0_ := Aside0.mk (below_step hb_ hb); have n1_ := Aside0.mk (hbox); have n2_ := Aside0.mk ((by rw [hg]; exact (below_size hb_) : w.heap.size ≤ gb392)); have n3_ := Aside0.mk ((by rw [hg]; exact (below_size hb_) : w.heap.size ≤ gb392)); clear HB; have HB := n0_; have BK392 := n1_; have GW392 := n2_; have GE392 := n3_; clear n0_ n1_ n2_ n3_; clear hb hbox hg) | ((with_reducible refine gate_callee (f := 20) rfl ?_); refine goesL_ (some 8) rfl rfl Try.func20 (by kernel_rfl) rfl #[.slice A0 l0.length c0] rfl ln_ ?_; (with_reducible refine (impl_ValidStockCoils.calls k _ _ l0 true _ ?side1 ?side2 A3.out).mono ?_); (case side1 => exact kc_ (Kd.C_below HR0.out HB.out)); (case side2 => exact HC0.out); rintro e w16 ⟨rfl, hb⟩; refine ⟨_, rfl, ?_⟩; have n0_ := Aside0.mk (blk_below (g := gb392) (o := .cells #[.string a1_0, .int .i64 a1_1] 55 (0, 0)) (bk_ BK392) hb); have n1_ := Aside0.mk (below_step (hg_ GE392) hb); clear BK392; clear HB; have BK392 := n0_; have HB := n1_; clear n0_ n1_; (try clear hb); (try clear hb2); (try clear hk); (try clear hi); have hcz17_0 : w16.cell? ⟨gb392, 0, none⟩ = some (.string a1_0) := (blk_cell BK392.out 0).trans rfl; have hcz17_1 : w16.cell? ⟨gb392, 1, none⟩ = some (.int .i64 a1_1) := (blk_cell BK392.out 1).trans rfl; have hfz17_0 := blk_frozen BK392.out 0; have hfz17_1 := blk_frozen BK392.out 1) | ((with_reducible refine gate_callee (f := 58) rfl ?_); refine goesL_ (some 11) rfl rfl Try.func58 (by kernel_rfl) rfl #[.agg #[.string a1_0, .int .i64 a1_1]] rfl ln_ ?_; (with_reducible refine (impl_validWant.calls k a1_0 a1_1 true _ A5.out).mono ?_); rintro e w18 ⟨rfl, hb⟩; refine ⟨_, rfl, ?_⟩; have n0_ := Aside0.mk (blk_below (g := gb392) (o := .cells #[.string a1_0, .int .i64 a1_1] 55 (0, 0)) (bk_ BK392) hb); have n1_ := Aside0.mk (below_step (hg_ GE392) hb); clear BK392; clear HB; have BK392 := n0_; have HB := n1_; clear n0_ n1_; (try clear hb); (try clear hb2); (try clear hk); (try clear hi); have hcz19_0 : w18.cell? ⟨gb392, 0, none⟩ = some (.string a1_0) := (blk_cell BK392.out 0).trans rfl; have hcz19_1 : w18.cell? ⟨gb392, 1, none⟩ = some (.int .i64 a1_1) := (blk_cell BK392.out 1).trans rfl; have hfz19_0 := blk_frozen BK392.out 0; have hfz19_1 := blk_frozen BK392.out 1) | ((with_reducible refine gate_callee (f := 70) rfl ?_); refine goesL_ (some 15) rfl rfl Try.func70 (by kernel_rfl) rfl #[.slice A0 l0.length c0, .agg #[.string a1_0, .int .i64 a1_1]] rfl ln_ ?_; (with_reducible refine (impl_bestCoil.calls k _ _ l0 a1_0 a1_1 t395 _ ?side1 ?side2 A7.out).mono ?_); (case side1 => exact kc_ (Kd.C_below HR0.out HB.out)); (case side2 => exact HC0.out); rintro e w20 ⟨rfl, hb⟩; refine ⟨_, rfl, ?_⟩; have n0_ := Aside0.mk (blk_below (g := gb392) (o := .cells #[.string a1_0, .int .i64 a1_1] 55 (0, 0)) (bk_ BK392) hb); have n1_ := Aside0.mk (below_step (hg_ GE392) hb); clear BK392; clear HB; have BK392 := n0_; have HB := n1_; clear n0_ n1_; (try clear hb); (try clear hb2); (try clear hk); (try clear hi)))
    go_ret2
    exact ⟨ew_, (hg_ GE392)⟩
  ·replace c6 := Bool.eq_false_iff.mpr c6
   subst c6
   have H1 : (some (0, 2)) = some (r1, r2) := by rw [if_neg (show ¬ (false = true) by decide)] at H; exact H
   clear H
   have H := H1
   clear H1
   simp only [Option.some.injEq, Prod.mk.injEq] at H
   obtain ⟨rfl, rfl⟩ := H
   go_enter Try.func39, Try.ntmps39
   go_wp2_with (first | ((with_reducible refine gate_dst (N := 3) rfl ?_); refine box_event ?hg (N := 3) ?hd (cs := #[.string a1_0, .int .i64 a1_1]) (t := 55) ?hr ?_; (case hd => rfl); (case hg => rfl); (case hr => first | (go_simp; done) | (go_simp; rfl)); intro gb392 hg w21 hbox hb; have n0_ := Aside0.mk (below_step hb_ hb); have n1_ := Aside0.mk (hbox); have n2_ := Aside0.mk ((by rw [hg]; exact (below_size hb_) : w.heap.size ≤ gb392)); have n3_ := Aside0.mk ((by rw [hg]; exact (below_size hb_) : w.heap.size ≤ gb392)); clear HB; have HB := n0_; have BK392 := n1_; have GW392 := n2_; have GE392 := n3_; clear n0_ n1_ n2_ n3_; clear hb hbox hg) | ((with_reducible refine gate_callee (f := 20) rfl ?_); refine goesL_ (some 8) rfl rfl Try.func20 (by kernel_rfl) rfl #[.slice A0 l0.length c0] rfl ln_ ?_; (with_reducible refine (impl_ValidStockCoils.calls k _ _ l0 true _ ?side1 ?side2 A3.out).mono ?_); (case side1 => exact kc_ (Kd.C_below HR0.out HB.out)); (case side2 => exact HC0.out); rintro e w22 ⟨rfl, hb⟩; refine ⟨_, rfl, ?_⟩; have n0_ := Aside0.mk (blk_below (g := gb392) (o := .cells #[.string a1_0, .int .i64 a1_1] 55 (0, 0)) (bk_ BK392) hb); have n1_ := Aside0.mk (below_step (hg_ GE392) hb); clear BK392; clear HB; have BK392 := n0_; have HB := n1_; clear n0_ n1_; (try clear hb); (try clear hb2); (try clear hk); (try clear hi); have hcz23_0 : w22.cell? ⟨gb392, 0, none⟩ = some (.string a1_0) := (blk_cell BK392.out 0).trans rfl; have hcz23_1 : w22.cell? ⟨gb392, 1, none⟩ = some (.int .i64 a1_1) := (blk_cell BK392.out 1).trans rfl; have hfz23_0 := blk_frozen BK392.out 0; have hfz23_1 := blk_frozen BK392.out 1) | ((with_reducible refine gate_callee (f := 58) rfl ?_); refine goesL_ (some 11) rfl rfl Try.func58 (by kernel_rfl) rfl #[.agg #[.string a1_0, .int .i64 a1_1]] rfl ln_ ?_; (with_reducible refine (impl_validWant.calls k a1_0 a1_1 false _ A5.out).mono ?_); rintro e w24 ⟨rfl, hb⟩; refine ⟨_, rfl, ?_⟩; have n0_ := Aside0.mk (blk_below (g := gb392) (o := .cells #[.string a1_0, .int .i64 a1_1] 55 (0, 0)) (bk_ BK392) hb); have n1_ := Aside0.mk (below_step (hg_ GE392) hb); clear BK392; clear HB; have BK392 := n0_; have HB := n1_; clear n0_ n1_; (try clear hb); (try clear hb2); (try clear hk); (try clear hi)))
   go_ret2
   exact ⟨ew_, (hg_ GE392)⟩
 ·replace c4 := Bool.eq_false_iff.mpr c4
  subst c4
  have H1 : (some (0, 1)) = some (r1, r2) := by rw [if_neg (show ¬ (false = true) by decide)] at H; exact H
  clear H
  have H := H1
  clear H1
  simp only [Option.some.injEq, Prod.mk.injEq] at H
  obtain ⟨rfl, rfl⟩ := H
  go_enter Try.func39, Try.ntmps39
  go_wp2_with (first | ((with_reducible refine gate_dst (N := 3) rfl ?_); refine box_event ?hg (N := 3) ?hd (cs := #[.string a1_0, .int .i64 a1_1]) (t := 55) ?hr ?_; (case hd => rfl); (case hg => rfl); (case hr => first | (go_simp; done) | (go_simp; rfl)); intro gb392 hg w25 hbox hb; have n0_ := Aside0.mk (below_step hb_ hb); have n1_ := Aside0.mk (hbox); have n2_ := Aside0.mk ((by rw [hg]; exact (below_size hb_) : w.heap.size ≤ gb392)); have n3_ := Aside0.mk ((by rw [hg]; exact (below_size hb_) : w.heap.size ≤ gb392)); clear HB; have HB := n0_; have BK392 := n1_; have GW392 := n2_; have GE392 := n3_; clear n0_ n1_ n2_ n3_; clear hb hbox hg) | ((with_reducible refine gate_callee (f := 20) rfl ?_); refine goesL_ (some 8) rfl rfl Try.func20 (by kernel_rfl) rfl #[.slice A0 l0.length c0] rfl ln_ ?_; (with_reducible refine (impl_ValidStockCoils.calls k _ _ l0 false _ ?side1 ?side2 A3.out).mono ?_); (case side1 => exact kc_ (Kd.C_below HR0.out HB.out)); (case side2 => exact HC0.out); rintro e w26 ⟨rfl, hb⟩; refine ⟨_, rfl, ?_⟩; have n0_ := Aside0.mk (blk_below (g := gb392) (o := .cells #[.string a1_0, .int .i64 a1_1] 55 (0, 0)) (bk_ BK392) hb); have n1_ := Aside0.mk (below_step (hg_ GE392) hb); clear BK392; clear HB; have BK392 := n0_; have HB := n1_; clear n0_ n1_; (try clear hb); (try clear hb2); (try clear hk); (try clear hi)))
  go_ret2
  exact ⟨ew_, (hg_ GE392)⟩

end Go.Proofs.Ytbglfbmnibhgeaa.P
