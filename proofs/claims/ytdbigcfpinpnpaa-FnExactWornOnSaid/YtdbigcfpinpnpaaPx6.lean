-- Written by gprint.py (own program, over the printer of the kit) out of the translation. Lean checks it.
import Derived.Test.YtdbigcfpinpnpaaPx0
import Derived.Test.YtdbigcfpinpnpaaPx4
import Derived.Test.YtdbigcfpinpnpaaWPk
namespace Go.Proofs.Ytdbigcfpinpnpaa.P
open Go.RowKit Go.Proofs.YtdbigcfpinpnpaaW.PrintWords Go.Proofs.YtdbigcfpinpnpaaW.PrintLast Go.Proofs.YtdbigcfpinpnpaaW.PrintMore Go.Proofs.YtdbigcfpinpnpaaW.Pk
open Bool renaming true → T_, false → F_
open List renaming setIfInBounds_toArray → sT_, set_cons_zero → s0_, set_cons_succ → sS_
attribute [local go_sem] max2_int min2_int max_two min_two max_three min_three max_four min_four   -- for this text's walks alone
set_option linter.unusedVariables false
set_option linter.unusedSimpArgs false

/-! ### spec_l21Check: function 75 -/
def spec_l21Check.f (k : Nat) (l0 : List (S73)) (s1_0 : ByteArray) (s1_1 : Int) (s1_2 : Int) : Option (Bool) := (spec_l21Find.f k l0 s1_0).bind fun t209 => (if t209 ≥ 0 then (if 0 ≤ t209 then (if t209 < (l0.length : Int) then ((spec_l00In.f s1_1 ((rd_T73 l0 t209).f1) 20000).bind fun t211 => (if t211 = true then ((spec_l00In.f s1_2 0 1000000).bind fun t212 => (some t212)) else (some false))) else (none)) else (none)) else (some false))
theorem spec_l21Check.mono : ∀ a0 a1 a2 a3 k, LeO (spec_l21Check.f k a0 a1 a2 a3) (spec_l21Check.f (k + 1) a0 a1 a2 a3) := by
 intro a0 a1 a2 a3 k
 unfold spec_l21Check.f
 repeat' first
   | (with_reducible exact spec_l21Find.mono _ _ _)
   | (with_reducible exact LeO.refl _)
   | (with_reducible exact LeO.none _)
   | (with_reducible refine LeO.ite ?_ ?_)
   | (with_reducible refine LeO.bind ?_ (fun _ => ?_))
   | exact spec_l21Find.mono _ _ _
   | exact LeO.none _
   | refine LeO.ite ?_ ?_
   | refine LeO.bind ?_ (fun _ => ?_)
set_option maxHeartbeats 8000000 in
set_option maxRecDepth 100000 in
theorem spec_l21Check.calls0 (k : Nat) (A0 : Option Addr) (c0 : Nat) (l0 : List (S73)) (g o : Nat) (z : Option Nat) (s1_0 : ByteArray) (s1_1 : Int) (s1_2 : Int) (r : Bool) (w0 w : World) (hI : IsE53 w0 w g o z s1_0 s1_1 s1_2) (hB : Below w0.heap.size w0 w) (hr0 : ∀ W_, KeepBut w W_ w.heap.size none → Kd.C k73 W_ A0 l0.length l0) (hc0 : l0.length ≤ c0) (h : spec_l21Check.f k l0 s1_0 s1_1 s1_2 = some r) :
  Calls Try.prog 75 #[.slice A0 l0.length c0, .pointer (some ⟨g, o, z⟩)] w fun e w' => e = .returned (.bool r) ∧ IsE53 w0 w' g o z s1_0 s1_1 s1_2 ∧ Below w0.heap.size w0 w' ∧ KeepBut w w' w.heap.size none := by
 have HR0 := Aside0.mk hr0
 have HC0 := Aside0.mk hc0
 clear hr0 hc0
 have HI1 := Aside0.mk hI
 have HK := Aside0.mk (KeepBut.refl w w.heap.size none)
 have HL := Aside0.mk hB.size
 clear hI
 have HW0 := Aside0.mk hB.size
 have HB := Aside0.mk hB
 clear hB
 have H : ((spec_l21Find.f k l0 s1_0).bind fun t209 => (if t209 ≥ 0 then (if 0 ≤ t209 then (if t209 < (l0.length : Int) then ((spec_l00In.f s1_1 ((rd_T73 l0 t209).f1) 20000).bind fun t211 => (if t211 = true then ((spec_l00In.f s1_2 0 1000000).bind fun t212 => (some t212)) else (some false))) else (none)) else (none)) else (some false))) = some r := h
 clear h
 replace H := Option.bind_eq_some_iff.mp H
 obtain ⟨t209, A30, H⟩ := H
 replace H : (if t209 ≥ 0 then (if 0 ≤ t209 then (if t209 < (l0.length : Int) then ((spec_l00In.f s1_1 ((rd_T73 l0 t209).f1) 20000).bind fun t211 => (if t211 = true then ((spec_l00In.f s1_2 0 1000000).bind fun t212 => (some t212)) else (some false))) else (none)) else (none)) else (some false)) = some r := H
 have A3 := Aside0.mk A30
 clear A30
 by_cases c4 : t209 ≥ 0
 ·rw [if_pos c4] at H
  have c4b0 : decide (0 ≤ t209) = true := decide_eq_true c4
  clear c4
  by_cases c5 : 0 ≤ t209
  ·rw [if_pos c5] at H
   have c5b0 : decide (0 ≤ t209) = true := decide_eq_true c5
   clear c5
   by_cases c6 : t209 < (l0.length : Int)
   ·rw [if_pos c6] at H
    have c6b0 : decide (t209 < (l0.length : Int)) = true := decide_eq_true c6
    clear c6
    replace H := Option.bind_eq_some_iff.mp H
    obtain ⟨t211, A70, H⟩ := H
    replace H : (if t211 = true then ((spec_l00In.f s1_2 0 1000000).bind fun t212 => (some t212)) else (some false)) = some r := H
    have A7 := Aside0.mk A70
    clear A70
    by_cases c8 : t211 = true
    ·subst c8
     have H1 : ((spec_l00In.f s1_2 0 1000000).bind fun t212 => (some t212)) = some r := by rw [if_pos rfl] at H; exact H
     clear H
     have H := H1
     clear H1
     replace H := Option.bind_eq_some_iff.mp H
     obtain ⟨t212, A90, H⟩ := H
     replace H : (some t212) = some r := H
     have A9 := Aside0.mk A90
     clear A90
     obtain rfl := Option.some.inj H
     obtain ⟨HGz10, hgz10⟩ := HI1.out
     have hcz10_0 := cellE53_0 HGz10
     have hcz10_1 := cellE53_1 HGz10
     have hcz10_2 := cellE53_2 HGz10
     clear HGz10 hgz10
     go_enter Try.func75, Try.ntmps75
     go_wp2_with (first | (go_at_call 66; (with_reducible refine (spec_l21Find.calls k _ _ l0 s1_0 t209 _ ?side1 ?side2 A3.out).mono ?_); (case side1 => exact Kd.C_foot_now HR0.out (by repeat (first | (with_reducible first | exact HK.out | apply keep_drewN | apply keep_drew | apply keep_alloc) | exact HK.out))); (case side2 => exact HC0.out); rintro e w' ⟨rfl, ⟨nd, rfl⟩⟩; (try first | exact ⟨rfl, _, World.drewN_drewN _ _ _⟩ | exact ⟨rfl, _, Eq.trans (World.drewN_drewN _ _ _) (congrArg (World.drewN _) (Nat.add_assoc _ _ _))⟩); have p210 : 0 ≤ (t209 : Int) := od_; have q210 : t209 < (l0.length : Int) := od_; obtain ⟨ad210, e210, hx210_0, hx210_1, hx210_2, hx210_3⟩ := at_T73 (Kd.C_foot_now HR0.out HK.out) t209 p210 q210; cases e210; replace p210 := eq_true p210; replace q210 := eq_true q210) | (go_at_call 87; (with_reducible refine (spec_l00In.calls s1_1 ((rd_T73 l0 t209).f1) 20000 true _ A7.out).mono ?_); rintro e w' ⟨rfl, ⟨nd, rfl⟩⟩; (try first | exact ⟨rfl, _, World.drewN_drewN _ _ _⟩ | exact ⟨rfl, _, Eq.trans (World.drewN_drewN _ _ _) (congrArg (World.drewN _) (Nat.add_assoc _ _ _))⟩)) | (go_at_call 87; (with_reducible refine (spec_l00In.calls s1_2 0 1000000 t212 _ A9.out).mono ?_); rintro e w' ⟨rfl, ⟨nd, rfl⟩⟩; (try first | exact ⟨rfl, _, World.drewN_drewN _ _ _⟩ | exact ⟨rfl, _, Eq.trans (World.drewN_drewN _ _ _) (congrArg (World.drewN _) (Nat.add_assoc _ _ _))⟩)))
     repeat (go_quiet (first | (go_at_call 66; (with_reducible refine (spec_l21Find.calls k _ _ l0 s1_0 t209 _ ?side1 ?side2 A3.out).mono ?_); (case side1 => exact Kd.C_foot_now HR0.out (by repeat (first | (with_reducible first | exact HK.out | apply keep_drewN | apply keep_drew | apply keep_alloc) | exact HK.out))); (case side2 => exact HC0.out); rintro e w' ⟨rfl, ⟨nd, rfl⟩⟩; (try first | exact ⟨rfl, _, World.drewN_drewN _ _ _⟩ | exact ⟨rfl, _, Eq.trans (World.drewN_drewN _ _ _) (congrArg (World.drewN _) (Nat.add_assoc _ _ _))⟩); have p210 : 0 ≤ (t209 : Int) := od_; have q210 : t209 < (l0.length : Int) := od_; obtain ⟨ad210, e210, hx210_0, hx210_1, hx210_2, hx210_3⟩ := at_T73 (Kd.C_foot_now HR0.out HK.out) t209 p210 q210; cases e210; replace p210 := eq_true p210; replace q210 := eq_true q210) | (go_at_call 87; (with_reducible refine (spec_l00In.calls s1_1 ((rd_T73 l0 t209).f1) 20000 true _ A7.out).mono ?_); rintro e w' ⟨rfl, ⟨nd, rfl⟩⟩; (try first | exact ⟨rfl, _, World.drewN_drewN _ _ _⟩ | exact ⟨rfl, _, Eq.trans (World.drewN_drewN _ _ _) (congrArg (World.drewN _) (Nat.add_assoc _ _ _))⟩)) | (go_at_call 87; (with_reducible refine (spec_l00In.calls s1_2 0 1000000 t212 _ A9.out).mono ?_); rintro e w' ⟨rfl, ⟨nd, rfl⟩⟩; (try first | exact ⟨rfl, _, World.drewN_drewN _ _ _⟩ | exact ⟨rfl, _, Eq.trans (World.drewN_drewN _ _ _) (congrArg (World.drewN _) (Nat.add_assoc _ _ _))⟩))); try go_wp2_with (first | (go_at_call 66; (with_reducible refine (spec_l21Find.calls k _ _ l0 s1_0 t209 _ ?side1 ?side2 A3.out).mono ?_); (case side1 => exact Kd.C_foot_now HR0.out (by repeat (first | (with_reducible first | exact HK.out | apply keep_drewN | apply keep_drew | apply keep_alloc) | exact HK.out))); (case side2 => exact HC0.out); rintro e w' ⟨rfl, ⟨nd, rfl⟩⟩; (try first | exact ⟨rfl, _, World.drewN_drewN _ _ _⟩ | exact ⟨rfl, _, Eq.trans (World.drewN_drewN _ _ _) (congrArg (World.drewN _) (Nat.add_assoc _ _ _))⟩); have p210 : 0 ≤ (t209 : Int) := od_; have q210 : t209 < (l0.length : Int) := od_; obtain ⟨ad210, e210, hx210_0, hx210_1, hx210_2, hx210_3⟩ := at_T73 (Kd.C_foot_now HR0.out HK.out) t209 p210 q210; cases e210; replace p210 := eq_true p210; replace q210 := eq_true q210) | (go_at_call 87; (with_reducible refine (spec_l00In.calls s1_1 ((rd_T73 l0 t209).f1) 20000 true _ A7.out).mono ?_); rintro e w' ⟨rfl, ⟨nd, rfl⟩⟩; (try first | exact ⟨rfl, _, World.drewN_drewN _ _ _⟩ | exact ⟨rfl, _, Eq.trans (World.drewN_drewN _ _ _) (congrArg (World.drewN _) (Nat.add_assoc _ _ _))⟩)) | (go_at_call 87; (with_reducible refine (spec_l00In.calls s1_2 0 1000000 t212 _ A9.out).mono ?_); rintro e w' ⟨rfl, ⟨nd, rfl⟩⟩; (try first | exact ⟨rfl, _, World.drewN_drewN _ _ _⟩ | exact ⟨rfl, _, Eq.trans (World.drewN_drewN _ _ _) (congrArg (World.drewN _) (Nat.add_assoc _ _ _))⟩))))
     go_ret
     exact ⟨ew_, by repeat (first | (with_reducible first | exact HI1.out | apply IsE53.alloc | apply IsE53.drewN | apply IsE53.drew) | exact HI1.out), hb_, by repeat (first | (with_reducible first | exact HK.out | apply keep_drewN | apply keep_drew | apply keep_alloc) | exact HK.out)⟩
    ·replace c8 := Bool.eq_false_iff.mpr c8
     subst c8
     have H1 : (some false) = some r := by rw [if_neg (show ¬ (false = true) by decide)] at H; exact H
     clear H
     have H := H1
     clear H1
     obtain rfl := Option.some.inj H
     obtain ⟨HGz11, hgz11⟩ := HI1.out
     have hcz11_0 := cellE53_0 HGz11
     have hcz11_1 := cellE53_1 HGz11
     have hcz11_2 := cellE53_2 HGz11
     clear HGz11 hgz11
     go_enter Try.func75, Try.ntmps75
     go_wp2_with (first | (go_at_call 66; (with_reducible refine (spec_l21Find.calls k _ _ l0 s1_0 t209 _ ?side1 ?side2 A3.out).mono ?_); (case side1 => exact Kd.C_foot_now HR0.out (by repeat (first | (with_reducible first | exact HK.out | apply keep_drewN | apply keep_drew | apply keep_alloc) | exact HK.out))); (case side2 => exact HC0.out); rintro e w' ⟨rfl, ⟨nd, rfl⟩⟩; (try first | exact ⟨rfl, _, World.drewN_drewN _ _ _⟩ | exact ⟨rfl, _, Eq.trans (World.drewN_drewN _ _ _) (congrArg (World.drewN _) (Nat.add_assoc _ _ _))⟩); have p210 : 0 ≤ (t209 : Int) := od_; have q210 : t209 < (l0.length : Int) := od_; obtain ⟨ad210, e210, hx210_0, hx210_1, hx210_2, hx210_3⟩ := at_T73 (Kd.C_foot_now HR0.out HK.out) t209 p210 q210; cases e210; replace p210 := eq_true p210; replace q210 := eq_true q210) | (go_at_call 87; (with_reducible refine (spec_l00In.calls s1_1 ((rd_T73 l0 t209).f1) 20000 false _ A7.out).mono ?_); rintro e w' ⟨rfl, ⟨nd, rfl⟩⟩; (try first | exact ⟨rfl, _, World.drewN_drewN _ _ _⟩ | exact ⟨rfl, _, Eq.trans (World.drewN_drewN _ _ _) (congrArg (World.drewN _) (Nat.add_assoc _ _ _))⟩)))
     repeat (go_quiet (first | (go_at_call 66; (with_reducible refine (spec_l21Find.calls k _ _ l0 s1_0 t209 _ ?side1 ?side2 A3.out).mono ?_); (case side1 => exact Kd.C_foot_now HR0.out (by repeat (first | (with_reducible first | exact HK.out | apply keep_drewN | apply keep_drew | apply keep_alloc) | exact HK.out))); (case side2 => exact HC0.out); rintro e w' ⟨rfl, ⟨nd, rfl⟩⟩; (try first | exact ⟨rfl, _, World.drewN_drewN _ _ _⟩ | exact ⟨rfl, _, Eq.trans (World.drewN_drewN _ _ _) (congrArg (World.drewN _) (Nat.add_assoc _ _ _))⟩); have p210 : 0 ≤ (t209 : Int) := od_; have q210 : t209 < (l0.length : Int) := od_; obtain ⟨ad210, e210, hx210_0, hx210_1, hx210_2, hx210_3⟩ := at_T73 (Kd.C_foot_now HR0.out HK.out) t209 p210 q210; cases e210; replace p210 := eq_true p210; replace q210 := eq_true q210) | (go_at_call 87; (with_reducible refine (spec_l00In.calls s1_1 ((rd_T73 l0 t209).f1) 20000 false _ A7.out).mono ?_); rintro e w' ⟨rfl, ⟨nd, rfl⟩⟩; (try first | exact ⟨rfl, _, World.drewN_drewN _ _ _⟩ | exact ⟨rfl, _, Eq.trans (World.drewN_drewN _ _ _) (congrArg (World.drewN _) (Nat.add_assoc _ _ _))⟩))); try go_wp2_with (first | (go_at_call 66; (with_reducible refine (spec_l21Find.calls k _ _ l0 s1_0 t209 _ ?side1 ?side2 A3.out).mono ?_); (case side1 => exact Kd.C_foot_now HR0.out (by repeat (first | (with_reducible first | exact HK.out | apply keep_drewN | apply keep_drew | apply keep_alloc) | exact HK.out))); (case side2 => exact HC0.out); rintro e w' ⟨rfl, ⟨nd, rfl⟩⟩; (try first | exact ⟨rfl, _, World.drewN_drewN _ _ _⟩ | exact ⟨rfl, _, Eq.trans (World.drewN_drewN _ _ _) (congrArg (World.drewN _) (Nat.add_assoc _ _ _))⟩); have p210 : 0 ≤ (t209 : Int) := od_; have q210 : t209 < (l0.length : Int) := od_; obtain ⟨ad210, e210, hx210_0, hx210_1, hx210_2, hx210_3⟩ := at_T73 (Kd.C_foot_now HR0.out HK.out) t209 p210 q210; cases e210; replace p210 := eq_true p210; replace q210 := eq_true q210) | (go_at_call 87; (with_reducible refine (spec_l00In.calls s1_1 ((rd_T73 l0 t209).f1) 20000 false _ A7.out).mono ?_); rintro e w' ⟨rfl, ⟨nd, rfl⟩⟩; (try first | exact ⟨rfl, _, World.drewN_drewN _ _ _⟩ | exact ⟨rfl, _, Eq.trans (World.drewN_drewN _ _ _) (congrArg (World.drewN _) (Nat.add_assoc _ _ _))⟩))))
     go_ret
     exact ⟨ew_, by repeat (first | (with_reducible first | exact HI1.out | apply IsE53.alloc | apply IsE53.drewN | apply IsE53.drew) | exact HI1.out), hb_, by repeat (first | (with_reducible first | exact HK.out | apply keep_drewN | apply keep_drew | apply keep_alloc) | exact HK.out)⟩
   ·rw [if_neg c6] at H
    exact absurd H (by simp)
  ·rw [if_neg c5] at H
   exact absurd H (by simp)
 ·rw [if_neg c4] at H
  have c4b0 : decide (0 ≤ t209) = false := decide_eq_false c4
  clear c4
  obtain rfl := Option.some.inj H
  obtain ⟨HGz12, hgz12⟩ := HI1.out
  have hcz12_0 := cellE53_0 HGz12
  have hcz12_1 := cellE53_1 HGz12
  have hcz12_2 := cellE53_2 HGz12
  clear HGz12 hgz12
  go_enter Try.func75, Try.ntmps75
  go_wp2_with (first | (go_at_call 66; (with_reducible refine (spec_l21Find.calls k _ _ l0 s1_0 t209 _ ?side1 ?side2 A3.out).mono ?_); (case side1 => exact Kd.C_foot_now HR0.out (by repeat (first | (with_reducible first | exact HK.out | apply keep_drewN | apply keep_drew | apply keep_alloc) | exact HK.out))); (case side2 => exact HC0.out); rintro e w' ⟨rfl, ⟨nd, rfl⟩⟩; (try first | exact ⟨rfl, _, World.drewN_drewN _ _ _⟩ | exact ⟨rfl, _, Eq.trans (World.drewN_drewN _ _ _) (congrArg (World.drewN _) (Nat.add_assoc _ _ _))⟩)))
  repeat (go_quiet (first | (go_at_call 66; (with_reducible refine (spec_l21Find.calls k _ _ l0 s1_0 t209 _ ?side1 ?side2 A3.out).mono ?_); (case side1 => exact Kd.C_foot_now HR0.out (by repeat (first | (with_reducible first | exact HK.out | apply keep_drewN | apply keep_drew | apply keep_alloc) | exact HK.out))); (case side2 => exact HC0.out); rintro e w' ⟨rfl, ⟨nd, rfl⟩⟩; (try first | exact ⟨rfl, _, World.drewN_drewN _ _ _⟩ | exact ⟨rfl, _, Eq.trans (World.drewN_drewN _ _ _) (congrArg (World.drewN _) (Nat.add_assoc _ _ _))⟩))); try go_wp2_with (first | (go_at_call 66; (with_reducible refine (spec_l21Find.calls k _ _ l0 s1_0 t209 _ ?side1 ?side2 A3.out).mono ?_); (case side1 => exact Kd.C_foot_now HR0.out (by repeat (first | (with_reducible first | exact HK.out | apply keep_drewN | apply keep_drew | apply keep_alloc) | exact HK.out))); (case side2 => exact HC0.out); rintro e w' ⟨rfl, ⟨nd, rfl⟩⟩; (try first | exact ⟨rfl, _, World.drewN_drewN _ _ _⟩ | exact ⟨rfl, _, Eq.trans (World.drewN_drewN _ _ _) (congrArg (World.drewN _) (Nat.add_assoc _ _ _))⟩))))
  go_ret
  exact ⟨ew_, by repeat (first | (with_reducible first | exact HI1.out | apply IsE53.alloc | apply IsE53.drewN | apply IsE53.drew) | exact HI1.out), hb_, by repeat (first | (with_reducible first | exact HK.out | apply keep_drewN | apply keep_drew | apply keep_alloc) | exact HK.out)⟩
theorem spec_l21Check.calls (k : Nat) (A0 : Option Addr) (c0 : Nat) (l0 : List (S73)) (g : Addr) (s1_0 : ByteArray) (s1_1 : Int) (s1_2 : Int) (r : Bool) (w : World) (hr0 : Kd.C k73 w A0 l0.length l0) (hc0 : l0.length ≤ c0) (he0 : w.cell? g = some (.string s1_0)) (he1 : w.cell? ⟨g.block, g.off + 1, none⟩ = some (.int .i64 s1_1)) (he2 : w.cell? ⟨g.block, g.off + 2, none⟩ = some (.int .i64 s1_2)) (h : spec_l21Check.f k l0 s1_0 s1_1 s1_2 = some r) :
  Calls Try.prog 75 #[.slice A0 l0.length c0, .pointer (some g)] w fun e w' => e = .returned (.bool r) ∧ Below w.heap.size w w' := by
 refine (spec_l21Check.calls0 k A0 c0 l0 g.block g.off g.spot s1_0 s1_1 s1_2 r w w ⟨⟨he0, he1, he2⟩, trivial⟩ (Below.refl _ _) (Kd.C_foot_came k73_heap hr0 (Below.refl _ _) (Nat.le_refl _)) hc0 h).mono ?_
 rintro e w' ⟨rfl, _, hb, _⟩
 exact ⟨rfl, hb⟩


/-! ### spec_l21Checks: function 63 -/
mutual
def spec_l21Checks.j0 : Nat → List (S73) → List (S53) → Bool → Option (Bool)
 | 0, _, _, _ => none
 | k + 1, x0, x1, x14 => if x14 = true then (some false) else (spec_l21Checks.l0 k x0 x1 0)
def spec_l21Checks.l0 : Nat → List (S73) → List (S53) → Int → Option (Bool)
 | 0, _, _, _ => none
 | k + 1, x0, x1, x5 => if x5 < (x1.length : Int) then (if 0 ≤ x5 then ((spec_l21Check.f k x0 ((rd_T53 x1 x5).f0) ((rd_T53 x1 x5).f1) ((rd_T53 x1 x5).f2)).bind fun t215 => (if t215 = true then (if x5 > 0 then (if 0 ≤ (wrap64 (x5 - 1)) then (if (wrap64 (x5 - 1)) < (x1.length : Int) then (spec_l21Checks.j2 k x0 x1 x5 (decide (((rd_T53 x1 (wrap64 (x5 - 1))).f1) > ((rd_T53 x1 x5).f1)))) else (none)) else (none)) else (spec_l21Checks.j2 k x0 x1 x5 false)) else (spec_l21Checks.j2 k x0 x1 x5 true))) else (none)) else (some true)
def spec_l21Checks.j2 : Nat → List (S73) → List (S53) → Int → Bool → Option (Bool)
 | 0, _, _, _, _ => none
 | k + 1, x0, x1, x5, x44 => if x44 = true then (some false) else (spec_l21Checks.l1 k x0 x1 x5 0)
def spec_l21Checks.l1 : Nat → List (S73) → List (S53) → Int → Int → Option (Bool)
 | 0, _, _, _, _ => none
 | k + 1, x0, x1, x5, x6 => if x6 < x5 then (if 0 ≤ x6 then (if x6 < (x1.length : Int) then (if 0 ≤ x5 then (if x5 < (x1.length : Int) then (if ((rd_T53 x1 x6).f0).toList = ((rd_T53 x1 x5).f0).toList then (if ((rd_T53 x1 x6).f1) = ((rd_T53 x1 x5).f1) then (some false) else (if ((rd_T53 x1 x6).f2) > ((rd_T53 x1 x5).f2) then (some false) else (spec_l21Checks.l1 k x0 x1 x5 (wrap64 (x6 + 1))))) else (spec_l21Checks.l1 k x0 x1 x5 (wrap64 (x6 + 1)))) else (none)) else (none)) else (none)) else (none)) else (spec_l21Checks.l0 k x0 x1 (wrap64 (x5 + 1)))
end
def spec_l21Checks.f (k : Nat) (l0 : List (S73)) (l1 : List (S53)) : Option (Bool) := (spec_l21Ok.f k l0).bind fun t213 => (if t213 = true then (spec_l21Checks.j0 k l0 l1 (decide ((l1.length : Int) > 60))) else (spec_l21Checks.j0 k l0 l1 true))
theorem spec_l21Checks.mono_l : ∀ k, (∀ y0 y1 y2, LeO (spec_l21Checks.j0 k y0 y1 y2) (spec_l21Checks.j0 (k + 1) y0 y1 y2)) ∧ (∀ y0 y1 y2, LeO (spec_l21Checks.l0 k y0 y1 y2) (spec_l21Checks.l0 (k + 1) y0 y1 y2)) ∧ (∀ y0 y1 y2 y3, LeO (spec_l21Checks.j2 k y0 y1 y2 y3) (spec_l21Checks.j2 (k + 1) y0 y1 y2 y3)) ∧ (∀ y0 y1 y2 y3, LeO (spec_l21Checks.l1 k y0 y1 y2 y3) (spec_l21Checks.l1 (k + 1) y0 y1 y2 y3))
 | 0 => ⟨fun _ _ _ r h => by simp [spec_l21Checks.j0] at h, fun _ _ _ r h => by simp [spec_l21Checks.l0] at h, fun _ _ _ _ r h => by simp [spec_l21Checks.j2] at h, fun _ _ _ _ r h => by simp [spec_l21Checks.l1] at h⟩
 | k + 1 => by
  obtain ⟨ih0, ih1, ih2, ih3⟩ := spec_l21Checks.mono_l k
  refine ⟨?_, ?_, ?_, ?_⟩
  ·intro y0 y1 y2
   unfold spec_l21Checks.j0
   repeat' first
   | (with_reducible exact ih0 _ _ _)
   | (with_reducible exact ih1 _ _ _)
   | (with_reducible exact ih2 _ _ _ _)
   | (with_reducible exact ih3 _ _ _ _)
   | (with_reducible exact spec_l21Check.mono _ _ _ _ _)
   | (with_reducible exact spec_l21Ok.mono _ _)
   | (with_reducible exact LeO.refl _)
   | (with_reducible exact LeO.none _)
   | (with_reducible refine LeO.ite ?_ ?_)
   | (with_reducible refine LeO.bind ?_ (fun _ => ?_))
   | exact ih0 _ _ _
   | exact ih1 _ _ _
   | exact ih2 _ _ _ _
   | exact ih3 _ _ _ _
   | exact spec_l21Check.mono _ _ _ _ _
   | exact spec_l21Ok.mono _ _
   | exact LeO.none _
   | refine LeO.ite ?_ ?_
   | refine LeO.bind ?_ (fun _ => ?_)
  ·intro y0 y1 y2
   unfold spec_l21Checks.l0
   repeat' first
   | (with_reducible exact ih0 _ _ _)
   | (with_reducible exact ih1 _ _ _)
   | (with_reducible exact ih2 _ _ _ _)
   | (with_reducible exact ih3 _ _ _ _)
   | (with_reducible exact spec_l21Check.mono _ _ _ _ _)
   | (with_reducible exact spec_l21Ok.mono _ _)
   | (with_reducible exact LeO.refl _)
   | (with_reducible exact LeO.none _)
   | (with_reducible refine LeO.ite ?_ ?_)
   | (with_reducible refine LeO.bind ?_ (fun _ => ?_))
   | exact ih0 _ _ _
   | exact ih1 _ _ _
   | exact ih2 _ _ _ _
   | exact ih3 _ _ _ _
   | exact spec_l21Check.mono _ _ _ _ _
   | exact spec_l21Ok.mono _ _
   | exact LeO.none _
   | refine LeO.ite ?_ ?_
   | refine LeO.bind ?_ (fun _ => ?_)
  ·intro y0 y1 y2 y3
   unfold spec_l21Checks.j2
   repeat' first
   | (with_reducible exact ih0 _ _ _)
   | (with_reducible exact ih1 _ _ _)
   | (with_reducible exact ih2 _ _ _ _)
   | (with_reducible exact ih3 _ _ _ _)
   | (with_reducible exact spec_l21Check.mono _ _ _ _ _)
   | (with_reducible exact spec_l21Ok.mono _ _)
   | (with_reducible exact LeO.refl _)
   | (with_reducible exact LeO.none _)
   | (with_reducible refine LeO.ite ?_ ?_)
   | (with_reducible refine LeO.bind ?_ (fun _ => ?_))
   | exact ih0 _ _ _
   | exact ih1 _ _ _
   | exact ih2 _ _ _ _
   | exact ih3 _ _ _ _
   | exact spec_l21Check.mono _ _ _ _ _
   | exact spec_l21Ok.mono _ _
   | exact LeO.none _
   | refine LeO.ite ?_ ?_
   | refine LeO.bind ?_ (fun _ => ?_)
  ·intro y0 y1 y2 y3
   unfold spec_l21Checks.l1
   repeat' first
   | (with_reducible exact ih0 _ _ _)
   | (with_reducible exact ih1 _ _ _)
   | (with_reducible exact ih2 _ _ _ _)
   | (with_reducible exact ih3 _ _ _ _)
   | (with_reducible exact spec_l21Check.mono _ _ _ _ _)
   | (with_reducible exact spec_l21Ok.mono _ _)
   | (with_reducible exact LeO.refl _)
   | (with_reducible exact LeO.none _)
   | (with_reducible refine LeO.ite ?_ ?_)
   | (with_reducible refine LeO.bind ?_ (fun _ => ?_))
   | exact ih0 _ _ _
   | exact ih1 _ _ _
   | exact ih2 _ _ _ _
   | exact ih3 _ _ _ _
   | exact spec_l21Check.mono _ _ _ _ _
   | exact spec_l21Ok.mono _ _
   | exact LeO.none _
   | refine LeO.ite ?_ ?_
   | refine LeO.bind ?_ (fun _ => ?_)
theorem spec_l21Checks.mono : ∀ a0 a1 k, LeO (spec_l21Checks.f k a0 a1) (spec_l21Checks.f (k + 1) a0 a1) := by
 intro a0 a1 k
 obtain ⟨ih0, ih1, ih2, ih3⟩ := spec_l21Checks.mono_l k
 unfold spec_l21Checks.f
 repeat' first
   | (with_reducible exact ih0 _ _ _)
   | (with_reducible exact ih1 _ _ _)
   | (with_reducible exact ih2 _ _ _ _)
   | (with_reducible exact ih3 _ _ _ _)
   | (with_reducible exact spec_l21Check.mono _ _ _ _ _)
   | (with_reducible exact spec_l21Ok.mono _ _)
   | (with_reducible exact LeO.refl _)
   | (with_reducible exact LeO.none _)
   | (with_reducible refine LeO.ite ?_ ?_)
   | (with_reducible refine LeO.bind ?_ (fun _ => ?_))
   | exact ih0 _ _ _
   | exact ih1 _ _ _
   | exact ih2 _ _ _ _
   | exact ih3 _ _ _ _
   | exact spec_l21Check.mono _ _ _ _ _
   | exact spec_l21Ok.mono _ _
   | exact LeO.none _
   | refine LeO.ite ?_ ?_
   | refine LeO.bind ?_ (fun _ => ?_)
def spec_l21Checks.T6 : Bool × List (List Nat × List Nat) := (true, [([], []), ([], []), ([], []), ([1, 2], [1, 2]), ([0, 3], [0, 3]), ([4], [4]), ([5, 4], [5]), ([6], [6]), ([7, 6], [6, 7]), ([8, 6, 6], [6, 8]), ([9], [9]), ([9], [9]), ([11, 9], [9, 11]), ([10, 12, 9], [9, 10, 12]), ([13, 9], [9, 13]), ([14, 9], [9, 14]), ([9], [9]), ([9], [9]), ([16, 17, 9], [9, 16, 17]), ([18, 9], [9, 18]), ([19, 9], [9, 19]), ([15, 20, 9], [9, 15, 20]), ([9, 21, 6], [6, 9, 21]), ([6, 22], [6, 22])])
def spec_l21Checks.B6 : List Nat := [0, 0, 0, 6, 15, 31, 63, 127, 255, 511, 1023, 1023, 3071, 8191, 16383, 32767, 1023, 1023, 197631, 459775, 984063, 2097151, 4194303, 8388607]
theorem spec_l21Checks.tab6 : rtab .any (opsOf Try.f63 6) = spec_l21Checks.T6 := by kernel_rfl
theorem spec_l21Checks.bits6 : waitsOk spec_l21Checks.T6.2 spec_l21Checks.B6 = true := by kernel_rfl
def spec_l21Checks.T11 : Bool × List (List Nat × List Nat) := (true, [([], []), ([], []), ([0, 1], [0, 1]), ([2], [2]), ([3], [3]), ([], []), ([], []), ([5, 6], [5, 6]), ([7], [7]), ([8], [8]), ([4, 9], [4, 9]), ([10], [10]), ([11], [11]), ([11], [11]), ([12, 13, 11], [11, 12, 13]), ([14, 11], [11, 14]), ([15, 11], [11, 15]), ([11], [11]), ([11], [11]), ([17, 18, 11], [11, 17, 18]), ([19, 11], [11, 19]), ([20, 11], [11, 20]), ([16, 21, 11], [11, 16, 21]), ([22, 11, 11], [11, 22]), ([23], [23]), ([23], [23]), ([24, 25, 23], [23, 24, 25]), ([26, 23], [23, 26]), ([27, 23], [23, 27]), ([23], [23]), ([23], [23]), ([29, 30, 23], [23, 29, 30]), ([31, 23], [23, 31]), ([32, 23], [23, 32]), ([28, 33, 23], [23, 28, 33]), ([23, 34, 11], [11, 23, 34]), ([11, 35], [11, 35])])
def spec_l21Checks.B11 : List Nat := [0, 0, 3, 7, 15, 0, 0, 96, 224, 480, 1023, 2047, 4095, 4095, 16383, 32767, 65535, 4095, 4095, 397311, 921599, 1970175, 4194303, 8388607, 16777215, 16777215, 67108863, 134217727, 268435455, 16777215, 16777215, 1627389951, 3774873599, 8069840895, 17179869183, 34359738367, 68719476735]
theorem spec_l21Checks.tab11 : rtab .any (opsOf Try.f63 11) = spec_l21Checks.T11 := by kernel_rfl
theorem spec_l21Checks.bits11 : waitsOk spec_l21Checks.T11.2 spec_l21Checks.B11 = true := by kernel_rfl
set_option maxHeartbeats 8000000 in
set_option maxRecDepth 100000 in
theorem spec_l21Checks.calls (k : Nat) (A0 : Option Addr) (c0 : Nat) (l0 : List (S73)) (A1 : Option Addr) (c1 : Nat) (l1 : List (S53)) (r : Bool) (w : World) (hr0 : Kd.C k73 w A0 l0.length l0) (hc0 : l0.length ≤ c0) (hr1 : Kd.C k53 w A1 l1.length l1) (hc1 : l1.length ≤ c1) (h : spec_l21Checks.f k l0 l1 = some r) :
  Calls Try.prog 63 #[.slice A0 l0.length c0, .slice A1 l1.length c1] w fun e w' => e = .returned (.bool r) ∧ Below w.heap.size w w' := by
 have HR0 := Aside0.mk hr0
 have HC0 := Aside0.mk hc0
 clear hr0 hc0
 have HR1 := Aside0.mk hr1
 have HC1 := Aside0.mk hc1
 clear hr1 hc1
 have HB := Aside0.mk (Below.refl w.heap.size w)
 have H : ((spec_l21Ok.f k l0).bind fun t213 => (if t213 = true then (spec_l21Checks.j0 k l0 l1 (decide ((l1.length : Int) > 60))) else (spec_l21Checks.j0 k l0 l1 true))) = some r := h
 clear h
 have HC3 := Aside0.mk H
 clear H
 go_enter Try.func63, Try.ntmps63
 go_upto_region 1 with (fail)
 go_cut [14] (fun v14 wc => ∃ (kq : Nat) (x14_2 : Bool), v14 = .bool x14_2 ∧ Aside0 (spec_l21Checks.j0 kq l0 l1 x14_2 = some r) ∧ Aside0 (kq ≤ k) ∧ Aside0 (Below w.heap.size w wc))
 case first =>
  have H := HC3.out
  clear HC3
  replace H := Option.bind_eq_some_iff.mp H
  obtain ⟨t213, A40, H⟩ := H
  replace H : (if t213 = true then (spec_l21Checks.j0 k l0 l1 (decide ((l1.length : Int) > 60))) else (spec_l21Checks.j0 k l0 l1 true)) = some r := H
  have A4 := Aside0.mk A40
  clear A40
  by_cases c5 : t213 = true
  ·subst c5
   have H1 : (spec_l21Checks.j0 k l0 l1 (decide ((l1.length : Int) > 60))) = some r := by rw [if_pos rfl] at H; exact H
   clear H
   have H := H1
   clear H1
   have H' := Aside0.mk H
   clear H
   go_wp2_with (first | ((with_reducible refine gate_callee (f := 58) rfl ?_); refine goesL_ (some 8) rfl rfl Try.func58 (by kernel_rfl) rfl #[.slice A0 l0.length c0] rfl ln_ ?_; (with_reducible refine (spec_l21Ok.calls k _ _ l0 true _ ?side1 ?side2 A4.out).mono ?_); (case side1 => exact kc_ (Kd.C_below HR0.out HB.out)); (case side2 => exact HC0.out); rintro e w6 ⟨rfl, hb⟩; refine ⟨_, rfl, ?_⟩; have n0_ := Aside0.mk (below_step hb_ hb); clear HB; have HB := n0_; clear n0_; (try clear hb); (try clear hb2); (try clear hk); (try clear hi)))
   go_meet
   case rel => exact ⟨_, (decide ((l1.length : Int) > 60)), (by first | rfl | (simp; done) | (simp [*]; done)), H', ⟨by first | omega | exact Nat.le_refl _⟩, ⟨hb_⟩⟩
  ·replace c5 := Bool.eq_false_iff.mpr c5
   subst c5
   have H1 : (spec_l21Checks.j0 k l0 l1 true) = some r := by rw [if_neg (show ¬ (false = true) by decide)] at H; exact H
   clear H
   have H := H1
   clear H1
   have H' := Aside0.mk H
   clear H
   go_wp2_with (first | ((with_reducible refine gate_callee (f := 58) rfl ?_); refine goesL_ (some 8) rfl rfl Try.func58 (by kernel_rfl) rfl #[.slice A0 l0.length c0] rfl ln_ ?_; (with_reducible refine (spec_l21Ok.calls k _ _ l0 false _ ?side1 ?side2 A4.out).mono ?_); (case side1 => exact kc_ (Kd.C_below HR0.out HB.out)); (case side2 => exact HC0.out); rintro e w7 ⟨rfl, hb⟩; refine ⟨_, rfl, ?_⟩; have n0_ := Aside0.mk (below_step hb_ hb); clear HB; have HB := n0_; clear n0_; (try clear hb); (try clear hb2); (try clear hk); (try clear hi)))
   go_meet
   case rel => exact ⟨_, (true), (by first | rfl | (simp; done) | (simp [*]; done)), H', ⟨by first | omega | exact Nat.le_refl _⟩, ⟨hb_⟩⟩
 case rest =>
  clear HC3
  try clear c1
  try clear p2
  try clear c5
  try clear c6
  obtain ⟨kq, x14_2, rfl, HA, HJ2, HB⟩ := hcut
  cases kq with
  | zero => exact absurd HA.out (by simp [spec_l21Checks.j0])
  | succ kj2 =>
   have H := HA.out
   clear HA
   simp only [spec_l21Checks.j0] at H
   by_cases c8 : x14_2 = true
   ·subst c8
    have H1 : (some false) = some r := by rw [if_pos rfl] at H; exact H
    clear H
    have H := H1
    clear H1
    obtain rfl := Option.some.inj H
    go_wp2
    go_ret
    exact ⟨ew_, hb_⟩
   ·replace c8 := Bool.eq_false_iff.mpr c8
    subst c8
    have H1 : (spec_l21Checks.l0 kj2 l0 l1 0) = some r := by rw [if_neg (show ¬ (false = true) by decide)] at H; exact H
    clear H
    have H := H1
    clear H1
    have H' := Aside0.mk H
    clear H
    go_wp2
    go_loopg [5] kj2 (fun kq v5 w' => ∃ (x5_2 : Int), v5 = .int .i64 x5_2 ∧ Aside0 (spec_l21Checks.l0 kq l0 l1 x5_2 = some r) ∧ Aside0 (kq ≤ kj2) ∧ Aside0 (Below w.heap.size w w'))
    case atStart => exact ⟨(0), (by first | rfl | (simp; done) | (simp [*]; done)), H', ⟨Nat.le_refl _⟩, ⟨hb_⟩⟩
    case round =>
     clear H'
     try clear c1
     try clear p2
     try clear c5
     try clear c6
     try clear c8
     try clear p2
     obtain ⟨x5_2, rfl, HA, HK2, HB⟩ := hrel
     cases gk with
     | zero => exact absurd HA.out (by simp [spec_l21Checks.l0])
     | succ k2 =>
      have H := HA.out
      clear HA
      simp only [spec_l21Checks.l0] at H
      by_cases c9 : x5_2 < (l1.length : Int)
      ·rw [if_pos c9] at H
       have c9b0 : decide (x5_2 < (l1.length : Int)) = true := decide_eq_true c9
       clear c9
       have HC10 := Aside0.mk H
       clear H
       go_upto_region 6 with (fail)
       go_cut [44] (fun v44 wc => ∃ (kq : Nat) (x44_9 : Bool), v44 = .bool x44_9 ∧ Aside0 (spec_l21Checks.j2 kq l0 l1 x5_2 x44_9 = some r) ∧ Aside0 (kq ≤ k2) ∧ Aside0 (Below w.heap.size w wc))
       case first =>
        have H := HC10.out
        clear HC10
        by_cases c11 : 0 ≤ x5_2
        ·rw [if_pos c11] at H
         have c11b0 : decide (0 ≤ x5_2) = true := decide_eq_true c11
         clear c11
         (first | rw [c11b0] | (simp only [i64_w, i32_w]; rw [c11b0]) | skip)
         replace H := Option.bind_eq_some_iff.mp H
         obtain ⟨t215, A120, H⟩ := H
         replace H : (if t215 = true then (if x5_2 > 0 then (if 0 ≤ (wrap64 (x5_2 - 1)) then (if (wrap64 (x5_2 - 1)) < (l1.length : Int) then (spec_l21Checks.j2 k2 l0 l1 x5_2 (decide (((rd_T53 l1 (wrap64 (x5_2 - 1))).f1) > ((rd_T53 l1 x5_2).f1)))) else (none)) else (none)) else (spec_l21Checks.j2 k2 l0 l1 x5_2 false)) else (spec_l21Checks.j2 k2 l0 l1 x5_2 true)) = some r := H
         have A12 := Aside0.mk A120
         clear A120
         by_cases c13 : t215 = true
         ·subst c13
          have H1 : (if x5_2 > 0 then (if 0 ≤ (wrap64 (x5_2 - 1)) then (if (wrap64 (x5_2 - 1)) < (l1.length : Int) then (spec_l21Checks.j2 k2 l0 l1 x5_2 (decide (((rd_T53 l1 (wrap64 (x5_2 - 1))).f1) > ((rd_T53 l1 x5_2).f1)))) else (none)) else (none)) else (spec_l21Checks.j2 k2 l0 l1 x5_2 false)) = some r := by rw [if_pos rfl] at H; exact H
          clear H
          have H := H1
          clear H1
          by_cases c14 : x5_2 > 0
          ·rw [if_pos c14] at H
           have c14b0 : decide (0 < x5_2) = true := decide_eq_true c14
           clear c14
           obtain ⟨ji15, hji15⟩ : ∃ j_ : Int, (wrap64 (x5_2 - 1)) = j_ := ⟨_, rfl⟩
           replace H : (if 0 ≤ (ji15) then (if (ji15) < (l1.length : Int) then (spec_l21Checks.j2 k2 l0 l1 x5_2 (decide (((rd_T53 l1 (ji15)).f1) > ((rd_T53 l1 x5_2).f1)))) else (none)) else (none)) = some r := by first | (rw [hji15] at H; exact H) | (simp only [hji15] at H ⊢; exact H)
           (try rw [hji15] at A12)
           have hji15w : (IntKind.i64.wrap (x5_2 - 1)) = ji15 := (i64_w _).trans hji15
           by_cases c16 : 0 ≤ (ji15)
           ·rw [if_pos c16] at H
            have c16b0 : decide (0 ≤ (ji15)) = true := decide_eq_true c16
            clear c16
            by_cases c17 : (ji15) < (l1.length : Int)
            ·rw [if_pos c17] at H
             have c17b0 : decide ((ji15) < (l1.length : Int)) = true := decide_eq_true c17
             clear c17
             have H' := Aside0.mk H
             clear H
             try go_wp2
             have n0_ := Aside0.mk (below_drew1 HB.out)
             clear HB
             have HB := n0_
             clear n0_
             have p214 : 0 ≤ (x5_2 : Int) := od_
             have q214 : x5_2 < (l1.length : Int) := od_
             obtain ⟨ad214, e214, hx214_0, hx214_1, hx214_2⟩ := at_T53 HR1.out x5_2 p214 q214
             have hw214_2 := hx214_2
             have hw214_1 := hx214_1
             have hw214_0 := hx214_0
             cases e214
             replace hx214_0 := cq_ HB hx214_0
             replace hx214_1 := cq_ HB hx214_1
             replace hx214_2 := cq_ HB hx214_2
             replace p214 := eq_true p214
             replace q214 := eq_true q214
             have p216 : 0 ≤ ((ji15) : Int) := od_
             have q216 : (ji15) < (l1.length : Int) := od_
             obtain ⟨ad216, e216, hx216_0, hx216_1, hx216_2⟩ := at_T53 HR1.out (ji15) p216 q216
             have hw216_2 := hx216_2
             have hw216_1 := hx216_1
             have hw216_0 := hx216_0
             obtain rfl : ad214 = ad216 := (by injection e216)
             replace hx216_0 := cq_ HB hx216_0
             replace hx216_1 := cq_ HB hx216_1
             replace hx216_2 := cq_ HB hx216_2
             replace p216 := eq_true p216
             replace q216 := eq_true q216
             have p217 : 0 ≤ (x5_2 : Int) := od_
             have q217 : x5_2 < (l1.length : Int) := od_
             obtain ⟨ad217, e217, hx217_0, hx217_1, hx217_2⟩ := at_T53 HR1.out x5_2 p217 q217
             have hw217_2 := hx217_2
             have hw217_1 := hx217_1
             have hw217_0 := hx217_0
             obtain rfl : ad214 = ad217 := (by injection e217)
             replace hx217_0 := cq_ HB hx217_0
             replace hx217_1 := cq_ HB hx217_1
             replace hx217_2 := cq_ HB hx217_2
             replace p217 := eq_true p217
             replace q217 := eq_true q217
             refine start_ (n := 24) (S := fun w' => w'.cell? (ad214.add ((x5_2).toNat * 3)) = some (.string ((rd_T53 l1 x5_2).f0)) ∧ w'.cell? ⟨(ad214.add ((x5_2).toNat * 3)).block, (ad214.add ((x5_2).toNat * 3)).off + 1, none⟩ = some (.int .i64 ((rd_T53 l1 x5_2).f1)) ∧ w'.cell? ⟨(ad214.add ((x5_2).toNat * 3)).block, (ad214.add ((x5_2).toNat * 3)).off + 2, none⟩ = some (.int .i64 ((rd_T53 l1 x5_2).f2)) ∧ w'.cell? (ad214.add (((ji15)).toNat * 3)) = some (.string ((rd_T53 l1 (ji15)).f0)) ∧ w'.cell? ⟨(ad214.add (((ji15)).toNat * 3)).block, (ad214.add (((ji15)).toNat * 3)).off + 1, none⟩ = some (.int .i64 ((rd_T53 l1 (ji15)).f1)) ∧ w'.cell? ⟨(ad214.add (((ji15)).toNat * 3)).block, (ad214.add (((ji15)).toNat * 3)).off + 2, none⟩ = some (.int .i64 ((rd_T53 l1 (ji15)).f2)) ∧ w'.cell? (ad214.add ((x5_2).toNat * 3)) = some (.string ((rd_T53 l1 x5_2).f0)) ∧ w'.cell? ⟨(ad214.add ((x5_2).toNat * 3)).block, (ad214.add ((x5_2).toNat * 3)).off + 1, none⟩ = some (.int .i64 ((rd_T53 l1 x5_2).f1)) ∧ w'.cell? ⟨(ad214.add ((x5_2).toNat * 3)).block, (ad214.add ((x5_2).toNat * 3)).off + 2, none⟩ = some (.int .i64 ((rd_T53 l1 x5_2).f2))) (ds := []) #[F_,F_,F_,F_,F_,F_,F_,F_,F_,F_,F_,F_,F_,F_,F_,F_,F_,F_,F_,F_,F_,F_,F_,F_] (by kernel_rfl) rfl rfl ⟨((HB.out.cell (World.block_lt_of_cell? w _ hw214_0)).trans hw214_0), ((HB.out.cell (World.block_lt_of_cell? w _ hw214_1)).trans hw214_1), ((HB.out.cell (World.block_lt_of_cell? w _ hw214_2)).trans hw214_2), ((HB.out.cell (World.block_lt_of_cell? w _ hw216_0)).trans hw216_0), ((HB.out.cell (World.block_lt_of_cell? w _ hw216_1)).trans hw216_1), ((HB.out.cell (World.block_lt_of_cell? w _ hw216_2)).trans hw216_2), ((HB.out.cell (World.block_lt_of_cell? w _ hw217_0)).trans hw217_0), ((HB.out.cell (World.block_lt_of_cell? w _ hw217_1)).trans hw217_1), ((HB.out.cell (World.block_lt_of_cell? w _ hw217_2)).trans hw217_2)⟩ (fun hHeld => ?_); refine with_tabW spec_l21Checks.tab6 spec_l21Checks.bits6 (fun HT_ HW_ => ?_)
             generalize wr.drew = w18 at HB hx214_0 hx214_1 hx214_2 hx216_0 hx216_1 hx216_2 hx217_0 hx217_1 hx217_2 hHeld ⊢
             refine pu (i := 0) (N := some 21) #[T_,F_,F_,F_,F_,F_,F_,F_,F_,F_,F_,F_,F_,F_,F_,F_,F_,F_,F_,F_,F_,F_,F_,F_] HT_ ?_
             refine pu (i := 1) (N := some 22) #[T_,T_,F_,F_,F_,F_,F_,F_,F_,F_,F_,F_,F_,F_,F_,F_,F_,F_,F_,F_,F_,F_,F_,F_] HT_ ?_
             refine pu (i := 2) (N := some 23) #[T_,T_,T_,F_,F_,F_,F_,F_,F_,F_,F_,F_,F_,F_,F_,F_,F_,F_,F_,F_,F_,F_,F_,F_] HT_ ?_
             refine pu (i := 3) (N := some 24) #[T_,T_,T_,T_,F_,F_,F_,F_,F_,F_,F_,F_,F_,F_,F_,F_,F_,F_,F_,F_,F_,F_,F_,F_] HT_ ?_
             refine one_ (i := 4) (N := some 25) #[T_,T_,T_,T_,T_,F_,F_,F_,F_,F_,F_,F_,F_,F_,F_,F_,F_,F_,F_,F_,F_,F_,F_,F_] rfl rfl (one_of HT_.out (by kernel_rfl)) (by decide) (fun K hK => ?_)
             refine goes_ Try.func75 (by kernel_rfl) rfl #[.slice A0 l0.length c0, .pointer (some (ad214.add ((x5_2).toNat * 3)))] (by rfl) rfl rfl ln_ ?_
             with_reducible refine (spec_l21Check.calls k2 _ _ l0 _ ((rd_T53 l1 x5_2).f0) ((rd_T53 l1 x5_2).f1) ((rd_T53 l1 x5_2).f2) true _ ?side1 ?side2 ?side3 ?side4 ?side5 A12.out).mono ?_
             (case side1 => exact kc_ (Kd.C_below HR0.out HB.out))
             (case side2 => exact HC0.out)
             (case side3 => first | exact hx214_0 | (simpa using hx214_0) | (go_simp; done))
             (case side4 => first | exact hx214_1 | (simpa using hx214_1) | (go_simp; done))
             (case side5 => first | exact hx214_2 | (simpa using hx214_2) | (go_simp; done))
             rintro e w19 ⟨rfl, hb⟩
             refine ⟨_, rfl, ?_⟩
             have n0_ := Aside0.mk (below_step hb_ hb)
             clear HB
             have HB := n0_
             clear n0_
             (try clear hb)
             (try clear hb2)
             (try clear hk)
             (try clear hi)
             refine hK.out _ _ ⟨((HB.out.cell (World.block_lt_of_cell? w _ hw214_0)).trans hw214_0), ((HB.out.cell (World.block_lt_of_cell? w _ hw214_1)).trans hw214_1), ((HB.out.cell (World.block_lt_of_cell? w _ hw214_2)).trans hw214_2), ((HB.out.cell (World.block_lt_of_cell? w _ hw216_0)).trans hw216_0), ((HB.out.cell (World.block_lt_of_cell? w _ hw216_1)).trans hw216_1), ((HB.out.cell (World.block_lt_of_cell? w _ hw216_2)).trans hw216_2), ((HB.out.cell (World.block_lt_of_cell? w _ hw217_0)).trans hw217_0), ((HB.out.cell (World.block_lt_of_cell? w _ hw217_1)).trans hw217_1), ((HB.out.cell (World.block_lt_of_cell? w _ hw217_2)).trans hw217_2)⟩ (fun hHeld => ?_)
             clear hK K
             refine norm_ (a' := ?_) ?_ ?_
             rotate_left
             ·show Act.put _ (some 25) _ = _
              simp only [Act.put, sT_, s0_, sS_, i64_w, i32_w]
              rfl
             refine pu (i := 5) (N := some 26) #[T_,T_,T_,T_,T_,T_,F_,F_,F_,F_,F_,F_,F_,F_,F_,F_,F_,F_,F_,F_,F_,F_,F_,F_] HT_ ?_
             refine pu (i := 6) (N := some 27) #[T_,T_,T_,T_,T_,T_,T_,F_,F_,F_,F_,F_,F_,F_,F_,F_,F_,F_,F_,F_,F_,F_,F_,F_] HT_ ?_
             refine pu (i := 7) (N := some 28) #[T_,T_,T_,T_,T_,T_,T_,T_,F_,F_,F_,F_,F_,F_,F_,F_,F_,F_,F_,F_,F_,F_,F_,F_] HT_ ?_
             refine pu (i := 8) (N := some 29) #[T_,T_,T_,T_,T_,T_,T_,T_,T_,F_,F_,F_,F_,F_,F_,F_,F_,F_,F_,F_,F_,F_,F_,F_] HT_ ?_
             refine pu (i := 9) (N := some 30) #[T_,T_,T_,T_,T_,T_,T_,T_,T_,T_,F_,F_,F_,F_,F_,F_,F_,F_,F_,F_,F_,F_,F_,F_] HT_ ?_
             refine pu (i := 10) (N := some 31) #[T_,T_,T_,T_,T_,T_,T_,T_,T_,T_,T_,F_,F_,F_,F_,F_,F_,F_,F_,F_,F_,F_,F_,F_] HT_ ?_
             refine pu (i := 11) (N := some 32) #[T_,T_,T_,T_,T_,T_,T_,T_,T_,T_,T_,T_,F_,F_,F_,F_,F_,F_,F_,F_,F_,F_,F_,F_] HT_ ?_
             refine pu (i := 12) (N := some 33) #[T_,T_,T_,T_,T_,T_,T_,T_,T_,T_,T_,T_,T_,F_,F_,F_,F_,F_,F_,F_,F_,F_,F_,F_] HT_ ?_
             refine pu (i := 13) (N := some 34) #[T_,T_,T_,T_,T_,T_,T_,T_,T_,T_,T_,T_,T_,T_,F_,F_,F_,F_,F_,F_,F_,F_,F_,F_] HT_ ?_
             refine pu (i := 14) (N := some 35) #[T_,T_,T_,T_,T_,T_,T_,T_,T_,T_,T_,T_,T_,T_,T_,F_,F_,F_,F_,F_,F_,F_,F_,F_] HT_ ?_
             refine pu (i := 16) (N := some 37) #[T_,T_,T_,T_,T_,T_,T_,T_,T_,T_,T_,T_,T_,T_,T_,F_,T_,F_,F_,F_,F_,F_,F_,F_] HT_ ?_
             refine pu (i := 17) (N := some 38) #[T_,T_,T_,T_,T_,T_,T_,T_,T_,T_,T_,T_,T_,T_,T_,F_,T_,T_,F_,F_,F_,F_,F_,F_] HT_ ?_
             refine pu (i := 18) (N := some 39) #[T_,T_,T_,T_,T_,T_,T_,T_,T_,T_,T_,T_,T_,T_,T_,F_,T_,T_,T_,F_,F_,F_,F_,F_] HT_ ?_
             refine pu (i := 19) (N := some 40) #[T_,T_,T_,T_,T_,T_,T_,T_,T_,T_,T_,T_,T_,T_,T_,F_,T_,T_,T_,T_,F_,F_,F_,F_] HT_ ?_
             refine take_ (i := 15) (N := some 36) (v := ?_) (a' := ?_) #[T_,T_,T_,T_,T_,T_,T_,T_,T_,T_,T_,T_,T_,T_,T_,T_,T_,T_,T_,T_,F_,F_,F_,F_] rfl rfl (take_ofW HT_.out HW_.out (by kernel_rfl)) (fun _ _ _ h => h) (Or.inl ⟨by rfl, ?_⟩) hHeld ?_ ?_
             rotate_left
             ·rintro w' ⟨s0, s1, s2, s3, s4, s5, s6, s7, s8⟩
              go_simp
              with_reducible rfl
             rotate_left
             ·simp only [Act.put, sT_, s0_, sS_, i64_w, i32_w]
              rfl
             refine take_ (i := 20) (N := some 41) (v := ?_) (a' := ?_) #[T_,T_,T_,T_,T_,T_,T_,T_,T_,T_,T_,T_,T_,T_,T_,T_,T_,T_,T_,T_,T_,F_,F_,F_] rfl rfl (take_ofW HT_.out HW_.out (by kernel_rfl)) (fun _ _ _ h => h) (Or.inl ⟨by rfl, ?_⟩) hHeld ?_ ?_
             rotate_left
             ·rintro w' ⟨s0, s1, s2, s3, s4, s5, s6, s7, s8⟩
              go_simp
              with_reducible rfl
             rotate_left
             ·simp only [Act.put, sT_, s0_, sS_, i64_w, i32_w]
              rfl
             refine pu (i := 21) (N := some 42) #[T_,T_,T_,T_,T_,T_,T_,T_,T_,T_,T_,T_,T_,T_,T_,T_,T_,T_,T_,T_,T_,T_,F_,F_] HT_ ?_
             refine pu (i := 22) (N := some 43) #[T_,T_,T_,T_,T_,T_,T_,T_,T_,T_,T_,T_,T_,T_,T_,T_,T_,T_,T_,T_,T_,T_,T_,F_] HT_ ?_
             refine pu (i := 23) (N := some 44) #[T_,T_,T_,T_,T_,T_,T_,T_,T_,T_,T_,T_,T_,T_,T_,T_,T_,T_,T_,T_,T_,T_,T_,T_] HT_ ?_
             refine done_ (done_of HT_.out (by kernel_rfl)) ?_
             try go_wp2
             go_meet
             case rel => exact ⟨_, (decide (((rd_T53 l1 (ji15)).f1) > ((rd_T53 l1 x5_2).f1))), (by first | rfl | (simp; done) | (simp only [← hji15] <;> (first | rfl | simp)) | (simp [*]; done)), H', ⟨by have := HJ2.out; have := HK2.out; first | omega | exact Nat.le_refl _⟩, ⟨hb_⟩⟩
            ·rw [if_neg c17] at H
             exact absurd H (by simp)
           ·rw [if_neg c16] at H
            exact absurd H (by simp)
          ·rw [if_neg c14] at H
           have c14b0 : decide (0 < x5_2) = false := decide_eq_false c14
           clear c14
           have H' := Aside0.mk H
           clear H
           try go_wp2
           have n0_ := Aside0.mk (below_drew1 HB.out)
           clear HB
           have HB := n0_
           clear n0_
           have p214 : 0 ≤ (x5_2 : Int) := od_
           have q214 : x5_2 < (l1.length : Int) := od_
           obtain ⟨ad214, e214, hx214_0, hx214_1, hx214_2⟩ := at_T53 HR1.out x5_2 p214 q214
           have hw214_2 := hx214_2
           have hw214_1 := hx214_1
           have hw214_0 := hx214_0
           cases e214
           replace hx214_0 := cq_ HB hx214_0
           replace hx214_1 := cq_ HB hx214_1
           replace hx214_2 := cq_ HB hx214_2
           replace p214 := eq_true p214
           replace q214 := eq_true q214
           refine start_ (n := 24) (S := fun w' => w'.cell? (ad214.add ((x5_2).toNat * 3)) = some (.string ((rd_T53 l1 x5_2).f0)) ∧ w'.cell? ⟨(ad214.add ((x5_2).toNat * 3)).block, (ad214.add ((x5_2).toNat * 3)).off + 1, none⟩ = some (.int .i64 ((rd_T53 l1 x5_2).f1)) ∧ w'.cell? ⟨(ad214.add ((x5_2).toNat * 3)).block, (ad214.add ((x5_2).toNat * 3)).off + 2, none⟩ = some (.int .i64 ((rd_T53 l1 x5_2).f2))) (ds := []) #[F_,F_,F_,F_,F_,F_,F_,F_,F_,F_,F_,F_,F_,F_,F_,F_,F_,F_,F_,F_,F_,F_,F_,F_] (by kernel_rfl) rfl rfl ⟨((HB.out.cell (World.block_lt_of_cell? w _ hw214_0)).trans hw214_0), ((HB.out.cell (World.block_lt_of_cell? w _ hw214_1)).trans hw214_1), ((HB.out.cell (World.block_lt_of_cell? w _ hw214_2)).trans hw214_2)⟩ (fun hHeld => ?_); refine with_tabW spec_l21Checks.tab6 spec_l21Checks.bits6 (fun HT_ HW_ => ?_)
           generalize wr.drew = w20 at HB hx214_0 hx214_1 hx214_2 hHeld ⊢
           refine pu (i := 0) (N := some 21) #[T_,F_,F_,F_,F_,F_,F_,F_,F_,F_,F_,F_,F_,F_,F_,F_,F_,F_,F_,F_,F_,F_,F_,F_] HT_ ?_
           refine pu (i := 1) (N := some 22) #[T_,T_,F_,F_,F_,F_,F_,F_,F_,F_,F_,F_,F_,F_,F_,F_,F_,F_,F_,F_,F_,F_,F_,F_] HT_ ?_
           refine pu (i := 2) (N := some 23) #[T_,T_,T_,F_,F_,F_,F_,F_,F_,F_,F_,F_,F_,F_,F_,F_,F_,F_,F_,F_,F_,F_,F_,F_] HT_ ?_
           refine pu (i := 3) (N := some 24) #[T_,T_,T_,T_,F_,F_,F_,F_,F_,F_,F_,F_,F_,F_,F_,F_,F_,F_,F_,F_,F_,F_,F_,F_] HT_ ?_
           refine one_ (i := 4) (N := some 25) #[T_,T_,T_,T_,T_,F_,F_,F_,F_,F_,F_,F_,F_,F_,F_,F_,F_,F_,F_,F_,F_,F_,F_,F_] rfl rfl (one_of HT_.out (by kernel_rfl)) (by decide) (fun K hK => ?_)
           refine goes_ Try.func75 (by kernel_rfl) rfl #[.slice A0 l0.length c0, .pointer (some (ad214.add ((x5_2).toNat * 3)))] (by rfl) rfl rfl ln_ ?_
           with_reducible refine (spec_l21Check.calls k2 _ _ l0 _ ((rd_T53 l1 x5_2).f0) ((rd_T53 l1 x5_2).f1) ((rd_T53 l1 x5_2).f2) true _ ?side1 ?side2 ?side3 ?side4 ?side5 A12.out).mono ?_
           (case side1 => exact kc_ (Kd.C_below HR0.out HB.out))
           (case side2 => exact HC0.out)
           (case side3 => first | exact hx214_0 | (simpa using hx214_0) | (go_simp; done))
           (case side4 => first | exact hx214_1 | (simpa using hx214_1) | (go_simp; done))
           (case side5 => first | exact hx214_2 | (simpa using hx214_2) | (go_simp; done))
           rintro e w21 ⟨rfl, hb⟩
           refine ⟨_, rfl, ?_⟩
           have n0_ := Aside0.mk (below_step hb_ hb)
           clear HB
           have HB := n0_
           clear n0_
           (try clear hb)
           (try clear hb2)
           (try clear hk)
           (try clear hi)
           refine hK.out _ _ ⟨((HB.out.cell (World.block_lt_of_cell? w _ hw214_0)).trans hw214_0), ((HB.out.cell (World.block_lt_of_cell? w _ hw214_1)).trans hw214_1), ((HB.out.cell (World.block_lt_of_cell? w _ hw214_2)).trans hw214_2)⟩ (fun hHeld => ?_)
           clear hK K
           refine norm_ (a' := ?_) ?_ ?_
           rotate_left
           ·show Act.put _ (some 25) _ = _
            simp only [Act.put, sT_, s0_, sS_, i64_w, i32_w]
            rfl
           refine pu (i := 5) (N := some 26) #[T_,T_,T_,T_,T_,T_,F_,F_,F_,F_,F_,F_,F_,F_,F_,F_,F_,F_,F_,F_,F_,F_,F_,F_] HT_ ?_
           refine pu (i := 6) (N := some 27) #[T_,T_,T_,T_,T_,T_,T_,F_,F_,F_,F_,F_,F_,F_,F_,F_,F_,F_,F_,F_,F_,F_,F_,F_] HT_ ?_
           refine pu (i := 7) (N := some 28) #[T_,T_,T_,T_,T_,T_,T_,T_,F_,F_,F_,F_,F_,F_,F_,F_,F_,F_,F_,F_,F_,F_,F_,F_] HT_ ?_
           refine pu (i := 8) (N := some 29) #[T_,T_,T_,T_,T_,T_,T_,T_,T_,F_,F_,F_,F_,F_,F_,F_,F_,F_,F_,F_,F_,F_,F_,F_] HT_ ?_
           refine pu (i := 9) (N := some 30) #[T_,T_,T_,T_,T_,T_,T_,T_,T_,T_,F_,F_,F_,F_,F_,F_,F_,F_,F_,F_,F_,F_,F_,F_] HT_ ?_
           refine pn (i := 10) (N := some 31) #[T_,T_,T_,T_,T_,T_,T_,T_,T_,T_,T_,F_,F_,F_,F_,F_,F_,F_,F_,F_,F_,F_,F_,F_] HT_ ?_
           refine pn (i := 11) (N := some 32) #[T_,T_,T_,T_,T_,T_,T_,T_,T_,T_,T_,T_,F_,F_,F_,F_,F_,F_,F_,F_,F_,F_,F_,F_] HT_ ?_
           refine pn (i := 12) (N := some 33) #[T_,T_,T_,T_,T_,T_,T_,T_,T_,T_,T_,T_,T_,F_,F_,F_,F_,F_,F_,F_,F_,F_,F_,F_] HT_ ?_
           refine pn (i := 13) (N := some 34) #[T_,T_,T_,T_,T_,T_,T_,T_,T_,T_,T_,T_,T_,T_,F_,F_,F_,F_,F_,F_,F_,F_,F_,F_] HT_ ?_
           refine pn (i := 14) (N := some 35) #[T_,T_,T_,T_,T_,T_,T_,T_,T_,T_,T_,T_,T_,T_,T_,F_,F_,F_,F_,F_,F_,F_,F_,F_] HT_ ?_
           refine pn (i := 15) (N := some 36) #[T_,T_,T_,T_,T_,T_,T_,T_,T_,T_,T_,T_,T_,T_,T_,T_,F_,F_,F_,F_,F_,F_,F_,F_] HT_ ?_
           refine pn (i := 16) (N := some 37) #[T_,T_,T_,T_,T_,T_,T_,T_,T_,T_,T_,T_,T_,T_,T_,T_,T_,F_,F_,F_,F_,F_,F_,F_] HT_ ?_
           refine pn (i := 17) (N := some 38) #[T_,T_,T_,T_,T_,T_,T_,T_,T_,T_,T_,T_,T_,T_,T_,T_,T_,T_,F_,F_,F_,F_,F_,F_] HT_ ?_
           refine pn (i := 18) (N := some 39) #[T_,T_,T_,T_,T_,T_,T_,T_,T_,T_,T_,T_,T_,T_,T_,T_,T_,T_,T_,F_,F_,F_,F_,F_] HT_ ?_
           refine pn (i := 19) (N := some 40) #[T_,T_,T_,T_,T_,T_,T_,T_,T_,T_,T_,T_,T_,T_,T_,T_,T_,T_,T_,T_,F_,F_,F_,F_] HT_ ?_
           refine pn (i := 20) (N := some 41) #[T_,T_,T_,T_,T_,T_,T_,T_,T_,T_,T_,T_,T_,T_,T_,T_,T_,T_,T_,T_,T_,F_,F_,F_] HT_ ?_
           refine pn (i := 21) (N := some 42) #[T_,T_,T_,T_,T_,T_,T_,T_,T_,T_,T_,T_,T_,T_,T_,T_,T_,T_,T_,T_,T_,T_,F_,F_] HT_ ?_
           refine pu (i := 22) (N := some 43) #[T_,T_,T_,T_,T_,T_,T_,T_,T_,T_,T_,T_,T_,T_,T_,T_,T_,T_,T_,T_,T_,T_,T_,F_] HT_ ?_
           refine pu (i := 23) (N := some 44) #[T_,T_,T_,T_,T_,T_,T_,T_,T_,T_,T_,T_,T_,T_,T_,T_,T_,T_,T_,T_,T_,T_,T_,T_] HT_ ?_
           refine done_ (done_of HT_.out (by kernel_rfl)) ?_
           try go_wp2
           go_meet
           case rel => exact ⟨_, (false), (by first | rfl | (simp; done) | (simp [*]; done)), H', ⟨by have := HJ2.out; have := HK2.out; first | omega | exact Nat.le_refl _⟩, ⟨hb_⟩⟩
         ·replace c13 := Bool.eq_false_iff.mpr c13
          subst c13
          have H1 : (spec_l21Checks.j2 k2 l0 l1 x5_2 true) = some r := by rw [if_neg (show ¬ (false = true) by decide)] at H; exact H
          clear H
          have H := H1
          clear H1
          have H' := Aside0.mk H
          clear H
          try go_wp2
          have n0_ := Aside0.mk (below_drew1 HB.out)
          clear HB
          have HB := n0_
          clear n0_
          have p214 : 0 ≤ (x5_2 : Int) := od_
          have q214 : x5_2 < (l1.length : Int) := od_
          obtain ⟨ad214, e214, hx214_0, hx214_1, hx214_2⟩ := at_T53 HR1.out x5_2 p214 q214
          have hw214_2 := hx214_2
          have hw214_1 := hx214_1
          have hw214_0 := hx214_0
          cases e214
          replace hx214_0 := cq_ HB hx214_0
          replace hx214_1 := cq_ HB hx214_1
          replace hx214_2 := cq_ HB hx214_2
          replace p214 := eq_true p214
          replace q214 := eq_true q214
          refine start_ (n := 24) (S := fun w' => w'.cell? (ad214.add ((x5_2).toNat * 3)) = some (.string ((rd_T53 l1 x5_2).f0)) ∧ w'.cell? ⟨(ad214.add ((x5_2).toNat * 3)).block, (ad214.add ((x5_2).toNat * 3)).off + 1, none⟩ = some (.int .i64 ((rd_T53 l1 x5_2).f1)) ∧ w'.cell? ⟨(ad214.add ((x5_2).toNat * 3)).block, (ad214.add ((x5_2).toNat * 3)).off + 2, none⟩ = some (.int .i64 ((rd_T53 l1 x5_2).f2))) (ds := []) #[F_,F_,F_,F_,F_,F_,F_,F_,F_,F_,F_,F_,F_,F_,F_,F_,F_,F_,F_,F_,F_,F_,F_,F_] (by kernel_rfl) rfl rfl ⟨((HB.out.cell (World.block_lt_of_cell? w _ hw214_0)).trans hw214_0), ((HB.out.cell (World.block_lt_of_cell? w _ hw214_1)).trans hw214_1), ((HB.out.cell (World.block_lt_of_cell? w _ hw214_2)).trans hw214_2)⟩ (fun hHeld => ?_); refine with_tabW spec_l21Checks.tab6 spec_l21Checks.bits6 (fun HT_ HW_ => ?_)
          generalize wr.drew = w22 at HB hx214_0 hx214_1 hx214_2 hHeld ⊢
          refine pu (i := 0) (N := some 21) #[T_,F_,F_,F_,F_,F_,F_,F_,F_,F_,F_,F_,F_,F_,F_,F_,F_,F_,F_,F_,F_,F_,F_,F_] HT_ ?_
          refine pu (i := 1) (N := some 22) #[T_,T_,F_,F_,F_,F_,F_,F_,F_,F_,F_,F_,F_,F_,F_,F_,F_,F_,F_,F_,F_,F_,F_,F_] HT_ ?_
          refine pu (i := 2) (N := some 23) #[T_,T_,T_,F_,F_,F_,F_,F_,F_,F_,F_,F_,F_,F_,F_,F_,F_,F_,F_,F_,F_,F_,F_,F_] HT_ ?_
          refine pu (i := 3) (N := some 24) #[T_,T_,T_,T_,F_,F_,F_,F_,F_,F_,F_,F_,F_,F_,F_,F_,F_,F_,F_,F_,F_,F_,F_,F_] HT_ ?_
          refine one_ (i := 4) (N := some 25) #[T_,T_,T_,T_,T_,F_,F_,F_,F_,F_,F_,F_,F_,F_,F_,F_,F_,F_,F_,F_,F_,F_,F_,F_] rfl rfl (one_of HT_.out (by kernel_rfl)) (by decide) (fun K hK => ?_)
          refine goes_ Try.func75 (by kernel_rfl) rfl #[.slice A0 l0.length c0, .pointer (some (ad214.add ((x5_2).toNat * 3)))] (by rfl) rfl rfl ln_ ?_
          with_reducible refine (spec_l21Check.calls k2 _ _ l0 _ ((rd_T53 l1 x5_2).f0) ((rd_T53 l1 x5_2).f1) ((rd_T53 l1 x5_2).f2) false _ ?side1 ?side2 ?side3 ?side4 ?side5 A12.out).mono ?_
          (case side1 => exact kc_ (Kd.C_below HR0.out HB.out))
          (case side2 => exact HC0.out)
          (case side3 => first | exact hx214_0 | (simpa using hx214_0) | (go_simp; done))
          (case side4 => first | exact hx214_1 | (simpa using hx214_1) | (go_simp; done))
          (case side5 => first | exact hx214_2 | (simpa using hx214_2) | (go_simp; done))
          rintro e w23 ⟨rfl, hb⟩
          refine ⟨_, rfl, ?_⟩
          have n0_ := Aside0.mk (below_step hb_ hb)
          clear HB
          have HB := n0_
          clear n0_
          (try clear hb)
          (try clear hb2)
          (try clear hk)
          (try clear hi)
          refine hK.out _ _ ⟨((HB.out.cell (World.block_lt_of_cell? w _ hw214_0)).trans hw214_0), ((HB.out.cell (World.block_lt_of_cell? w _ hw214_1)).trans hw214_1), ((HB.out.cell (World.block_lt_of_cell? w _ hw214_2)).trans hw214_2)⟩ (fun hHeld => ?_)
          clear hK K
          refine norm_ (a' := ?_) ?_ ?_
          rotate_left
          ·show Act.put _ (some 25) _ = _
           simp only [Act.put, sT_, s0_, sS_, i64_w, i32_w]
           rfl
          refine pu (i := 5) (N := some 26) #[T_,T_,T_,T_,T_,T_,F_,F_,F_,F_,F_,F_,F_,F_,F_,F_,F_,F_,F_,F_,F_,F_,F_,F_] HT_ ?_
          refine pu (i := 6) (N := some 27) #[T_,T_,T_,T_,T_,T_,T_,F_,F_,F_,F_,F_,F_,F_,F_,F_,F_,F_,F_,F_,F_,F_,F_,F_] HT_ ?_
          refine pn (i := 7) (N := some 28) #[T_,T_,T_,T_,T_,T_,T_,T_,F_,F_,F_,F_,F_,F_,F_,F_,F_,F_,F_,F_,F_,F_,F_,F_] HT_ ?_
          refine pn (i := 8) (N := some 29) #[T_,T_,T_,T_,T_,T_,T_,T_,T_,F_,F_,F_,F_,F_,F_,F_,F_,F_,F_,F_,F_,F_,F_,F_] HT_ ?_
          refine pn (i := 9) (N := some 30) #[T_,T_,T_,T_,T_,T_,T_,T_,T_,T_,F_,F_,F_,F_,F_,F_,F_,F_,F_,F_,F_,F_,F_,F_] HT_ ?_
          refine pn (i := 10) (N := some 31) #[T_,T_,T_,T_,T_,T_,T_,T_,T_,T_,T_,F_,F_,F_,F_,F_,F_,F_,F_,F_,F_,F_,F_,F_] HT_ ?_
          refine pn (i := 11) (N := some 32) #[T_,T_,T_,T_,T_,T_,T_,T_,T_,T_,T_,T_,F_,F_,F_,F_,F_,F_,F_,F_,F_,F_,F_,F_] HT_ ?_
          refine pn (i := 12) (N := some 33) #[T_,T_,T_,T_,T_,T_,T_,T_,T_,T_,T_,T_,T_,F_,F_,F_,F_,F_,F_,F_,F_,F_,F_,F_] HT_ ?_
          refine pn (i := 13) (N := some 34) #[T_,T_,T_,T_,T_,T_,T_,T_,T_,T_,T_,T_,T_,T_,F_,F_,F_,F_,F_,F_,F_,F_,F_,F_] HT_ ?_
          refine pn (i := 14) (N := some 35) #[T_,T_,T_,T_,T_,T_,T_,T_,T_,T_,T_,T_,T_,T_,T_,F_,F_,F_,F_,F_,F_,F_,F_,F_] HT_ ?_
          refine pn (i := 15) (N := some 36) #[T_,T_,T_,T_,T_,T_,T_,T_,T_,T_,T_,T_,T_,T_,T_,T_,F_,F_,F_,F_,F_,F_,F_,F_] HT_ ?_
          refine pn (i := 16) (N := some 37) #[T_,T_,T_,T_,T_,T_,T_,T_,T_,T_,T_,T_,T_,T_,T_,T_,T_,F_,F_,F_,F_,F_,F_,F_] HT_ ?_
          refine pn (i := 17) (N := some 38) #[T_,T_,T_,T_,T_,T_,T_,T_,T_,T_,T_,T_,T_,T_,T_,T_,T_,T_,F_,F_,F_,F_,F_,F_] HT_ ?_
          refine pn (i := 18) (N := some 39) #[T_,T_,T_,T_,T_,T_,T_,T_,T_,T_,T_,T_,T_,T_,T_,T_,T_,T_,T_,F_,F_,F_,F_,F_] HT_ ?_
          refine pn (i := 19) (N := some 40) #[T_,T_,T_,T_,T_,T_,T_,T_,T_,T_,T_,T_,T_,T_,T_,T_,T_,T_,T_,T_,F_,F_,F_,F_] HT_ ?_
          refine pn (i := 20) (N := some 41) #[T_,T_,T_,T_,T_,T_,T_,T_,T_,T_,T_,T_,T_,T_,T_,T_,T_,T_,T_,T_,T_,F_,F_,F_] HT_ ?_
          refine pn (i := 21) (N := some 42) #[T_,T_,T_,T_,T_,T_,T_,T_,T_,T_,T_,T_,T_,T_,T_,T_,T_,T_,T_,T_,T_,T_,F_,F_] HT_ ?_
          refine pn (i := 22) (N := some 43) #[T_,T_,T_,T_,T_,T_,T_,T_,T_,T_,T_,T_,T_,T_,T_,T_,T_,T_,T_,T_,T_,T_,T_,F_] HT_ ?_
          refine pu (i := 23) (N := some 44) #[T_,T_,T_,T_,T_,T_,T_,T_,T_,T_,T_,T_,T_,T_,T_,T_,T_,T_,T_,T_,T_,T_,T_,T_] HT_ ?_
          refine done_ (done_of HT_.out (by kernel_rfl)) ?_
          try go_wp2
          go_meet
          case rel => exact ⟨_, (true), (by first | rfl | (simp; done) | (simp [*]; done)), H', ⟨by have := HJ2.out; have := HK2.out; first | omega | exact Nat.le_refl _⟩, ⟨hb_⟩⟩
        ·rw [if_neg c11] at H
         exact absurd H (by simp)
       case rest =>
        clear HC10
        try clear c1
        try clear p2
        try clear q2
        try clear hx2
        try clear c7
        try clear c11
        try clear c13
        try clear c14
        try clear c14b0
        try clear c16
        try clear c17
        try clear p21
        try clear q21
        try clear hx21
        try clear hx214_0
        try clear hx214_1
        try clear hx214_2
        try clear hx216_0
        try clear hx216_1
        try clear hx216_2
        try clear hx217_0
        try clear hx217_1
        try clear hx217_2
        try clear p214
        try clear p217
        try clear q214
        try clear q217
        obtain ⟨kq, x44_9, rfl, HA, HJ9, HB⟩ := hcut
        cases kq with
        | zero => exact absurd HA.out (by simp [spec_l21Checks.j2])
        | succ kj9 =>
         have H := HA.out
         clear HA
         simp only [spec_l21Checks.j2] at H
         by_cases c24 : x44_9 = true
         ·subst c24
          have H1 : (some false) = some r := by rw [if_pos rfl] at H; exact H
          clear H
          have H := H1
          clear H1
          obtain rfl := Option.some.inj H
          go_wp2
          go_ret
          exact ⟨ew_, hb_⟩
         ·replace c24 := Bool.eq_false_iff.mpr c24
          subst c24
          have H1 : (spec_l21Checks.l1 kj9 l0 l1 x5_2 0) = some r := by rw [if_neg (show ¬ (false = true) by decide)] at H; exact H
          clear H
          have H := H1
          clear H1
          have H' := Aside0.mk H
          clear H
          go_wp2
          go_loopg [6] kj9 (fun kq v6 w' => ∃ (x6_4 : Int), v6 = .int .i64 x6_4 ∧ Aside0 (spec_l21Checks.l1 kq l0 l1 x5_2 x6_4 = some r) ∧ Aside0 (kq ≤ kj9) ∧ Aside0 (Below w.heap.size w w'))
          case atStart => exact ⟨(0), (by first | rfl | (simp; done) | (simp [*]; done)), H', ⟨Nat.le_refl _⟩, ⟨hb_⟩⟩
          case round =>
           clear H'
           try clear c1
           try clear c2
           try clear p2
           try clear q2
           try clear hx2
           try clear c7
           try clear c11
           try clear c13
           try clear c14
           try clear c14b0
           try clear c16
           try clear c17
           try clear p21
           try clear q21
           try clear hx21
           try clear c24
           try clear hx214_0
           try clear hx214_1
           try clear hx214_2
           try clear hx216_0
           try clear hx216_1
           try clear hx216_2
           try clear hx217_0
           try clear hx217_1
           try clear hx217_2
           try clear p2
           try clear p21
           try clear p214
           try clear p217
           try clear q2
           try clear q21
           try clear q214
           try clear q217
           obtain ⟨x6_4, rfl, HA, HK4, HB⟩ := hrel
           cases gk with
           | zero => exact absurd HA.out (by simp [spec_l21Checks.l1])
           | succ k4 =>
            have H := HA.out
            clear HA
            simp only [spec_l21Checks.l1] at H
            by_cases c25 : x6_4 < x5_2
            ·rw [if_pos c25] at H
             have c25b0 : decide (x6_4 < x5_2) = true := decide_eq_true c25
             clear c25
             by_cases c26 : 0 ≤ x6_4
             ·rw [if_pos c26] at H
              have c26b0 : decide (0 ≤ x6_4) = true := decide_eq_true c26
              clear c26
              by_cases c27 : x6_4 < (l1.length : Int)
              ·rw [if_pos c27] at H
               have c27b0 : decide (x6_4 < (l1.length : Int)) = true := decide_eq_true c27
               clear c27
               by_cases c28 : 0 ≤ x5_2
               ·rw [if_pos c28] at H
                have c28b0 : decide (0 ≤ x5_2) = true := decide_eq_true c28
                clear c28
                by_cases c29 : x5_2 < (l1.length : Int)
                ·rw [if_pos c29] at H
                 have c29b0 : decide (x5_2 < (l1.length : Int)) = true := decide_eq_true c29
                 clear c29
                 by_cases c30 : ((rd_T53 l1 x6_4).f0).toList = ((rd_T53 l1 x5_2).f0).toList
                 ·rw [if_pos c30] at H
                  have c30b0 : (((rd_T53 l1 x6_4).f0).toList == ((rd_T53 l1 x5_2).f0).toList) = true := beq_iff_eq.mpr c30
                  have c30b1 : (((rd_T53 l1 x6_4).f0).toList != ((rd_T53 l1 x5_2).f0).toList) = false := bne_eq_false_iff_eq.mpr c30
                  clear c30
                  by_cases c31 : ((rd_T53 l1 x6_4).f1) = ((rd_T53 l1 x5_2).f1)
                  ·rw [if_pos c31] at H
                   have c31b0 : (((rd_T53 l1 x6_4).f1) == ((rd_T53 l1 x5_2).f1)) = true := beq_iff_eq.mpr c31
                   have c31b1 : (((rd_T53 l1 x6_4).f1) != ((rd_T53 l1 x5_2).f1)) = false := bne_eq_false_iff_eq.mpr c31
                   clear c31
                   obtain rfl := Option.some.inj H
                   try go_wp2
                   have n0_ := Aside0.mk (below_drew1 HB.out)
                   clear HB
                   have HB := n0_
                   clear n0_
                   have p218 : 0 ≤ (x6_4 : Int) := od_
                   have q218 : x6_4 < (l1.length : Int) := od_
                   obtain ⟨ad218, e218, hx218_0, hx218_1, hx218_2⟩ := at_T53 HR1.out x6_4 p218 q218
                   have hw218_2 := hx218_2
                   have hw218_1 := hx218_1
                   have hw218_0 := hx218_0
                   cases e218
                   replace hx218_0 := cq_ HB hx218_0
                   replace hx218_1 := cq_ HB hx218_1
                   replace hx218_2 := cq_ HB hx218_2
                   replace p218 := eq_true p218
                   replace q218 := eq_true q218
                   have p219 : 0 ≤ (x5_2 : Int) := od_
                   have q219 : x5_2 < (l1.length : Int) := od_
                   obtain ⟨ad219, e219, hx219_0, hx219_1, hx219_2⟩ := at_T53 HR1.out x5_2 p219 q219
                   have hw219_2 := hx219_2
                   have hw219_1 := hx219_1
                   have hw219_0 := hx219_0
                   obtain rfl : ad218 = ad219 := (by injection e219)
                   replace hx219_0 := cq_ HB hx219_0
                   replace hx219_1 := cq_ HB hx219_1
                   replace hx219_2 := cq_ HB hx219_2
                   replace p219 := eq_true p219
                   replace q219 := eq_true q219
                   have p220 : 0 ≤ (x6_4 : Int) := od_
                   have q220 : x6_4 < (l1.length : Int) := od_
                   obtain ⟨ad220, e220, hx220_0, hx220_1, hx220_2⟩ := at_T53 HR1.out x6_4 p220 q220
                   have hw220_2 := hx220_2
                   have hw220_1 := hx220_1
                   have hw220_0 := hx220_0
                   obtain rfl : ad218 = ad220 := (by injection e220)
                   replace hx220_0 := cq_ HB hx220_0
                   replace hx220_1 := cq_ HB hx220_1
                   replace hx220_2 := cq_ HB hx220_2
                   replace p220 := eq_true p220
                   replace q220 := eq_true q220
                   have p221 : 0 ≤ (x5_2 : Int) := od_
                   have q221 : x5_2 < (l1.length : Int) := od_
                   obtain ⟨ad221, e221, hx221_0, hx221_1, hx221_2⟩ := at_T53 HR1.out x5_2 p221 q221
                   have hw221_2 := hx221_2
                   have hw221_1 := hx221_1
                   have hw221_0 := hx221_0
                   obtain rfl : ad218 = ad221 := (by injection e221)
                   replace hx221_0 := cq_ HB hx221_0
                   replace hx221_1 := cq_ HB hx221_1
                   replace hx221_2 := cq_ HB hx221_2
                   replace p221 := eq_true p221
                   replace q221 := eq_true q221
                   refine start_ (n := 37) (S := fun w' => w'.cell? (ad218.add ((x6_4).toNat * 3)) = some (.string ((rd_T53 l1 x6_4).f0)) ∧ w'.cell? ⟨(ad218.add ((x6_4).toNat * 3)).block, (ad218.add ((x6_4).toNat * 3)).off + 1, none⟩ = some (.int .i64 ((rd_T53 l1 x6_4).f1)) ∧ w'.cell? ⟨(ad218.add ((x6_4).toNat * 3)).block, (ad218.add ((x6_4).toNat * 3)).off + 2, none⟩ = some (.int .i64 ((rd_T53 l1 x6_4).f2)) ∧ w'.cell? (ad218.add ((x5_2).toNat * 3)) = some (.string ((rd_T53 l1 x5_2).f0)) ∧ w'.cell? ⟨(ad218.add ((x5_2).toNat * 3)).block, (ad218.add ((x5_2).toNat * 3)).off + 1, none⟩ = some (.int .i64 ((rd_T53 l1 x5_2).f1)) ∧ w'.cell? ⟨(ad218.add ((x5_2).toNat * 3)).block, (ad218.add ((x5_2).toNat * 3)).off + 2, none⟩ = some (.int .i64 ((rd_T53 l1 x5_2).f2)) ∧ w'.cell? (ad218.add ((x6_4).toNat * 3)) = some (.string ((rd_T53 l1 x6_4).f0)) ∧ w'.cell? ⟨(ad218.add ((x6_4).toNat * 3)).block, (ad218.add ((x6_4).toNat * 3)).off + 1, none⟩ = some (.int .i64 ((rd_T53 l1 x6_4).f1)) ∧ w'.cell? ⟨(ad218.add ((x6_4).toNat * 3)).block, (ad218.add ((x6_4).toNat * 3)).off + 2, none⟩ = some (.int .i64 ((rd_T53 l1 x6_4).f2)) ∧ w'.cell? (ad218.add ((x5_2).toNat * 3)) = some (.string ((rd_T53 l1 x5_2).f0)) ∧ w'.cell? ⟨(ad218.add ((x5_2).toNat * 3)).block, (ad218.add ((x5_2).toNat * 3)).off + 1, none⟩ = some (.int .i64 ((rd_T53 l1 x5_2).f1)) ∧ w'.cell? ⟨(ad218.add ((x5_2).toNat * 3)).block, (ad218.add ((x5_2).toNat * 3)).off + 2, none⟩ = some (.int .i64 ((rd_T53 l1 x5_2).f2))) (ds := []) #[F_,F_,F_,F_,F_,F_,F_,F_,F_,F_,F_,F_,F_,F_,F_,F_,F_,F_,F_,F_,F_,F_,F_,F_,F_,F_,F_,F_,F_,F_,F_,F_,F_,F_,F_,F_,F_] (by kernel_rfl) rfl rfl ⟨((HB.out.cell (World.block_lt_of_cell? w _ hw218_0)).trans hw218_0), ((HB.out.cell (World.block_lt_of_cell? w _ hw218_1)).trans hw218_1), ((HB.out.cell (World.block_lt_of_cell? w _ hw218_2)).trans hw218_2), ((HB.out.cell (World.block_lt_of_cell? w _ hw219_0)).trans hw219_0), ((HB.out.cell (World.block_lt_of_cell? w _ hw219_1)).trans hw219_1), ((HB.out.cell (World.block_lt_of_cell? w _ hw219_2)).trans hw219_2), ((HB.out.cell (World.block_lt_of_cell? w _ hw220_0)).trans hw220_0), ((HB.out.cell (World.block_lt_of_cell? w _ hw220_1)).trans hw220_1), ((HB.out.cell (World.block_lt_of_cell? w _ hw220_2)).trans hw220_2), ((HB.out.cell (World.block_lt_of_cell? w _ hw221_0)).trans hw221_0), ((HB.out.cell (World.block_lt_of_cell? w _ hw221_1)).trans hw221_1), ((HB.out.cell (World.block_lt_of_cell? w _ hw221_2)).trans hw221_2)⟩ (fun hHeld => ?_); refine with_tabW spec_l21Checks.tab11 spec_l21Checks.bits11 (fun HT_ HW_ => ?_)
                   generalize wr.drew = w32 at HB hx218_0 hx218_1 hx218_2 hx219_0 hx219_1 hx219_2 hx220_0 hx220_1 hx220_2 hx221_0 hx221_1 hx221_2 hHeld ⊢
                   refine pu (i := 0) (N := some 50) #[T_,F_,F_,F_,F_,F_,F_,F_,F_,F_,F_,F_,F_,F_,F_,F_,F_,F_,F_,F_,F_,F_,F_,F_,F_,F_,F_,F_,F_,F_,F_,F_,F_,F_,F_,F_,F_] HT_ ?_
                   refine pu (i := 1) (N := some 51) #[T_,T_,F_,F_,F_,F_,F_,F_,F_,F_,F_,F_,F_,F_,F_,F_,F_,F_,F_,F_,F_,F_,F_,F_,F_,F_,F_,F_,F_,F_,F_,F_,F_,F_,F_,F_,F_] HT_ ?_
                   refine pu (i := 2) (N := some 52) #[T_,T_,T_,F_,F_,F_,F_,F_,F_,F_,F_,F_,F_,F_,F_,F_,F_,F_,F_,F_,F_,F_,F_,F_,F_,F_,F_,F_,F_,F_,F_,F_,F_,F_,F_,F_,F_] HT_ ?_
                   refine pu (i := 3) (N := some 53) #[T_,T_,T_,T_,F_,F_,F_,F_,F_,F_,F_,F_,F_,F_,F_,F_,F_,F_,F_,F_,F_,F_,F_,F_,F_,F_,F_,F_,F_,F_,F_,F_,F_,F_,F_,F_,F_] HT_ ?_
                   refine pu (i := 5) (N := some 55) #[T_,T_,T_,T_,F_,T_,F_,F_,F_,F_,F_,F_,F_,F_,F_,F_,F_,F_,F_,F_,F_,F_,F_,F_,F_,F_,F_,F_,F_,F_,F_,F_,F_,F_,F_,F_,F_] HT_ ?_
                   refine pu (i := 6) (N := some 56) #[T_,T_,T_,T_,F_,T_,T_,F_,F_,F_,F_,F_,F_,F_,F_,F_,F_,F_,F_,F_,F_,F_,F_,F_,F_,F_,F_,F_,F_,F_,F_,F_,F_,F_,F_,F_,F_] HT_ ?_
                   refine pu (i := 7) (N := some 57) #[T_,T_,T_,T_,F_,T_,T_,T_,F_,F_,F_,F_,F_,F_,F_,F_,F_,F_,F_,F_,F_,F_,F_,F_,F_,F_,F_,F_,F_,F_,F_,F_,F_,F_,F_,F_,F_] HT_ ?_
                   refine pu (i := 8) (N := some 58) #[T_,T_,T_,T_,F_,T_,T_,T_,T_,F_,F_,F_,F_,F_,F_,F_,F_,F_,F_,F_,F_,F_,F_,F_,F_,F_,F_,F_,F_,F_,F_,F_,F_,F_,F_,F_,F_] HT_ ?_
                   refine take_ (i := 4) (N := some 54) (v := ?_) (a' := ?_) #[T_,T_,T_,T_,T_,T_,T_,T_,T_,F_,F_,F_,F_,F_,F_,F_,F_,F_,F_,F_,F_,F_,F_,F_,F_,F_,F_,F_,F_,F_,F_,F_,F_,F_,F_,F_,F_] rfl rfl (take_ofW HT_.out HW_.out (by kernel_rfl)) (fun _ _ _ h => h) (Or.inl ⟨by rfl, ?_⟩) hHeld ?_ ?_
                   rotate_left
                   ·rintro w' ⟨s0, s1, s2, s3, s4, s5, s6, s7, s8, s9, s10, s11⟩
                    go_simp
                    with_reducible rfl
                   rotate_left
                   ·simp only [Act.put, sT_, s0_, sS_, i64_w, i32_w]
                    rfl
                   refine take_ (i := 9) (N := some 59) (v := ?_) (a' := ?_) #[T_,T_,T_,T_,T_,T_,T_,T_,T_,T_,F_,F_,F_,F_,F_,F_,F_,F_,F_,F_,F_,F_,F_,F_,F_,F_,F_,F_,F_,F_,F_,F_,F_,F_,F_,F_,F_] rfl rfl (take_ofW HT_.out HW_.out (by kernel_rfl)) (fun _ _ _ h => h) (Or.inl ⟨by rfl, ?_⟩) hHeld ?_ ?_
                   rotate_left
                   ·rintro w' ⟨s0, s1, s2, s3, s4, s5, s6, s7, s8, s9, s10, s11⟩
                    go_simp
                    with_reducible rfl
                   rotate_left
                   ·simp only [Act.put, sT_, s0_, sS_, i64_w, i32_w]
                    rfl
                   refine pu (i := 10) (N := some 60) #[T_,T_,T_,T_,T_,T_,T_,T_,T_,T_,T_,F_,F_,F_,F_,F_,F_,F_,F_,F_,F_,F_,F_,F_,F_,F_,F_,F_,F_,F_,F_,F_,F_,F_,F_,F_,F_] HT_ ?_
                   refine pu (i := 11) (N := some 61) #[T_,T_,T_,T_,T_,T_,T_,T_,T_,T_,T_,T_,F_,F_,F_,F_,F_,F_,F_,F_,F_,F_,F_,F_,F_,F_,F_,F_,F_,F_,F_,F_,F_,F_,F_,F_,F_] HT_ ?_
                   refine pu (i := 12) (N := some 62) #[T_,T_,T_,T_,T_,T_,T_,T_,T_,T_,T_,T_,T_,F_,F_,F_,F_,F_,F_,F_,F_,F_,F_,F_,F_,F_,F_,F_,F_,F_,F_,F_,F_,F_,F_,F_,F_] HT_ ?_
                   refine pu (i := 13) (N := some 63) #[T_,T_,T_,T_,T_,T_,T_,T_,T_,T_,T_,T_,T_,T_,F_,F_,F_,F_,F_,F_,F_,F_,F_,F_,F_,F_,F_,F_,F_,F_,F_,F_,F_,F_,F_,F_,F_] HT_ ?_
                   refine pu (i := 14) (N := some 64) #[T_,T_,T_,T_,T_,T_,T_,T_,T_,T_,T_,T_,T_,T_,T_,F_,F_,F_,F_,F_,F_,F_,F_,F_,F_,F_,F_,F_,F_,F_,F_,F_,F_,F_,F_,F_,F_] HT_ ?_
                   refine pu (i := 15) (N := some 65) #[T_,T_,T_,T_,T_,T_,T_,T_,T_,T_,T_,T_,T_,T_,T_,T_,F_,F_,F_,F_,F_,F_,F_,F_,F_,F_,F_,F_,F_,F_,F_,F_,F_,F_,F_,F_,F_] HT_ ?_
                   refine pu (i := 17) (N := some 67) #[T_,T_,T_,T_,T_,T_,T_,T_,T_,T_,T_,T_,T_,T_,T_,T_,F_,T_,F_,F_,F_,F_,F_,F_,F_,F_,F_,F_,F_,F_,F_,F_,F_,F_,F_,F_,F_] HT_ ?_
                   refine pu (i := 18) (N := some 68) #[T_,T_,T_,T_,T_,T_,T_,T_,T_,T_,T_,T_,T_,T_,T_,T_,F_,T_,T_,F_,F_,F_,F_,F_,F_,F_,F_,F_,F_,F_,F_,F_,F_,F_,F_,F_,F_] HT_ ?_
                   refine pu (i := 19) (N := some 69) #[T_,T_,T_,T_,T_,T_,T_,T_,T_,T_,T_,T_,T_,T_,T_,T_,F_,T_,T_,T_,F_,F_,F_,F_,F_,F_,F_,F_,F_,F_,F_,F_,F_,F_,F_,F_,F_] HT_ ?_
                   refine pu (i := 20) (N := some 70) #[T_,T_,T_,T_,T_,T_,T_,T_,T_,T_,T_,T_,T_,T_,T_,T_,F_,T_,T_,T_,T_,F_,F_,F_,F_,F_,F_,F_,F_,F_,F_,F_,F_,F_,F_,F_,F_] HT_ ?_
                   refine take_ (i := 16) (N := some 66) (v := ?_) (a' := ?_) #[T_,T_,T_,T_,T_,T_,T_,T_,T_,T_,T_,T_,T_,T_,T_,T_,T_,T_,T_,T_,T_,F_,F_,F_,F_,F_,F_,F_,F_,F_,F_,F_,F_,F_,F_,F_,F_] rfl rfl (take_ofW HT_.out HW_.out (by kernel_rfl)) (fun _ _ _ h => h) (Or.inl ⟨by rfl, ?_⟩) hHeld ?_ ?_
                   rotate_left
                   ·rintro w' ⟨s0, s1, s2, s3, s4, s5, s6, s7, s8, s9, s10, s11⟩
                    go_simp
                    with_reducible rfl
                   rotate_left
                   ·simp only [Act.put, sT_, s0_, sS_, i64_w, i32_w]
                    rfl
                   refine take_ (i := 21) (N := some 71) (v := ?_) (a' := ?_) #[T_,T_,T_,T_,T_,T_,T_,T_,T_,T_,T_,T_,T_,T_,T_,T_,T_,T_,T_,T_,T_,T_,F_,F_,F_,F_,F_,F_,F_,F_,F_,F_,F_,F_,F_,F_,F_] rfl rfl (take_ofW HT_.out HW_.out (by kernel_rfl)) (fun _ _ _ h => h) (Or.inl ⟨by rfl, ?_⟩) hHeld ?_ ?_
                   rotate_left
                   ·rintro w' ⟨s0, s1, s2, s3, s4, s5, s6, s7, s8, s9, s10, s11⟩
                    go_simp
                    with_reducible rfl
                   rotate_left
                   ·simp only [Act.put, sT_, s0_, sS_, i64_w, i32_w]
                    rfl
                   refine pu (i := 22) (N := some 72) #[T_,T_,T_,T_,T_,T_,T_,T_,T_,T_,T_,T_,T_,T_,T_,T_,T_,T_,T_,T_,T_,T_,T_,F_,F_,F_,F_,F_,F_,F_,F_,F_,F_,F_,F_,F_,F_] HT_ ?_
                   refine pu (i := 23) (N := some 73) #[T_,T_,T_,T_,T_,T_,T_,T_,T_,T_,T_,T_,T_,T_,T_,T_,T_,T_,T_,T_,T_,T_,T_,T_,F_,F_,F_,F_,F_,F_,F_,F_,F_,F_,F_,F_,F_] HT_ ?_
                   refine pn (i := 24) (N := some 74) #[T_,T_,T_,T_,T_,T_,T_,T_,T_,T_,T_,T_,T_,T_,T_,T_,T_,T_,T_,T_,T_,T_,T_,T_,T_,F_,F_,F_,F_,F_,F_,F_,F_,F_,F_,F_,F_] HT_ ?_
                   refine pn (i := 25) (N := some 75) #[T_,T_,T_,T_,T_,T_,T_,T_,T_,T_,T_,T_,T_,T_,T_,T_,T_,T_,T_,T_,T_,T_,T_,T_,T_,T_,F_,F_,F_,F_,F_,F_,F_,F_,F_,F_,F_] HT_ ?_
                   refine pn (i := 26) (N := some 76) #[T_,T_,T_,T_,T_,T_,T_,T_,T_,T_,T_,T_,T_,T_,T_,T_,T_,T_,T_,T_,T_,T_,T_,T_,T_,T_,T_,F_,F_,F_,F_,F_,F_,F_,F_,F_,F_] HT_ ?_
                   refine pn (i := 27) (N := some 77) #[T_,T_,T_,T_,T_,T_,T_,T_,T_,T_,T_,T_,T_,T_,T_,T_,T_,T_,T_,T_,T_,T_,T_,T_,T_,T_,T_,T_,F_,F_,F_,F_,F_,F_,F_,F_,F_] HT_ ?_
                   refine pn (i := 28) (N := some 78) #[T_,T_,T_,T_,T_,T_,T_,T_,T_,T_,T_,T_,T_,T_,T_,T_,T_,T_,T_,T_,T_,T_,T_,T_,T_,T_,T_,T_,T_,F_,F_,F_,F_,F_,F_,F_,F_] HT_ ?_
                   refine pn (i := 29) (N := some 79) #[T_,T_,T_,T_,T_,T_,T_,T_,T_,T_,T_,T_,T_,T_,T_,T_,T_,T_,T_,T_,T_,T_,T_,T_,T_,T_,T_,T_,T_,T_,F_,F_,F_,F_,F_,F_,F_] HT_ ?_
                   refine pn (i := 30) (N := some 80) #[T_,T_,T_,T_,T_,T_,T_,T_,T_,T_,T_,T_,T_,T_,T_,T_,T_,T_,T_,T_,T_,T_,T_,T_,T_,T_,T_,T_,T_,T_,T_,F_,F_,F_,F_,F_,F_] HT_ ?_
                   refine pn (i := 31) (N := some 81) #[T_,T_,T_,T_,T_,T_,T_,T_,T_,T_,T_,T_,T_,T_,T_,T_,T_,T_,T_,T_,T_,T_,T_,T_,T_,T_,T_,T_,T_,T_,T_,T_,F_,F_,F_,F_,F_] HT_ ?_
                   refine pn (i := 32) (N := some 82) #[T_,T_,T_,T_,T_,T_,T_,T_,T_,T_,T_,T_,T_,T_,T_,T_,T_,T_,T_,T_,T_,T_,T_,T_,T_,T_,T_,T_,T_,T_,T_,T_,T_,F_,F_,F_,F_] HT_ ?_
                   refine pn (i := 33) (N := some 83) #[T_,T_,T_,T_,T_,T_,T_,T_,T_,T_,T_,T_,T_,T_,T_,T_,T_,T_,T_,T_,T_,T_,T_,T_,T_,T_,T_,T_,T_,T_,T_,T_,T_,T_,F_,F_,F_] HT_ ?_
                   refine pn (i := 34) (N := some 84) #[T_,T_,T_,T_,T_,T_,T_,T_,T_,T_,T_,T_,T_,T_,T_,T_,T_,T_,T_,T_,T_,T_,T_,T_,T_,T_,T_,T_,T_,T_,T_,T_,T_,T_,T_,F_,F_] HT_ ?_
                   refine pu (i := 35) (N := some 85) #[T_,T_,T_,T_,T_,T_,T_,T_,T_,T_,T_,T_,T_,T_,T_,T_,T_,T_,T_,T_,T_,T_,T_,T_,T_,T_,T_,T_,T_,T_,T_,T_,T_,T_,T_,T_,F_] HT_ ?_
                   refine pu (i := 36) (N := some 86) #[T_,T_,T_,T_,T_,T_,T_,T_,T_,T_,T_,T_,T_,T_,T_,T_,T_,T_,T_,T_,T_,T_,T_,T_,T_,T_,T_,T_,T_,T_,T_,T_,T_,T_,T_,T_,T_] HT_ ?_
                   refine done_ (done_of HT_.out (by kernel_rfl)) ?_
                   try go_wp2
                   go_ret
                   exact ⟨ew_, hb_⟩
                  ·rw [if_neg c31] at H
                   have c31b0 : (((rd_T53 l1 x6_4).f1) == ((rd_T53 l1 x5_2).f1)) = false := beq_eq_false_iff_ne.mpr c31
                   have c31b1 : (((rd_T53 l1 x6_4).f1) != ((rd_T53 l1 x5_2).f1)) = true := bne_iff_ne.mpr c31
                   by_cases c33 : ((rd_T53 l1 x6_4).f2) > ((rd_T53 l1 x5_2).f2)
                   ·rw [if_pos c33] at H
                    have c33b0 : decide (((rd_T53 l1 x5_2).f2) < ((rd_T53 l1 x6_4).f2)) = true := decide_eq_true c33
                    clear c33
                    obtain rfl := Option.some.inj H
                    try go_wp2
                    have n0_ := Aside0.mk (below_drew1 HB.out)
                    clear HB
                    have HB := n0_
                    clear n0_
                    have p218 : 0 ≤ (x6_4 : Int) := od_
                    have q218 : x6_4 < (l1.length : Int) := od_
                    obtain ⟨ad218, e218, hx218_0, hx218_1, hx218_2⟩ := at_T53 HR1.out x6_4 p218 q218
                    have hw218_2 := hx218_2
                    have hw218_1 := hx218_1
                    have hw218_0 := hx218_0
                    cases e218
                    replace hx218_0 := cq_ HB hx218_0
                    replace hx218_1 := cq_ HB hx218_1
                    replace hx218_2 := cq_ HB hx218_2
                    replace p218 := eq_true p218
                    replace q218 := eq_true q218
                    have p219 : 0 ≤ (x5_2 : Int) := od_
                    have q219 : x5_2 < (l1.length : Int) := od_
                    obtain ⟨ad219, e219, hx219_0, hx219_1, hx219_2⟩ := at_T53 HR1.out x5_2 p219 q219
                    have hw219_2 := hx219_2
                    have hw219_1 := hx219_1
                    have hw219_0 := hx219_0
                    obtain rfl : ad218 = ad219 := (by injection e219)
                    replace hx219_0 := cq_ HB hx219_0
                    replace hx219_1 := cq_ HB hx219_1
                    replace hx219_2 := cq_ HB hx219_2
                    replace p219 := eq_true p219
                    replace q219 := eq_true q219
                    have p220 : 0 ≤ (x6_4 : Int) := od_
                    have q220 : x6_4 < (l1.length : Int) := od_
                    obtain ⟨ad220, e220, hx220_0, hx220_1, hx220_2⟩ := at_T53 HR1.out x6_4 p220 q220
                    have hw220_2 := hx220_2
                    have hw220_1 := hx220_1
                    have hw220_0 := hx220_0
                    obtain rfl : ad218 = ad220 := (by injection e220)
                    replace hx220_0 := cq_ HB hx220_0
                    replace hx220_1 := cq_ HB hx220_1
                    replace hx220_2 := cq_ HB hx220_2
                    replace p220 := eq_true p220
                    replace q220 := eq_true q220
                    have p221 : 0 ≤ (x5_2 : Int) := od_
                    have q221 : x5_2 < (l1.length : Int) := od_
                    obtain ⟨ad221, e221, hx221_0, hx221_1, hx221_2⟩ := at_T53 HR1.out x5_2 p221 q221
                    have hw221_2 := hx221_2
                    have hw221_1 := hx221_1
                    have hw221_0 := hx221_0
                    obtain rfl : ad218 = ad221 := (by injection e221)
                    replace hx221_0 := cq_ HB hx221_0
                    replace hx221_1 := cq_ HB hx221_1
                    replace hx221_2 := cq_ HB hx221_2
                    replace p221 := eq_true p221
                    replace q221 := eq_true q221
                    have p222 : 0 ≤ (x6_4 : Int) := od_
                    have q222 : x6_4 < (l1.length : Int) := od_
                    obtain ⟨ad222, e222, hx222_0, hx222_1, hx222_2⟩ := at_T53 HR1.out x6_4 p222 q222
                    have hw222_2 := hx222_2
                    have hw222_1 := hx222_1
                    have hw222_0 := hx222_0
                    obtain rfl : ad218 = ad222 := (by injection e222)
                    replace hx222_0 := cq_ HB hx222_0
                    replace hx222_1 := cq_ HB hx222_1
                    replace hx222_2 := cq_ HB hx222_2
                    replace p222 := eq_true p222
                    replace q222 := eq_true q222
                    have p223 : 0 ≤ (x5_2 : Int) := od_
                    have q223 : x5_2 < (l1.length : Int) := od_
                    obtain ⟨ad223, e223, hx223_0, hx223_1, hx223_2⟩ := at_T53 HR1.out x5_2 p223 q223
                    have hw223_2 := hx223_2
                    have hw223_1 := hx223_1
                    have hw223_0 := hx223_0
                    obtain rfl : ad218 = ad223 := (by injection e223)
                    replace hx223_0 := cq_ HB hx223_0
                    replace hx223_1 := cq_ HB hx223_1
                    replace hx223_2 := cq_ HB hx223_2
                    replace p223 := eq_true p223
                    replace q223 := eq_true q223
                    refine start_ (n := 37) (S := fun w' => w'.cell? (ad218.add ((x6_4).toNat * 3)) = some (.string ((rd_T53 l1 x6_4).f0)) ∧ w'.cell? ⟨(ad218.add ((x6_4).toNat * 3)).block, (ad218.add ((x6_4).toNat * 3)).off + 1, none⟩ = some (.int .i64 ((rd_T53 l1 x6_4).f1)) ∧ w'.cell? ⟨(ad218.add ((x6_4).toNat * 3)).block, (ad218.add ((x6_4).toNat * 3)).off + 2, none⟩ = some (.int .i64 ((rd_T53 l1 x6_4).f2)) ∧ w'.cell? (ad218.add ((x5_2).toNat * 3)) = some (.string ((rd_T53 l1 x5_2).f0)) ∧ w'.cell? ⟨(ad218.add ((x5_2).toNat * 3)).block, (ad218.add ((x5_2).toNat * 3)).off + 1, none⟩ = some (.int .i64 ((rd_T53 l1 x5_2).f1)) ∧ w'.cell? ⟨(ad218.add ((x5_2).toNat * 3)).block, (ad218.add ((x5_2).toNat * 3)).off + 2, none⟩ = some (.int .i64 ((rd_T53 l1 x5_2).f2)) ∧ w'.cell? (ad218.add ((x6_4).toNat * 3)) = some (.string ((rd_T53 l1 x6_4).f0)) ∧ w'.cell? ⟨(ad218.add ((x6_4).toNat * 3)).block, (ad218.add ((x6_4).toNat * 3)).off + 1, none⟩ = some (.int .i64 ((rd_T53 l1 x6_4).f1)) ∧ w'.cell? ⟨(ad218.add ((x6_4).toNat * 3)).block, (ad218.add ((x6_4).toNat * 3)).off + 2, none⟩ = some (.int .i64 ((rd_T53 l1 x6_4).f2)) ∧ w'.cell? (ad218.add ((x5_2).toNat * 3)) = some (.string ((rd_T53 l1 x5_2).f0)) ∧ w'.cell? ⟨(ad218.add ((x5_2).toNat * 3)).block, (ad218.add ((x5_2).toNat * 3)).off + 1, none⟩ = some (.int .i64 ((rd_T53 l1 x5_2).f1)) ∧ w'.cell? ⟨(ad218.add ((x5_2).toNat * 3)).block, (ad218.add ((x5_2).toNat * 3)).off + 2, none⟩ = some (.int .i64 ((rd_T53 l1 x5_2).f2)) ∧ w'.cell? (ad218.add ((x6_4).toNat * 3)) = some (.string ((rd_T53 l1 x6_4).f0)) ∧ w'.cell? ⟨(ad218.add ((x6_4).toNat * 3)).block, (ad218.add ((x6_4).toNat * 3)).off + 1, none⟩ = some (.int .i64 ((rd_T53 l1 x6_4).f1)) ∧ w'.cell? ⟨(ad218.add ((x6_4).toNat * 3)).block, (ad218.add ((x6_4).toNat * 3)).off + 2, none⟩ = some (.int .i64 ((rd_T53 l1 x6_4).f2)) ∧ w'.cell? (ad218.add ((x5_2).toNat * 3)) = some (.string ((rd_T53 l1 x5_2).f0)) ∧ w'.cell? ⟨(ad218.add ((x5_2).toNat * 3)).block, (ad218.add ((x5_2).toNat * 3)).off + 1, none⟩ = some (.int .i64 ((rd_T53 l1 x5_2).f1)) ∧ w'.cell? ⟨(ad218.add ((x5_2).toNat * 3)).block, (ad218.add ((x5_2).toNat * 3)).off + 2, none⟩ = some (.int .i64 ((rd_T53 l1 x5_2).f2))) (ds := []) #[F_,F_,F_,F_,F_,F_,F_,F_,F_,F_,F_,F_,F_,F_,F_,F_,F_,F_,F_,F_,F_,F_,F_,F_,F_,F_,F_,F_,F_,F_,F_,F_,F_,F_,F_,F_,F_] (by kernel_rfl) rfl rfl ⟨((HB.out.cell (World.block_lt_of_cell? w _ hw218_0)).trans hw218_0), ((HB.out.cell (World.block_lt_of_cell? w _ hw218_1)).trans hw218_1), ((HB.out.cell (World.block_lt_of_cell? w _ hw218_2)).trans hw218_2), ((HB.out.cell (World.block_lt_of_cell? w _ hw219_0)).trans hw219_0), ((HB.out.cell (World.block_lt_of_cell? w _ hw219_1)).trans hw219_1), ((HB.out.cell (World.block_lt_of_cell? w _ hw219_2)).trans hw219_2), ((HB.out.cell (World.block_lt_of_cell? w _ hw220_0)).trans hw220_0), ((HB.out.cell (World.block_lt_of_cell? w _ hw220_1)).trans hw220_1), ((HB.out.cell (World.block_lt_of_cell? w _ hw220_2)).trans hw220_2), ((HB.out.cell (World.block_lt_of_cell? w _ hw221_0)).trans hw221_0), ((HB.out.cell (World.block_lt_of_cell? w _ hw221_1)).trans hw221_1), ((HB.out.cell (World.block_lt_of_cell? w _ hw221_2)).trans hw221_2), ((HB.out.cell (World.block_lt_of_cell? w _ hw222_0)).trans hw222_0), ((HB.out.cell (World.block_lt_of_cell? w _ hw222_1)).trans hw222_1), ((HB.out.cell (World.block_lt_of_cell? w _ hw222_2)).trans hw222_2), ((HB.out.cell (World.block_lt_of_cell? w _ hw223_0)).trans hw223_0), ((HB.out.cell (World.block_lt_of_cell? w _ hw223_1)).trans hw223_1), ((HB.out.cell (World.block_lt_of_cell? w _ hw223_2)).trans hw223_2)⟩ (fun hHeld => ?_); refine with_tabW spec_l21Checks.tab11 spec_l21Checks.bits11 (fun HT_ HW_ => ?_)
                    generalize wr.drew = w34 at HB hx218_0 hx218_1 hx218_2 hx219_0 hx219_1 hx219_2 hx220_0 hx220_1 hx220_2 hx221_0 hx221_1 hx221_2 hx222_0 hx222_1 hx222_2 hx223_0 hx223_1 hx223_2 hHeld ⊢
                    refine pu (i := 0) (N := some 50) #[T_,F_,F_,F_,F_,F_,F_,F_,F_,F_,F_,F_,F_,F_,F_,F_,F_,F_,F_,F_,F_,F_,F_,F_,F_,F_,F_,F_,F_,F_,F_,F_,F_,F_,F_,F_,F_] HT_ ?_
                    refine pu (i := 1) (N := some 51) #[T_,T_,F_,F_,F_,F_,F_,F_,F_,F_,F_,F_,F_,F_,F_,F_,F_,F_,F_,F_,F_,F_,F_,F_,F_,F_,F_,F_,F_,F_,F_,F_,F_,F_,F_,F_,F_] HT_ ?_
                    refine pu (i := 2) (N := some 52) #[T_,T_,T_,F_,F_,F_,F_,F_,F_,F_,F_,F_,F_,F_,F_,F_,F_,F_,F_,F_,F_,F_,F_,F_,F_,F_,F_,F_,F_,F_,F_,F_,F_,F_,F_,F_,F_] HT_ ?_
                    refine pu (i := 3) (N := some 53) #[T_,T_,T_,T_,F_,F_,F_,F_,F_,F_,F_,F_,F_,F_,F_,F_,F_,F_,F_,F_,F_,F_,F_,F_,F_,F_,F_,F_,F_,F_,F_,F_,F_,F_,F_,F_,F_] HT_ ?_
                    refine pu (i := 5) (N := some 55) #[T_,T_,T_,T_,F_,T_,F_,F_,F_,F_,F_,F_,F_,F_,F_,F_,F_,F_,F_,F_,F_,F_,F_,F_,F_,F_,F_,F_,F_,F_,F_,F_,F_,F_,F_,F_,F_] HT_ ?_
                    refine pu (i := 6) (N := some 56) #[T_,T_,T_,T_,F_,T_,T_,F_,F_,F_,F_,F_,F_,F_,F_,F_,F_,F_,F_,F_,F_,F_,F_,F_,F_,F_,F_,F_,F_,F_,F_,F_,F_,F_,F_,F_,F_] HT_ ?_
                    refine pu (i := 7) (N := some 57) #[T_,T_,T_,T_,F_,T_,T_,T_,F_,F_,F_,F_,F_,F_,F_,F_,F_,F_,F_,F_,F_,F_,F_,F_,F_,F_,F_,F_,F_,F_,F_,F_,F_,F_,F_,F_,F_] HT_ ?_
                    refine pu (i := 8) (N := some 58) #[T_,T_,T_,T_,F_,T_,T_,T_,T_,F_,F_,F_,F_,F_,F_,F_,F_,F_,F_,F_,F_,F_,F_,F_,F_,F_,F_,F_,F_,F_,F_,F_,F_,F_,F_,F_,F_] HT_ ?_
                    refine take_ (i := 4) (N := some 54) (v := ?_) (a' := ?_) #[T_,T_,T_,T_,T_,T_,T_,T_,T_,F_,F_,F_,F_,F_,F_,F_,F_,F_,F_,F_,F_,F_,F_,F_,F_,F_,F_,F_,F_,F_,F_,F_,F_,F_,F_,F_,F_] rfl rfl (take_ofW HT_.out HW_.out (by kernel_rfl)) (fun _ _ _ h => h) (Or.inl ⟨by rfl, ?_⟩) hHeld ?_ ?_
                    rotate_left
                    ·rintro w' ⟨s0, s1, s2, s3, s4, s5, s6, s7, s8, s9, s10, s11, s12, s13, s14, s15, s16, s17⟩
                     go_simp
                     with_reducible rfl
                    rotate_left
                    ·simp only [Act.put, sT_, s0_, sS_, i64_w, i32_w]
                     rfl
                    refine take_ (i := 9) (N := some 59) (v := ?_) (a' := ?_) #[T_,T_,T_,T_,T_,T_,T_,T_,T_,T_,F_,F_,F_,F_,F_,F_,F_,F_,F_,F_,F_,F_,F_,F_,F_,F_,F_,F_,F_,F_,F_,F_,F_,F_,F_,F_,F_] rfl rfl (take_ofW HT_.out HW_.out (by kernel_rfl)) (fun _ _ _ h => h) (Or.inl ⟨by rfl, ?_⟩) hHeld ?_ ?_
                    rotate_left
                    ·rintro w' ⟨s0, s1, s2, s3, s4, s5, s6, s7, s8, s9, s10, s11, s12, s13, s14, s15, s16, s17⟩
                     go_simp
                     with_reducible rfl
                    rotate_left
                    ·simp only [Act.put, sT_, s0_, sS_, i64_w, i32_w]
                     rfl
                    refine pu (i := 10) (N := some 60) #[T_,T_,T_,T_,T_,T_,T_,T_,T_,T_,T_,F_,F_,F_,F_,F_,F_,F_,F_,F_,F_,F_,F_,F_,F_,F_,F_,F_,F_,F_,F_,F_,F_,F_,F_,F_,F_] HT_ ?_
                    refine pu (i := 11) (N := some 61) #[T_,T_,T_,T_,T_,T_,T_,T_,T_,T_,T_,T_,F_,F_,F_,F_,F_,F_,F_,F_,F_,F_,F_,F_,F_,F_,F_,F_,F_,F_,F_,F_,F_,F_,F_,F_,F_] HT_ ?_
                    refine pu (i := 12) (N := some 62) #[T_,T_,T_,T_,T_,T_,T_,T_,T_,T_,T_,T_,T_,F_,F_,F_,F_,F_,F_,F_,F_,F_,F_,F_,F_,F_,F_,F_,F_,F_,F_,F_,F_,F_,F_,F_,F_] HT_ ?_
                    refine pu (i := 13) (N := some 63) #[T_,T_,T_,T_,T_,T_,T_,T_,T_,T_,T_,T_,T_,T_,F_,F_,F_,F_,F_,F_,F_,F_,F_,F_,F_,F_,F_,F_,F_,F_,F_,F_,F_,F_,F_,F_,F_] HT_ ?_
                    refine pu (i := 14) (N := some 64) #[T_,T_,T_,T_,T_,T_,T_,T_,T_,T_,T_,T_,T_,T_,T_,F_,F_,F_,F_,F_,F_,F_,F_,F_,F_,F_,F_,F_,F_,F_,F_,F_,F_,F_,F_,F_,F_] HT_ ?_
                    refine pu (i := 15) (N := some 65) #[T_,T_,T_,T_,T_,T_,T_,T_,T_,T_,T_,T_,T_,T_,T_,T_,F_,F_,F_,F_,F_,F_,F_,F_,F_,F_,F_,F_,F_,F_,F_,F_,F_,F_,F_,F_,F_] HT_ ?_
                    refine pu (i := 17) (N := some 67) #[T_,T_,T_,T_,T_,T_,T_,T_,T_,T_,T_,T_,T_,T_,T_,T_,F_,T_,F_,F_,F_,F_,F_,F_,F_,F_,F_,F_,F_,F_,F_,F_,F_,F_,F_,F_,F_] HT_ ?_
                    refine pu (i := 18) (N := some 68) #[T_,T_,T_,T_,T_,T_,T_,T_,T_,T_,T_,T_,T_,T_,T_,T_,F_,T_,T_,F_,F_,F_,F_,F_,F_,F_,F_,F_,F_,F_,F_,F_,F_,F_,F_,F_,F_] HT_ ?_
                    refine pu (i := 19) (N := some 69) #[T_,T_,T_,T_,T_,T_,T_,T_,T_,T_,T_,T_,T_,T_,T_,T_,F_,T_,T_,T_,F_,F_,F_,F_,F_,F_,F_,F_,F_,F_,F_,F_,F_,F_,F_,F_,F_] HT_ ?_
                    refine pu (i := 20) (N := some 70) #[T_,T_,T_,T_,T_,T_,T_,T_,T_,T_,T_,T_,T_,T_,T_,T_,F_,T_,T_,T_,T_,F_,F_,F_,F_,F_,F_,F_,F_,F_,F_,F_,F_,F_,F_,F_,F_] HT_ ?_
                    refine take_ (i := 16) (N := some 66) (v := ?_) (a' := ?_) #[T_,T_,T_,T_,T_,T_,T_,T_,T_,T_,T_,T_,T_,T_,T_,T_,T_,T_,T_,T_,T_,F_,F_,F_,F_,F_,F_,F_,F_,F_,F_,F_,F_,F_,F_,F_,F_] rfl rfl (take_ofW HT_.out HW_.out (by kernel_rfl)) (fun _ _ _ h => h) (Or.inl ⟨by rfl, ?_⟩) hHeld ?_ ?_
                    rotate_left
                    ·rintro w' ⟨s0, s1, s2, s3, s4, s5, s6, s7, s8, s9, s10, s11, s12, s13, s14, s15, s16, s17⟩
                     go_simp
                     with_reducible rfl
                    rotate_left
                    ·simp only [Act.put, sT_, s0_, sS_, i64_w, i32_w]
                     rfl
                    refine take_ (i := 21) (N := some 71) (v := ?_) (a' := ?_) #[T_,T_,T_,T_,T_,T_,T_,T_,T_,T_,T_,T_,T_,T_,T_,T_,T_,T_,T_,T_,T_,T_,F_,F_,F_,F_,F_,F_,F_,F_,F_,F_,F_,F_,F_,F_,F_] rfl rfl (take_ofW HT_.out HW_.out (by kernel_rfl)) (fun _ _ _ h => h) (Or.inl ⟨by rfl, ?_⟩) hHeld ?_ ?_
                    rotate_left
                    ·rintro w' ⟨s0, s1, s2, s3, s4, s5, s6, s7, s8, s9, s10, s11, s12, s13, s14, s15, s16, s17⟩
                     go_simp
                     with_reducible rfl
                    rotate_left
                    ·simp only [Act.put, sT_, s0_, sS_, i64_w, i32_w]
                     rfl
                    refine pu (i := 22) (N := some 72) #[T_,T_,T_,T_,T_,T_,T_,T_,T_,T_,T_,T_,T_,T_,T_,T_,T_,T_,T_,T_,T_,T_,T_,F_,F_,F_,F_,F_,F_,F_,F_,F_,F_,F_,F_,F_,F_] HT_ ?_
                    refine pu (i := 23) (N := some 73) #[T_,T_,T_,T_,T_,T_,T_,T_,T_,T_,T_,T_,T_,T_,T_,T_,T_,T_,T_,T_,T_,T_,T_,T_,F_,F_,F_,F_,F_,F_,F_,F_,F_,F_,F_,F_,F_] HT_ ?_
                    refine pu (i := 24) (N := some 74) #[T_,T_,T_,T_,T_,T_,T_,T_,T_,T_,T_,T_,T_,T_,T_,T_,T_,T_,T_,T_,T_,T_,T_,T_,T_,F_,F_,F_,F_,F_,F_,F_,F_,F_,F_,F_,F_] HT_ ?_
                    refine pu (i := 25) (N := some 75) #[T_,T_,T_,T_,T_,T_,T_,T_,T_,T_,T_,T_,T_,T_,T_,T_,T_,T_,T_,T_,T_,T_,T_,T_,T_,T_,F_,F_,F_,F_,F_,F_,F_,F_,F_,F_,F_] HT_ ?_
                    refine pu (i := 26) (N := some 76) #[T_,T_,T_,T_,T_,T_,T_,T_,T_,T_,T_,T_,T_,T_,T_,T_,T_,T_,T_,T_,T_,T_,T_,T_,T_,T_,T_,F_,F_,F_,F_,F_,F_,F_,F_,F_,F_] HT_ ?_
                    refine pu (i := 27) (N := some 77) #[T_,T_,T_,T_,T_,T_,T_,T_,T_,T_,T_,T_,T_,T_,T_,T_,T_,T_,T_,T_,T_,T_,T_,T_,T_,T_,T_,T_,F_,F_,F_,F_,F_,F_,F_,F_,F_] HT_ ?_
                    refine pu (i := 29) (N := some 79) #[T_,T_,T_,T_,T_,T_,T_,T_,T_,T_,T_,T_,T_,T_,T_,T_,T_,T_,T_,T_,T_,T_,T_,T_,T_,T_,T_,T_,F_,T_,F_,F_,F_,F_,F_,F_,F_] HT_ ?_
                    refine pu (i := 30) (N := some 80) #[T_,T_,T_,T_,T_,T_,T_,T_,T_,T_,T_,T_,T_,T_,T_,T_,T_,T_,T_,T_,T_,T_,T_,T_,T_,T_,T_,T_,F_,T_,T_,F_,F_,F_,F_,F_,F_] HT_ ?_
                    refine pu (i := 31) (N := some 81) #[T_,T_,T_,T_,T_,T_,T_,T_,T_,T_,T_,T_,T_,T_,T_,T_,T_,T_,T_,T_,T_,T_,T_,T_,T_,T_,T_,T_,F_,T_,T_,T_,F_,F_,F_,F_,F_] HT_ ?_
                    refine pu (i := 32) (N := some 82) #[T_,T_,T_,T_,T_,T_,T_,T_,T_,T_,T_,T_,T_,T_,T_,T_,T_,T_,T_,T_,T_,T_,T_,T_,T_,T_,T_,T_,F_,T_,T_,T_,T_,F_,F_,F_,F_] HT_ ?_
                    refine take_ (i := 28) (N := some 78) (v := ?_) (a' := ?_) #[T_,T_,T_,T_,T_,T_,T_,T_,T_,T_,T_,T_,T_,T_,T_,T_,T_,T_,T_,T_,T_,T_,T_,T_,T_,T_,T_,T_,T_,T_,T_,T_,T_,F_,F_,F_,F_] rfl rfl (take_ofW HT_.out HW_.out (by kernel_rfl)) (fun _ _ _ h => h) (Or.inl ⟨by rfl, ?_⟩) hHeld ?_ ?_
                    rotate_left
                    ·rintro w' ⟨s0, s1, s2, s3, s4, s5, s6, s7, s8, s9, s10, s11, s12, s13, s14, s15, s16, s17⟩
                     go_simp
                     with_reducible rfl
                    rotate_left
                    ·simp only [Act.put, sT_, s0_, sS_, i64_w, i32_w]
                     rfl
                    refine take_ (i := 33) (N := some 83) (v := ?_) (a' := ?_) #[T_,T_,T_,T_,T_,T_,T_,T_,T_,T_,T_,T_,T_,T_,T_,T_,T_,T_,T_,T_,T_,T_,T_,T_,T_,T_,T_,T_,T_,T_,T_,T_,T_,T_,F_,F_,F_] rfl rfl (take_ofW HT_.out HW_.out (by kernel_rfl)) (fun _ _ _ h => h) (Or.inl ⟨by rfl, ?_⟩) hHeld ?_ ?_
                    rotate_left
                    ·rintro w' ⟨s0, s1, s2, s3, s4, s5, s6, s7, s8, s9, s10, s11, s12, s13, s14, s15, s16, s17⟩
                     go_simp
                     with_reducible rfl
                    rotate_left
                    ·simp only [Act.put, sT_, s0_, sS_, i64_w, i32_w]
                     rfl
                    refine pu (i := 34) (N := some 84) #[T_,T_,T_,T_,T_,T_,T_,T_,T_,T_,T_,T_,T_,T_,T_,T_,T_,T_,T_,T_,T_,T_,T_,T_,T_,T_,T_,T_,T_,T_,T_,T_,T_,T_,T_,F_,F_] HT_ ?_
                    refine pu (i := 35) (N := some 85) #[T_,T_,T_,T_,T_,T_,T_,T_,T_,T_,T_,T_,T_,T_,T_,T_,T_,T_,T_,T_,T_,T_,T_,T_,T_,T_,T_,T_,T_,T_,T_,T_,T_,T_,T_,T_,F_] HT_ ?_
                    refine pu (i := 36) (N := some 86) #[T_,T_,T_,T_,T_,T_,T_,T_,T_,T_,T_,T_,T_,T_,T_,T_,T_,T_,T_,T_,T_,T_,T_,T_,T_,T_,T_,T_,T_,T_,T_,T_,T_,T_,T_,T_,T_] HT_ ?_
                    refine done_ (done_of HT_.out (by kernel_rfl)) ?_
                    try go_wp2
                    go_ret
                    exact ⟨ew_, hb_⟩
                   ·rw [if_neg c33] at H
                    have c33b0 : decide (((rd_T53 l1 x5_2).f2) < ((rd_T53 l1 x6_4).f2)) = false := decide_eq_false c33
                    clear c33
                    have H' := Aside0.mk H
                    clear H
                    try go_wp2
                    have n0_ := Aside0.mk (below_drew1 HB.out)
                    clear HB
                    have HB := n0_
                    clear n0_
                    have p218 : 0 ≤ (x6_4 : Int) := od_
                    have q218 : x6_4 < (l1.length : Int) := od_
                    obtain ⟨ad218, e218, hx218_0, hx218_1, hx218_2⟩ := at_T53 HR1.out x6_4 p218 q218
                    have hw218_2 := hx218_2
                    have hw218_1 := hx218_1
                    have hw218_0 := hx218_0
                    cases e218
                    replace hx218_0 := cq_ HB hx218_0
                    replace hx218_1 := cq_ HB hx218_1
                    replace hx218_2 := cq_ HB hx218_2
                    replace p218 := eq_true p218
                    replace q218 := eq_true q218
                    have p219 : 0 ≤ (x5_2 : Int) := od_
                    have q219 : x5_2 < (l1.length : Int) := od_
                    obtain ⟨ad219, e219, hx219_0, hx219_1, hx219_2⟩ := at_T53 HR1.out x5_2 p219 q219
                    have hw219_2 := hx219_2
                    have hw219_1 := hx219_1
                    have hw219_0 := hx219_0
                    obtain rfl : ad218 = ad219 := (by injection e219)
                    replace hx219_0 := cq_ HB hx219_0
                    replace hx219_1 := cq_ HB hx219_1
                    replace hx219_2 := cq_ HB hx219_2
                    replace p219 := eq_true p219
                    replace q219 := eq_true q219
                    have p220 : 0 ≤ (x6_4 : Int) := od_
                    have q220 : x6_4 < (l1.length : Int) := od_
                    obtain ⟨ad220, e220, hx220_0, hx220_1, hx220_2⟩ := at_T53 HR1.out x6_4 p220 q220
                    have hw220_2 := hx220_2
                    have hw220_1 := hx220_1
                    have hw220_0 := hx220_0
                    obtain rfl : ad218 = ad220 := (by injection e220)
                    replace hx220_0 := cq_ HB hx220_0
                    replace hx220_1 := cq_ HB hx220_1
                    replace hx220_2 := cq_ HB hx220_2
                    replace p220 := eq_true p220
                    replace q220 := eq_true q220
                    have p221 : 0 ≤ (x5_2 : Int) := od_
                    have q221 : x5_2 < (l1.length : Int) := od_
                    obtain ⟨ad221, e221, hx221_0, hx221_1, hx221_2⟩ := at_T53 HR1.out x5_2 p221 q221
                    have hw221_2 := hx221_2
                    have hw221_1 := hx221_1
                    have hw221_0 := hx221_0
                    obtain rfl : ad218 = ad221 := (by injection e221)
                    replace hx221_0 := cq_ HB hx221_0
                    replace hx221_1 := cq_ HB hx221_1
                    replace hx221_2 := cq_ HB hx221_2
                    replace p221 := eq_true p221
                    replace q221 := eq_true q221
                    have p222 : 0 ≤ (x6_4 : Int) := od_
                    have q222 : x6_4 < (l1.length : Int) := od_
                    obtain ⟨ad222, e222, hx222_0, hx222_1, hx222_2⟩ := at_T53 HR1.out x6_4 p222 q222
                    have hw222_2 := hx222_2
                    have hw222_1 := hx222_1
                    have hw222_0 := hx222_0
                    obtain rfl : ad218 = ad222 := (by injection e222)
                    replace hx222_0 := cq_ HB hx222_0
                    replace hx222_1 := cq_ HB hx222_1
                    replace hx222_2 := cq_ HB hx222_2
                    replace p222 := eq_true p222
                    replace q222 := eq_true q222
                    have p223 : 0 ≤ (x5_2 : Int) := od_
                    have q223 : x5_2 < (l1.length : Int) := od_
                    obtain ⟨ad223, e223, hx223_0, hx223_1, hx223_2⟩ := at_T53 HR1.out x5_2 p223 q223
                    have hw223_2 := hx223_2
                    have hw223_1 := hx223_1
                    have hw223_0 := hx223_0
                    obtain rfl : ad218 = ad223 := (by injection e223)
                    replace hx223_0 := cq_ HB hx223_0
                    replace hx223_1 := cq_ HB hx223_1
                    replace hx223_2 := cq_ HB hx223_2
                    replace p223 := eq_true p223
                    replace q223 := eq_true q223
                    refine start_ (n := 37) (S := fun w' => w'.cell? (ad218.add ((x6_4).toNat * 3)) = some (.string ((rd_T53 l1 x6_4).f0)) ∧ w'.cell? ⟨(ad218.add ((x6_4).toNat * 3)).block, (ad218.add ((x6_4).toNat * 3)).off + 1, none⟩ = some (.int .i64 ((rd_T53 l1 x6_4).f1)) ∧ w'.cell? ⟨(ad218.add ((x6_4).toNat * 3)).block, (ad218.add ((x6_4).toNat * 3)).off + 2, none⟩ = some (.int .i64 ((rd_T53 l1 x6_4).f2)) ∧ w'.cell? (ad218.add ((x5_2).toNat * 3)) = some (.string ((rd_T53 l1 x5_2).f0)) ∧ w'.cell? ⟨(ad218.add ((x5_2).toNat * 3)).block, (ad218.add ((x5_2).toNat * 3)).off + 1, none⟩ = some (.int .i64 ((rd_T53 l1 x5_2).f1)) ∧ w'.cell? ⟨(ad218.add ((x5_2).toNat * 3)).block, (ad218.add ((x5_2).toNat * 3)).off + 2, none⟩ = some (.int .i64 ((rd_T53 l1 x5_2).f2)) ∧ w'.cell? (ad218.add ((x6_4).toNat * 3)) = some (.string ((rd_T53 l1 x6_4).f0)) ∧ w'.cell? ⟨(ad218.add ((x6_4).toNat * 3)).block, (ad218.add ((x6_4).toNat * 3)).off + 1, none⟩ = some (.int .i64 ((rd_T53 l1 x6_4).f1)) ∧ w'.cell? ⟨(ad218.add ((x6_4).toNat * 3)).block, (ad218.add ((x6_4).toNat * 3)).off + 2, none⟩ = some (.int .i64 ((rd_T53 l1 x6_4).f2)) ∧ w'.cell? (ad218.add ((x5_2).toNat * 3)) = some (.string ((rd_T53 l1 x5_2).f0)) ∧ w'.cell? ⟨(ad218.add ((x5_2).toNat * 3)).block, (ad218.add ((x5_2).toNat * 3)).off + 1, none⟩ = some (.int .i64 ((rd_T53 l1 x5_2).f1)) ∧ w'.cell? ⟨(ad218.add ((x5_2).toNat * 3)).block, (ad218.add ((x5_2).toNat * 3)).off + 2, none⟩ = some (.int .i64 ((rd_T53 l1 x5_2).f2)) ∧ w'.cell? (ad218.add ((x6_4).toNat * 3)) = some (.string ((rd_T53 l1 x6_4).f0)) ∧ w'.cell? ⟨(ad218.add ((x6_4).toNat * 3)).block, (ad218.add ((x6_4).toNat * 3)).off + 1, none⟩ = some (.int .i64 ((rd_T53 l1 x6_4).f1)) ∧ w'.cell? ⟨(ad218.add ((x6_4).toNat * 3)).block, (ad218.add ((x6_4).toNat * 3)).off + 2, none⟩ = some (.int .i64 ((rd_T53 l1 x6_4).f2)) ∧ w'.cell? (ad218.add ((x5_2).toNat * 3)) = some (.string ((rd_T53 l1 x5_2).f0)) ∧ w'.cell? ⟨(ad218.add ((x5_2).toNat * 3)).block, (ad218.add ((x5_2).toNat * 3)).off + 1, none⟩ = some (.int .i64 ((rd_T53 l1 x5_2).f1)) ∧ w'.cell? ⟨(ad218.add ((x5_2).toNat * 3)).block, (ad218.add ((x5_2).toNat * 3)).off + 2, none⟩ = some (.int .i64 ((rd_T53 l1 x5_2).f2))) (ds := []) #[F_,F_,F_,F_,F_,F_,F_,F_,F_,F_,F_,F_,F_,F_,F_,F_,F_,F_,F_,F_,F_,F_,F_,F_,F_,F_,F_,F_,F_,F_,F_,F_,F_,F_,F_,F_,F_] (by kernel_rfl) rfl rfl ⟨((HB.out.cell (World.block_lt_of_cell? w _ hw218_0)).trans hw218_0), ((HB.out.cell (World.block_lt_of_cell? w _ hw218_1)).trans hw218_1), ((HB.out.cell (World.block_lt_of_cell? w _ hw218_2)).trans hw218_2), ((HB.out.cell (World.block_lt_of_cell? w _ hw219_0)).trans hw219_0), ((HB.out.cell (World.block_lt_of_cell? w _ hw219_1)).trans hw219_1), ((HB.out.cell (World.block_lt_of_cell? w _ hw219_2)).trans hw219_2), ((HB.out.cell (World.block_lt_of_cell? w _ hw220_0)).trans hw220_0), ((HB.out.cell (World.block_lt_of_cell? w _ hw220_1)).trans hw220_1), ((HB.out.cell (World.block_lt_of_cell? w _ hw220_2)).trans hw220_2), ((HB.out.cell (World.block_lt_of_cell? w _ hw221_0)).trans hw221_0), ((HB.out.cell (World.block_lt_of_cell? w _ hw221_1)).trans hw221_1), ((HB.out.cell (World.block_lt_of_cell? w _ hw221_2)).trans hw221_2), ((HB.out.cell (World.block_lt_of_cell? w _ hw222_0)).trans hw222_0), ((HB.out.cell (World.block_lt_of_cell? w _ hw222_1)).trans hw222_1), ((HB.out.cell (World.block_lt_of_cell? w _ hw222_2)).trans hw222_2), ((HB.out.cell (World.block_lt_of_cell? w _ hw223_0)).trans hw223_0), ((HB.out.cell (World.block_lt_of_cell? w _ hw223_1)).trans hw223_1), ((HB.out.cell (World.block_lt_of_cell? w _ hw223_2)).trans hw223_2)⟩ (fun hHeld => ?_); refine with_tabW spec_l21Checks.tab11 spec_l21Checks.bits11 (fun HT_ HW_ => ?_)
                    generalize wr.drew = w35 at HB hx218_0 hx218_1 hx218_2 hx219_0 hx219_1 hx219_2 hx220_0 hx220_1 hx220_2 hx221_0 hx221_1 hx221_2 hx222_0 hx222_1 hx222_2 hx223_0 hx223_1 hx223_2 hHeld ⊢
                    refine pu (i := 0) (N := some 50) #[T_,F_,F_,F_,F_,F_,F_,F_,F_,F_,F_,F_,F_,F_,F_,F_,F_,F_,F_,F_,F_,F_,F_,F_,F_,F_,F_,F_,F_,F_,F_,F_,F_,F_,F_,F_,F_] HT_ ?_
                    refine pu (i := 1) (N := some 51) #[T_,T_,F_,F_,F_,F_,F_,F_,F_,F_,F_,F_,F_,F_,F_,F_,F_,F_,F_,F_,F_,F_,F_,F_,F_,F_,F_,F_,F_,F_,F_,F_,F_,F_,F_,F_,F_] HT_ ?_
                    refine pu (i := 2) (N := some 52) #[T_,T_,T_,F_,F_,F_,F_,F_,F_,F_,F_,F_,F_,F_,F_,F_,F_,F_,F_,F_,F_,F_,F_,F_,F_,F_,F_,F_,F_,F_,F_,F_,F_,F_,F_,F_,F_] HT_ ?_
                    refine pu (i := 3) (N := some 53) #[T_,T_,T_,T_,F_,F_,F_,F_,F_,F_,F_,F_,F_,F_,F_,F_,F_,F_,F_,F_,F_,F_,F_,F_,F_,F_,F_,F_,F_,F_,F_,F_,F_,F_,F_,F_,F_] HT_ ?_
                    refine pu (i := 5) (N := some 55) #[T_,T_,T_,T_,F_,T_,F_,F_,F_,F_,F_,F_,F_,F_,F_,F_,F_,F_,F_,F_,F_,F_,F_,F_,F_,F_,F_,F_,F_,F_,F_,F_,F_,F_,F_,F_,F_] HT_ ?_
                    refine pu (i := 6) (N := some 56) #[T_,T_,T_,T_,F_,T_,T_,F_,F_,F_,F_,F_,F_,F_,F_,F_,F_,F_,F_,F_,F_,F_,F_,F_,F_,F_,F_,F_,F_,F_,F_,F_,F_,F_,F_,F_,F_] HT_ ?_
                    refine pu (i := 7) (N := some 57) #[T_,T_,T_,T_,F_,T_,T_,T_,F_,F_,F_,F_,F_,F_,F_,F_,F_,F_,F_,F_,F_,F_,F_,F_,F_,F_,F_,F_,F_,F_,F_,F_,F_,F_,F_,F_,F_] HT_ ?_
                    refine pu (i := 8) (N := some 58) #[T_,T_,T_,T_,F_,T_,T_,T_,T_,F_,F_,F_,F_,F_,F_,F_,F_,F_,F_,F_,F_,F_,F_,F_,F_,F_,F_,F_,F_,F_,F_,F_,F_,F_,F_,F_,F_] HT_ ?_
                    refine take_ (i := 4) (N := some 54) (v := ?_) (a' := ?_) #[T_,T_,T_,T_,T_,T_,T_,T_,T_,F_,F_,F_,F_,F_,F_,F_,F_,F_,F_,F_,F_,F_,F_,F_,F_,F_,F_,F_,F_,F_,F_,F_,F_,F_,F_,F_,F_] rfl rfl (take_ofW HT_.out HW_.out (by kernel_rfl)) (fun _ _ _ h => h) (Or.inl ⟨by rfl, ?_⟩) hHeld ?_ ?_
                    rotate_left
                    ·rintro w' ⟨s0, s1, s2, s3, s4, s5, s6, s7, s8, s9, s10, s11, s12, s13, s14, s15, s16, s17⟩
                     go_simp
                     with_reducible rfl
                    rotate_left
                    ·simp only [Act.put, sT_, s0_, sS_, i64_w, i32_w]
                     rfl
                    refine take_ (i := 9) (N := some 59) (v := ?_) (a' := ?_) #[T_,T_,T_,T_,T_,T_,T_,T_,T_,T_,F_,F_,F_,F_,F_,F_,F_,F_,F_,F_,F_,F_,F_,F_,F_,F_,F_,F_,F_,F_,F_,F_,F_,F_,F_,F_,F_] rfl rfl (take_ofW HT_.out HW_.out (by kernel_rfl)) (fun _ _ _ h => h) (Or.inl ⟨by rfl, ?_⟩) hHeld ?_ ?_
                    rotate_left
                    ·rintro w' ⟨s0, s1, s2, s3, s4, s5, s6, s7, s8, s9, s10, s11, s12, s13, s14, s15, s16, s17⟩
                     go_simp
                     with_reducible rfl
                    rotate_left
                    ·simp only [Act.put, sT_, s0_, sS_, i64_w, i32_w]
                     rfl
                    refine pu (i := 10) (N := some 60) #[T_,T_,T_,T_,T_,T_,T_,T_,T_,T_,T_,F_,F_,F_,F_,F_,F_,F_,F_,F_,F_,F_,F_,F_,F_,F_,F_,F_,F_,F_,F_,F_,F_,F_,F_,F_,F_] HT_ ?_
                    refine pu (i := 11) (N := some 61) #[T_,T_,T_,T_,T_,T_,T_,T_,T_,T_,T_,T_,F_,F_,F_,F_,F_,F_,F_,F_,F_,F_,F_,F_,F_,F_,F_,F_,F_,F_,F_,F_,F_,F_,F_,F_,F_] HT_ ?_
                    refine pu (i := 12) (N := some 62) #[T_,T_,T_,T_,T_,T_,T_,T_,T_,T_,T_,T_,T_,F_,F_,F_,F_,F_,F_,F_,F_,F_,F_,F_,F_,F_,F_,F_,F_,F_,F_,F_,F_,F_,F_,F_,F_] HT_ ?_
                    refine pu (i := 13) (N := some 63) #[T_,T_,T_,T_,T_,T_,T_,T_,T_,T_,T_,T_,T_,T_,F_,F_,F_,F_,F_,F_,F_,F_,F_,F_,F_,F_,F_,F_,F_,F_,F_,F_,F_,F_,F_,F_,F_] HT_ ?_
                    refine pu (i := 14) (N := some 64) #[T_,T_,T_,T_,T_,T_,T_,T_,T_,T_,T_,T_,T_,T_,T_,F_,F_,F_,F_,F_,F_,F_,F_,F_,F_,F_,F_,F_,F_,F_,F_,F_,F_,F_,F_,F_,F_] HT_ ?_
                    refine pu (i := 15) (N := some 65) #[T_,T_,T_,T_,T_,T_,T_,T_,T_,T_,T_,T_,T_,T_,T_,T_,F_,F_,F_,F_,F_,F_,F_,F_,F_,F_,F_,F_,F_,F_,F_,F_,F_,F_,F_,F_,F_] HT_ ?_
                    refine pu (i := 17) (N := some 67) #[T_,T_,T_,T_,T_,T_,T_,T_,T_,T_,T_,T_,T_,T_,T_,T_,F_,T_,F_,F_,F_,F_,F_,F_,F_,F_,F_,F_,F_,F_,F_,F_,F_,F_,F_,F_,F_] HT_ ?_
                    refine pu (i := 18) (N := some 68) #[T_,T_,T_,T_,T_,T_,T_,T_,T_,T_,T_,T_,T_,T_,T_,T_,F_,T_,T_,F_,F_,F_,F_,F_,F_,F_,F_,F_,F_,F_,F_,F_,F_,F_,F_,F_,F_] HT_ ?_
                    refine pu (i := 19) (N := some 69) #[T_,T_,T_,T_,T_,T_,T_,T_,T_,T_,T_,T_,T_,T_,T_,T_,F_,T_,T_,T_,F_,F_,F_,F_,F_,F_,F_,F_,F_,F_,F_,F_,F_,F_,F_,F_,F_] HT_ ?_
                    refine pu (i := 20) (N := some 70) #[T_,T_,T_,T_,T_,T_,T_,T_,T_,T_,T_,T_,T_,T_,T_,T_,F_,T_,T_,T_,T_,F_,F_,F_,F_,F_,F_,F_,F_,F_,F_,F_,F_,F_,F_,F_,F_] HT_ ?_
                    refine take_ (i := 16) (N := some 66) (v := ?_) (a' := ?_) #[T_,T_,T_,T_,T_,T_,T_,T_,T_,T_,T_,T_,T_,T_,T_,T_,T_,T_,T_,T_,T_,F_,F_,F_,F_,F_,F_,F_,F_,F_,F_,F_,F_,F_,F_,F_,F_] rfl rfl (take_ofW HT_.out HW_.out (by kernel_rfl)) (fun _ _ _ h => h) (Or.inl ⟨by rfl, ?_⟩) hHeld ?_ ?_
                    rotate_left
                    ·rintro w' ⟨s0, s1, s2, s3, s4, s5, s6, s7, s8, s9, s10, s11, s12, s13, s14, s15, s16, s17⟩
                     go_simp
                     with_reducible rfl
                    rotate_left
                    ·simp only [Act.put, sT_, s0_, sS_, i64_w, i32_w]
                     rfl
                    refine take_ (i := 21) (N := some 71) (v := ?_) (a' := ?_) #[T_,T_,T_,T_,T_,T_,T_,T_,T_,T_,T_,T_,T_,T_,T_,T_,T_,T_,T_,T_,T_,T_,F_,F_,F_,F_,F_,F_,F_,F_,F_,F_,F_,F_,F_,F_,F_] rfl rfl (take_ofW HT_.out HW_.out (by kernel_rfl)) (fun _ _ _ h => h) (Or.inl ⟨by rfl, ?_⟩) hHeld ?_ ?_
                    rotate_left
                    ·rintro w' ⟨s0, s1, s2, s3, s4, s5, s6, s7, s8, s9, s10, s11, s12, s13, s14, s15, s16, s17⟩
                     go_simp
                     with_reducible rfl
                    rotate_left
                    ·simp only [Act.put, sT_, s0_, sS_, i64_w, i32_w]
                     rfl
                    refine pu (i := 22) (N := some 72) #[T_,T_,T_,T_,T_,T_,T_,T_,T_,T_,T_,T_,T_,T_,T_,T_,T_,T_,T_,T_,T_,T_,T_,F_,F_,F_,F_,F_,F_,F_,F_,F_,F_,F_,F_,F_,F_] HT_ ?_
                    refine pu (i := 23) (N := some 73) #[T_,T_,T_,T_,T_,T_,T_,T_,T_,T_,T_,T_,T_,T_,T_,T_,T_,T_,T_,T_,T_,T_,T_,T_,F_,F_,F_,F_,F_,F_,F_,F_,F_,F_,F_,F_,F_] HT_ ?_
                    refine pu (i := 24) (N := some 74) #[T_,T_,T_,T_,T_,T_,T_,T_,T_,T_,T_,T_,T_,T_,T_,T_,T_,T_,T_,T_,T_,T_,T_,T_,T_,F_,F_,F_,F_,F_,F_,F_,F_,F_,F_,F_,F_] HT_ ?_
                    refine pu (i := 25) (N := some 75) #[T_,T_,T_,T_,T_,T_,T_,T_,T_,T_,T_,T_,T_,T_,T_,T_,T_,T_,T_,T_,T_,T_,T_,T_,T_,T_,F_,F_,F_,F_,F_,F_,F_,F_,F_,F_,F_] HT_ ?_
                    refine pu (i := 26) (N := some 76) #[T_,T_,T_,T_,T_,T_,T_,T_,T_,T_,T_,T_,T_,T_,T_,T_,T_,T_,T_,T_,T_,T_,T_,T_,T_,T_,T_,F_,F_,F_,F_,F_,F_,F_,F_,F_,F_] HT_ ?_
                    refine pu (i := 27) (N := some 77) #[T_,T_,T_,T_,T_,T_,T_,T_,T_,T_,T_,T_,T_,T_,T_,T_,T_,T_,T_,T_,T_,T_,T_,T_,T_,T_,T_,T_,F_,F_,F_,F_,F_,F_,F_,F_,F_] HT_ ?_
                    refine pu (i := 29) (N := some 79) #[T_,T_,T_,T_,T_,T_,T_,T_,T_,T_,T_,T_,T_,T_,T_,T_,T_,T_,T_,T_,T_,T_,T_,T_,T_,T_,T_,T_,F_,T_,F_,F_,F_,F_,F_,F_,F_] HT_ ?_
                    refine pu (i := 30) (N := some 80) #[T_,T_,T_,T_,T_,T_,T_,T_,T_,T_,T_,T_,T_,T_,T_,T_,T_,T_,T_,T_,T_,T_,T_,T_,T_,T_,T_,T_,F_,T_,T_,F_,F_,F_,F_,F_,F_] HT_ ?_
                    refine pu (i := 31) (N := some 81) #[T_,T_,T_,T_,T_,T_,T_,T_,T_,T_,T_,T_,T_,T_,T_,T_,T_,T_,T_,T_,T_,T_,T_,T_,T_,T_,T_,T_,F_,T_,T_,T_,F_,F_,F_,F_,F_] HT_ ?_
                    refine pu (i := 32) (N := some 82) #[T_,T_,T_,T_,T_,T_,T_,T_,T_,T_,T_,T_,T_,T_,T_,T_,T_,T_,T_,T_,T_,T_,T_,T_,T_,T_,T_,T_,F_,T_,T_,T_,T_,F_,F_,F_,F_] HT_ ?_
                    refine take_ (i := 28) (N := some 78) (v := ?_) (a' := ?_) #[T_,T_,T_,T_,T_,T_,T_,T_,T_,T_,T_,T_,T_,T_,T_,T_,T_,T_,T_,T_,T_,T_,T_,T_,T_,T_,T_,T_,T_,T_,T_,T_,T_,F_,F_,F_,F_] rfl rfl (take_ofW HT_.out HW_.out (by kernel_rfl)) (fun _ _ _ h => h) (Or.inl ⟨by rfl, ?_⟩) hHeld ?_ ?_
                    rotate_left
                    ·rintro w' ⟨s0, s1, s2, s3, s4, s5, s6, s7, s8, s9, s10, s11, s12, s13, s14, s15, s16, s17⟩
                     go_simp
                     with_reducible rfl
                    rotate_left
                    ·simp only [Act.put, sT_, s0_, sS_, i64_w, i32_w]
                     rfl
                    refine take_ (i := 33) (N := some 83) (v := ?_) (a' := ?_) #[T_,T_,T_,T_,T_,T_,T_,T_,T_,T_,T_,T_,T_,T_,T_,T_,T_,T_,T_,T_,T_,T_,T_,T_,T_,T_,T_,T_,T_,T_,T_,T_,T_,T_,F_,F_,F_] rfl rfl (take_ofW HT_.out HW_.out (by kernel_rfl)) (fun _ _ _ h => h) (Or.inl ⟨by rfl, ?_⟩) hHeld ?_ ?_
                    rotate_left
                    ·rintro w' ⟨s0, s1, s2, s3, s4, s5, s6, s7, s8, s9, s10, s11, s12, s13, s14, s15, s16, s17⟩
                     go_simp
                     with_reducible rfl
                    rotate_left
                    ·simp only [Act.put, sT_, s0_, sS_, i64_w, i32_w]
                     rfl
                    refine pu (i := 34) (N := some 84) #[T_,T_,T_,T_,T_,T_,T_,T_,T_,T_,T_,T_,T_,T_,T_,T_,T_,T_,T_,T_,T_,T_,T_,T_,T_,T_,T_,T_,T_,T_,T_,T_,T_,T_,T_,F_,F_] HT_ ?_
                    refine pu (i := 35) (N := some 85) #[T_,T_,T_,T_,T_,T_,T_,T_,T_,T_,T_,T_,T_,T_,T_,T_,T_,T_,T_,T_,T_,T_,T_,T_,T_,T_,T_,T_,T_,T_,T_,T_,T_,T_,T_,T_,F_] HT_ ?_
                    refine pu (i := 36) (N := some 86) #[T_,T_,T_,T_,T_,T_,T_,T_,T_,T_,T_,T_,T_,T_,T_,T_,T_,T_,T_,T_,T_,T_,T_,T_,T_,T_,T_,T_,T_,T_,T_,T_,T_,T_,T_,T_,T_] HT_ ?_
                    refine done_ (done_of HT_.out (by kernel_rfl)) ?_
                    try go_wp2
                    go_roundg k4
                    case measure => have := HJ2.out; have := HK2.out; have := HJ9.out; have := HK4.out; omega
                    case rel => exact ⟨(wrap64 (x6_4 + 1)), (by first | rfl | (simp; done) | (simp [*]; done)), H', ⟨by have := HJ2.out; have := HK2.out; have := HJ9.out; have := HK4.out; omega⟩, ⟨hb_⟩⟩
                 ·rw [if_neg c30] at H
                  have c30b0 : (((rd_T53 l1 x6_4).f0).toList == ((rd_T53 l1 x5_2).f0).toList) = false := beq_eq_false_iff_ne.mpr c30
                  have c30b1 : (((rd_T53 l1 x6_4).f0).toList != ((rd_T53 l1 x5_2).f0).toList) = true := bne_iff_ne.mpr c30
                  have H' := Aside0.mk H
                  clear H
                  try go_wp2
                  have n0_ := Aside0.mk (below_drew1 HB.out)
                  clear HB
                  have HB := n0_
                  clear n0_
                  have p218 : 0 ≤ (x6_4 : Int) := od_
                  have q218 : x6_4 < (l1.length : Int) := od_
                  obtain ⟨ad218, e218, hx218_0, hx218_1, hx218_2⟩ := at_T53 HR1.out x6_4 p218 q218
                  have hw218_2 := hx218_2
                  have hw218_1 := hx218_1
                  have hw218_0 := hx218_0
                  cases e218
                  replace hx218_0 := cq_ HB hx218_0
                  replace hx218_1 := cq_ HB hx218_1
                  replace hx218_2 := cq_ HB hx218_2
                  replace p218 := eq_true p218
                  replace q218 := eq_true q218
                  have p219 : 0 ≤ (x5_2 : Int) := od_
                  have q219 : x5_2 < (l1.length : Int) := od_
                  obtain ⟨ad219, e219, hx219_0, hx219_1, hx219_2⟩ := at_T53 HR1.out x5_2 p219 q219
                  have hw219_2 := hx219_2
                  have hw219_1 := hx219_1
                  have hw219_0 := hx219_0
                  obtain rfl : ad218 = ad219 := (by injection e219)
                  replace hx219_0 := cq_ HB hx219_0
                  replace hx219_1 := cq_ HB hx219_1
                  replace hx219_2 := cq_ HB hx219_2
                  replace p219 := eq_true p219
                  replace q219 := eq_true q219
                  refine start_ (n := 37) (S := fun w' => w'.cell? (ad218.add ((x6_4).toNat * 3)) = some (.string ((rd_T53 l1 x6_4).f0)) ∧ w'.cell? ⟨(ad218.add ((x6_4).toNat * 3)).block, (ad218.add ((x6_4).toNat * 3)).off + 1, none⟩ = some (.int .i64 ((rd_T53 l1 x6_4).f1)) ∧ w'.cell? ⟨(ad218.add ((x6_4).toNat * 3)).block, (ad218.add ((x6_4).toNat * 3)).off + 2, none⟩ = some (.int .i64 ((rd_T53 l1 x6_4).f2)) ∧ w'.cell? (ad218.add ((x5_2).toNat * 3)) = some (.string ((rd_T53 l1 x5_2).f0)) ∧ w'.cell? ⟨(ad218.add ((x5_2).toNat * 3)).block, (ad218.add ((x5_2).toNat * 3)).off + 1, none⟩ = some (.int .i64 ((rd_T53 l1 x5_2).f1)) ∧ w'.cell? ⟨(ad218.add ((x5_2).toNat * 3)).block, (ad218.add ((x5_2).toNat * 3)).off + 2, none⟩ = some (.int .i64 ((rd_T53 l1 x5_2).f2))) (ds := []) #[F_,F_,F_,F_,F_,F_,F_,F_,F_,F_,F_,F_,F_,F_,F_,F_,F_,F_,F_,F_,F_,F_,F_,F_,F_,F_,F_,F_,F_,F_,F_,F_,F_,F_,F_,F_,F_] (by kernel_rfl) rfl rfl ⟨((HB.out.cell (World.block_lt_of_cell? w _ hw218_0)).trans hw218_0), ((HB.out.cell (World.block_lt_of_cell? w _ hw218_1)).trans hw218_1), ((HB.out.cell (World.block_lt_of_cell? w _ hw218_2)).trans hw218_2), ((HB.out.cell (World.block_lt_of_cell? w _ hw219_0)).trans hw219_0), ((HB.out.cell (World.block_lt_of_cell? w _ hw219_1)).trans hw219_1), ((HB.out.cell (World.block_lt_of_cell? w _ hw219_2)).trans hw219_2)⟩ (fun hHeld => ?_); refine with_tabW spec_l21Checks.tab11 spec_l21Checks.bits11 (fun HT_ HW_ => ?_)
                  generalize wr.drew = w36 at HB hx218_0 hx218_1 hx218_2 hx219_0 hx219_1 hx219_2 hHeld ⊢
                  refine pu (i := 0) (N := some 50) #[T_,F_,F_,F_,F_,F_,F_,F_,F_,F_,F_,F_,F_,F_,F_,F_,F_,F_,F_,F_,F_,F_,F_,F_,F_,F_,F_,F_,F_,F_,F_,F_,F_,F_,F_,F_,F_] HT_ ?_
                  refine pu (i := 1) (N := some 51) #[T_,T_,F_,F_,F_,F_,F_,F_,F_,F_,F_,F_,F_,F_,F_,F_,F_,F_,F_,F_,F_,F_,F_,F_,F_,F_,F_,F_,F_,F_,F_,F_,F_,F_,F_,F_,F_] HT_ ?_
                  refine pu (i := 2) (N := some 52) #[T_,T_,T_,F_,F_,F_,F_,F_,F_,F_,F_,F_,F_,F_,F_,F_,F_,F_,F_,F_,F_,F_,F_,F_,F_,F_,F_,F_,F_,F_,F_,F_,F_,F_,F_,F_,F_] HT_ ?_
                  refine pu (i := 3) (N := some 53) #[T_,T_,T_,T_,F_,F_,F_,F_,F_,F_,F_,F_,F_,F_,F_,F_,F_,F_,F_,F_,F_,F_,F_,F_,F_,F_,F_,F_,F_,F_,F_,F_,F_,F_,F_,F_,F_] HT_ ?_
                  refine pu (i := 5) (N := some 55) #[T_,T_,T_,T_,F_,T_,F_,F_,F_,F_,F_,F_,F_,F_,F_,F_,F_,F_,F_,F_,F_,F_,F_,F_,F_,F_,F_,F_,F_,F_,F_,F_,F_,F_,F_,F_,F_] HT_ ?_
                  refine pu (i := 6) (N := some 56) #[T_,T_,T_,T_,F_,T_,T_,F_,F_,F_,F_,F_,F_,F_,F_,F_,F_,F_,F_,F_,F_,F_,F_,F_,F_,F_,F_,F_,F_,F_,F_,F_,F_,F_,F_,F_,F_] HT_ ?_
                  refine pu (i := 7) (N := some 57) #[T_,T_,T_,T_,F_,T_,T_,T_,F_,F_,F_,F_,F_,F_,F_,F_,F_,F_,F_,F_,F_,F_,F_,F_,F_,F_,F_,F_,F_,F_,F_,F_,F_,F_,F_,F_,F_] HT_ ?_
                  refine pu (i := 8) (N := some 58) #[T_,T_,T_,T_,F_,T_,T_,T_,T_,F_,F_,F_,F_,F_,F_,F_,F_,F_,F_,F_,F_,F_,F_,F_,F_,F_,F_,F_,F_,F_,F_,F_,F_,F_,F_,F_,F_] HT_ ?_
                  refine take_ (i := 4) (N := some 54) (v := ?_) (a' := ?_) #[T_,T_,T_,T_,T_,T_,T_,T_,T_,F_,F_,F_,F_,F_,F_,F_,F_,F_,F_,F_,F_,F_,F_,F_,F_,F_,F_,F_,F_,F_,F_,F_,F_,F_,F_,F_,F_] rfl rfl (take_ofW HT_.out HW_.out (by kernel_rfl)) (fun _ _ _ h => h) (Or.inl ⟨by rfl, ?_⟩) hHeld ?_ ?_
                  rotate_left
                  ·rintro w' ⟨s0, s1, s2, s3, s4, s5⟩
                   go_simp
                   with_reducible rfl
                  rotate_left
                  ·simp only [Act.put, sT_, s0_, sS_, i64_w, i32_w]
                   rfl
                  refine take_ (i := 9) (N := some 59) (v := ?_) (a' := ?_) #[T_,T_,T_,T_,T_,T_,T_,T_,T_,T_,F_,F_,F_,F_,F_,F_,F_,F_,F_,F_,F_,F_,F_,F_,F_,F_,F_,F_,F_,F_,F_,F_,F_,F_,F_,F_,F_] rfl rfl (take_ofW HT_.out HW_.out (by kernel_rfl)) (fun _ _ _ h => h) (Or.inl ⟨by rfl, ?_⟩) hHeld ?_ ?_
                  rotate_left
                  ·rintro w' ⟨s0, s1, s2, s3, s4, s5⟩
                   go_simp
                   with_reducible rfl
                  rotate_left
                  ·simp only [Act.put, sT_, s0_, sS_, i64_w, i32_w]
                   rfl
                  refine pu (i := 10) (N := some 60) #[T_,T_,T_,T_,T_,T_,T_,T_,T_,T_,T_,F_,F_,F_,F_,F_,F_,F_,F_,F_,F_,F_,F_,F_,F_,F_,F_,F_,F_,F_,F_,F_,F_,F_,F_,F_,F_] HT_ ?_
                  refine pu (i := 11) (N := some 61) #[T_,T_,T_,T_,T_,T_,T_,T_,T_,T_,T_,T_,F_,F_,F_,F_,F_,F_,F_,F_,F_,F_,F_,F_,F_,F_,F_,F_,F_,F_,F_,F_,F_,F_,F_,F_,F_] HT_ ?_
                  refine pn (i := 12) (N := some 62) #[T_,T_,T_,T_,T_,T_,T_,T_,T_,T_,T_,T_,T_,F_,F_,F_,F_,F_,F_,F_,F_,F_,F_,F_,F_,F_,F_,F_,F_,F_,F_,F_,F_,F_,F_,F_,F_] HT_ ?_
                  refine pn (i := 13) (N := some 63) #[T_,T_,T_,T_,T_,T_,T_,T_,T_,T_,T_,T_,T_,T_,F_,F_,F_,F_,F_,F_,F_,F_,F_,F_,F_,F_,F_,F_,F_,F_,F_,F_,F_,F_,F_,F_,F_] HT_ ?_
                  refine pn (i := 14) (N := some 64) #[T_,T_,T_,T_,T_,T_,T_,T_,T_,T_,T_,T_,T_,T_,T_,F_,F_,F_,F_,F_,F_,F_,F_,F_,F_,F_,F_,F_,F_,F_,F_,F_,F_,F_,F_,F_,F_] HT_ ?_
                  refine pn (i := 15) (N := some 65) #[T_,T_,T_,T_,T_,T_,T_,T_,T_,T_,T_,T_,T_,T_,T_,T_,F_,F_,F_,F_,F_,F_,F_,F_,F_,F_,F_,F_,F_,F_,F_,F_,F_,F_,F_,F_,F_] HT_ ?_
                  refine pn (i := 16) (N := some 66) #[T_,T_,T_,T_,T_,T_,T_,T_,T_,T_,T_,T_,T_,T_,T_,T_,T_,F_,F_,F_,F_,F_,F_,F_,F_,F_,F_,F_,F_,F_,F_,F_,F_,F_,F_,F_,F_] HT_ ?_
                  refine pn (i := 17) (N := some 67) #[T_,T_,T_,T_,T_,T_,T_,T_,T_,T_,T_,T_,T_,T_,T_,T_,T_,T_,F_,F_,F_,F_,F_,F_,F_,F_,F_,F_,F_,F_,F_,F_,F_,F_,F_,F_,F_] HT_ ?_
                  refine pn (i := 18) (N := some 68) #[T_,T_,T_,T_,T_,T_,T_,T_,T_,T_,T_,T_,T_,T_,T_,T_,T_,T_,T_,F_,F_,F_,F_,F_,F_,F_,F_,F_,F_,F_,F_,F_,F_,F_,F_,F_,F_] HT_ ?_
                  refine pn (i := 19) (N := some 69) #[T_,T_,T_,T_,T_,T_,T_,T_,T_,T_,T_,T_,T_,T_,T_,T_,T_,T_,T_,T_,F_,F_,F_,F_,F_,F_,F_,F_,F_,F_,F_,F_,F_,F_,F_,F_,F_] HT_ ?_
                  refine pn (i := 20) (N := some 70) #[T_,T_,T_,T_,T_,T_,T_,T_,T_,T_,T_,T_,T_,T_,T_,T_,T_,T_,T_,T_,T_,F_,F_,F_,F_,F_,F_,F_,F_,F_,F_,F_,F_,F_,F_,F_,F_] HT_ ?_
                  refine pn (i := 21) (N := some 71) #[T_,T_,T_,T_,T_,T_,T_,T_,T_,T_,T_,T_,T_,T_,T_,T_,T_,T_,T_,T_,T_,T_,F_,F_,F_,F_,F_,F_,F_,F_,F_,F_,F_,F_,F_,F_,F_] HT_ ?_
                  refine pn (i := 22) (N := some 72) #[T_,T_,T_,T_,T_,T_,T_,T_,T_,T_,T_,T_,T_,T_,T_,T_,T_,T_,T_,T_,T_,T_,T_,F_,F_,F_,F_,F_,F_,F_,F_,F_,F_,F_,F_,F_,F_] HT_ ?_
                  refine pn (i := 23) (N := some 73) #[T_,T_,T_,T_,T_,T_,T_,T_,T_,T_,T_,T_,T_,T_,T_,T_,T_,T_,T_,T_,T_,T_,T_,T_,F_,F_,F_,F_,F_,F_,F_,F_,F_,F_,F_,F_,F_] HT_ ?_
                  refine pn (i := 24) (N := some 74) #[T_,T_,T_,T_,T_,T_,T_,T_,T_,T_,T_,T_,T_,T_,T_,T_,T_,T_,T_,T_,T_,T_,T_,T_,T_,F_,F_,F_,F_,F_,F_,F_,F_,F_,F_,F_,F_] HT_ ?_
                  refine pn (i := 25) (N := some 75) #[T_,T_,T_,T_,T_,T_,T_,T_,T_,T_,T_,T_,T_,T_,T_,T_,T_,T_,T_,T_,T_,T_,T_,T_,T_,T_,F_,F_,F_,F_,F_,F_,F_,F_,F_,F_,F_] HT_ ?_
                  refine pn (i := 26) (N := some 76) #[T_,T_,T_,T_,T_,T_,T_,T_,T_,T_,T_,T_,T_,T_,T_,T_,T_,T_,T_,T_,T_,T_,T_,T_,T_,T_,T_,F_,F_,F_,F_,F_,F_,F_,F_,F_,F_] HT_ ?_
                  refine pn (i := 27) (N := some 77) #[T_,T_,T_,T_,T_,T_,T_,T_,T_,T_,T_,T_,T_,T_,T_,T_,T_,T_,T_,T_,T_,T_,T_,T_,T_,T_,T_,T_,F_,F_,F_,F_,F_,F_,F_,F_,F_] HT_ ?_
                  refine pn (i := 28) (N := some 78) #[T_,T_,T_,T_,T_,T_,T_,T_,T_,T_,T_,T_,T_,T_,T_,T_,T_,T_,T_,T_,T_,T_,T_,T_,T_,T_,T_,T_,T_,F_,F_,F_,F_,F_,F_,F_,F_] HT_ ?_
                  refine pn (i := 29) (N := some 79) #[T_,T_,T_,T_,T_,T_,T_,T_,T_,T_,T_,T_,T_,T_,T_,T_,T_,T_,T_,T_,T_,T_,T_,T_,T_,T_,T_,T_,T_,T_,F_,F_,F_,F_,F_,F_,F_] HT_ ?_
                  refine pn (i := 30) (N := some 80) #[T_,T_,T_,T_,T_,T_,T_,T_,T_,T_,T_,T_,T_,T_,T_,T_,T_,T_,T_,T_,T_,T_,T_,T_,T_,T_,T_,T_,T_,T_,T_,F_,F_,F_,F_,F_,F_] HT_ ?_
                  refine pn (i := 31) (N := some 81) #[T_,T_,T_,T_,T_,T_,T_,T_,T_,T_,T_,T_,T_,T_,T_,T_,T_,T_,T_,T_,T_,T_,T_,T_,T_,T_,T_,T_,T_,T_,T_,T_,F_,F_,F_,F_,F_] HT_ ?_
                  refine pn (i := 32) (N := some 82) #[T_,T_,T_,T_,T_,T_,T_,T_,T_,T_,T_,T_,T_,T_,T_,T_,T_,T_,T_,T_,T_,T_,T_,T_,T_,T_,T_,T_,T_,T_,T_,T_,T_,F_,F_,F_,F_] HT_ ?_
                  refine pn (i := 33) (N := some 83) #[T_,T_,T_,T_,T_,T_,T_,T_,T_,T_,T_,T_,T_,T_,T_,T_,T_,T_,T_,T_,T_,T_,T_,T_,T_,T_,T_,T_,T_,T_,T_,T_,T_,T_,F_,F_,F_] HT_ ?_
                  refine pn (i := 34) (N := some 84) #[T_,T_,T_,T_,T_,T_,T_,T_,T_,T_,T_,T_,T_,T_,T_,T_,T_,T_,T_,T_,T_,T_,T_,T_,T_,T_,T_,T_,T_,T_,T_,T_,T_,T_,T_,F_,F_] HT_ ?_
                  refine pn (i := 35) (N := some 85) #[T_,T_,T_,T_,T_,T_,T_,T_,T_,T_,T_,T_,T_,T_,T_,T_,T_,T_,T_,T_,T_,T_,T_,T_,T_,T_,T_,T_,T_,T_,T_,T_,T_,T_,T_,T_,F_] HT_ ?_
                  refine pu (i := 36) (N := some 86) #[T_,T_,T_,T_,T_,T_,T_,T_,T_,T_,T_,T_,T_,T_,T_,T_,T_,T_,T_,T_,T_,T_,T_,T_,T_,T_,T_,T_,T_,T_,T_,T_,T_,T_,T_,T_,T_] HT_ ?_
                  refine done_ (done_of HT_.out (by kernel_rfl)) ?_
                  try go_wp2
                  go_roundg k4
                  case measure => have := HJ2.out; have := HK2.out; have := HJ9.out; have := HK4.out; omega
                  case rel => exact ⟨(wrap64 (x6_4 + 1)), (by first | rfl | (simp; done) | (simp [*]; done)), H', ⟨by have := HJ2.out; have := HK2.out; have := HJ9.out; have := HK4.out; omega⟩, ⟨hb_⟩⟩
                ·rw [if_neg c29] at H
                 exact absurd H (by simp)
               ·rw [if_neg c28] at H
                exact absurd H (by simp)
              ·rw [if_neg c27] at H
               exact absurd H (by simp)
             ·rw [if_neg c26] at H
              exact absurd H (by simp)
            ·rw [if_neg c25] at H
             have c25b0 : decide (x6_4 < x5_2) = false := decide_eq_false c25
             clear c25
             have H' := Aside0.mk H
             clear H
             go_wp2
             go_roundg k4
             case measure => have := HJ2.out; have := HK2.out; have := HJ9.out; have := HK4.out; omega
             case rel => exact ⟨(wrap64 (x5_2 + 1)), (by first | rfl | (simp; done) | (simp [*]; done)), H', ⟨by have := HJ2.out; have := HK2.out; have := HJ9.out; have := HK4.out; omega⟩, ⟨hb_⟩⟩
      ·rw [if_neg c9] at H
       have c9b0 : decide (x5_2 < (l1.length : Int)) = false := decide_eq_false c9
       clear c9
       obtain rfl := Option.some.inj H
       go_wp2
       go_ret
       exact ⟨ew_, hb_⟩

/-! ### impl_isCheck: function 76 -/
def impl_isCheck.f (l0 : List (S73)) (a1_0 : ByteArray) (a1_1 : Int) (a1_2 : Int) : Option (Bool) := (impl_gearNamed.f l0 a1_0).bind fun t226 => (if t226 ≥ 0 then (if 0 ≤ t226 then (if t226 < (l0.length : Int) then ((impl_within.f a1_1 ((rd_T73 l0 t226).f1) 20000).bind fun t228 => (if t228 = true then ((impl_within.f a1_2 0 1000000).bind fun t229 => (some t229)) else (some false))) else (none)) else (none)) else (some false))
set_option maxHeartbeats 8000000 in
set_option maxRecDepth 100000 in
theorem impl_isCheck.calls (A0 : Option Addr) (c0 : Nat) (l0 : List (S73)) (a1_0 : ByteArray) (a1_1 : Int) (a1_2 : Int) (r : Bool) (w : World) (hr0 : Kd.C k73 w A0 l0.length l0) (hc0 : l0.length ≤ c0) (h : impl_isCheck.f l0 a1_0 a1_1 a1_2 = some r) :
  Calls Try.prog 76 #[.slice A0 l0.length c0, .agg #[.string a1_0, .int .i64 a1_1, .int .i64 a1_2]] w fun e w' => e = .returned (.bool r) ∧ Below w.heap.size w w' := by
 have hu53 := Try.underlying53
 have HR0 := Aside0.mk hr0
 have HC0 := Aside0.mk hc0
 clear hr0 hc0
 have HB := Aside0.mk (Below.refl w.heap.size w)
 have H : ((impl_gearNamed.f l0 a1_0).bind fun t226 => (if t226 ≥ 0 then (if 0 ≤ t226 then (if t226 < (l0.length : Int) then ((impl_within.f a1_1 ((rd_T73 l0 t226).f1) 20000).bind fun t228 => (if t228 = true then ((impl_within.f a1_2 0 1000000).bind fun t229 => (some t229)) else (some false))) else (none)) else (none)) else (some false))) = some r := h
 clear h
 replace H := Option.bind_eq_some_iff.mp H
 obtain ⟨t226, A30, H⟩ := H
 replace H : (if t226 ≥ 0 then (if 0 ≤ t226 then (if t226 < (l0.length : Int) then ((impl_within.f a1_1 ((rd_T73 l0 t226).f1) 20000).bind fun t228 => (if t228 = true then ((impl_within.f a1_2 0 1000000).bind fun t229 => (some t229)) else (some false))) else (none)) else (none)) else (some false)) = some r := H
 have A3 := Aside0.mk A30
 clear A30
 by_cases c4 : t226 ≥ 0
 ·rw [if_pos c4] at H
  have c4b0 : decide (0 ≤ t226) = true := decide_eq_true c4
  clear c4
  by_cases c5 : 0 ≤ t226
  ·rw [if_pos c5] at H
   have c5b0 : decide (0 ≤ t226) = true := decide_eq_true c5
   clear c5
   by_cases c6 : t226 < (l0.length : Int)
   ·rw [if_pos c6] at H
    have c6b0 : decide (t226 < (l0.length : Int)) = true := decide_eq_true c6
    clear c6
    replace H := Option.bind_eq_some_iff.mp H
    obtain ⟨t228, A70, H⟩ := H
    replace H : (if t228 = true then ((impl_within.f a1_2 0 1000000).bind fun t229 => (some t229)) else (some false)) = some r := H
    have A7 := Aside0.mk A70
    clear A70
    by_cases c8 : t228 = true
    ·subst c8
     have H1 : ((impl_within.f a1_2 0 1000000).bind fun t229 => (some t229)) = some r := by rw [if_pos rfl] at H; exact H
     clear H
     have H := H1
     clear H1
     replace H := Option.bind_eq_some_iff.mp H
     obtain ⟨t229, A90, H⟩ := H
     replace H : (some t229) = some r := H
     have A9 := Aside0.mk A90
     clear A90
     obtain rfl := Option.some.inj H
     go_enter Try.func76, Try.ntmps76
     go_wp2_with (first | ((with_reducible refine gate_dst (N := 3) rfl ?_); refine box_event ?hg (N := 3) ?hd (cs := #[.string a1_0, .int .i64 a1_1, .int .i64 a1_2]) (t := 53) ?hr ?_; (case hd => rfl); (case hg => rfl); (case hr => first | (go_simp; done) | (go_simp; rfl)); intro gb225 hg w10 hbox hb; have n0_ := Aside0.mk (below_step hb_ hb); have n1_ := Aside0.mk (hbox); have n2_ := Aside0.mk ((by rw [hg]; exact (below_size hb_) : w.heap.size ≤ gb225)); have n3_ := Aside0.mk ((by rw [hg]; exact (below_size hb_) : w.heap.size ≤ gb225)); clear HB; have HB := n0_; have BK225 := n1_; have GW225 := n2_; have GE225 := n3_; clear n0_ n1_ n2_ n3_; clear hb hbox hg; have hcz11_0 : w10.cell? ⟨gb225, 0, none⟩ = some (.string a1_0) := (blk_cell BK225.out 0).trans rfl; have hcz11_1 : w10.cell? ⟨gb225, 1, none⟩ = some (.int .i64 a1_1) := (blk_cell BK225.out 1).trans rfl; have hcz11_2 : w10.cell? ⟨gb225, 2, none⟩ = some (.int .i64 a1_2) := (blk_cell BK225.out 2).trans rfl; have hfz11_0 := blk_frozen BK225.out 0; have hfz11_1 := blk_frozen BK225.out 1; have hfz11_2 := blk_frozen BK225.out 2) | (go_at_call 61; (with_reducible refine (impl_gearNamed.calls _ _ l0 a1_0 t226 _ ?side1 ?side2 A3.out).mono ?_); (case side1 => exact kc_ (Kd.C_below HR0.out HB.out)); (case side2 => exact HC0.out); rintro e w12 ⟨rfl, hb⟩; have n0_ := Aside0.mk (blk_below (g := gb225) (o := .cells #[.string a1_0, .int .i64 a1_1, .int .i64 a1_2] 53 (0, 0)) (bk_ BK225) hb); have n1_ := Aside0.mk (below_step (hg_ GE225) hb); clear BK225; clear HB; have BK225 := n0_; have HB := n1_; clear n0_ n1_; (try clear hb); (try clear hb2); (try clear hk); (try clear hi); have hcz13_0 : w12.cell? ⟨gb225, 0, none⟩ = some (.string a1_0) := (blk_cell BK225.out 0).trans rfl; have hcz13_1 : w12.cell? ⟨gb225, 1, none⟩ = some (.int .i64 a1_1) := (blk_cell BK225.out 1).trans rfl; have hcz13_2 : w12.cell? ⟨gb225, 2, none⟩ = some (.int .i64 a1_2) := (blk_cell BK225.out 2).trans rfl; have hfz13_0 := blk_frozen BK225.out 0; have hfz13_1 := blk_frozen BK225.out 1; have hfz13_2 := blk_frozen BK225.out 2; have p227 : 0 ≤ (t226 : Int) := od_; have q227 : t226 < (l0.length : Int) := od_; obtain ⟨ad227, e227, hx227_0, hx227_1, hx227_2, hx227_3⟩ := at_T73 HR0.out t226 p227 q227; cases e227; replace hx227_0 := cq_ HB hx227_0; replace hx227_1 := cq_ HB hx227_1; replace hx227_2 := cq_ HB hx227_2; replace hx227_3 := cq_ HB hx227_3; replace p227 := eq_true p227; replace q227 := eq_true q227) | (go_at_call 67; (with_reducible refine (impl_within.calls a1_1 ((rd_T73 l0 t226).f1) 20000 true _ A7.out).mono ?_); rintro e w' ⟨rfl, ⟨nd, rfl⟩⟩; (try first | exact ⟨rfl, _, World.drewN_drewN _ _ _⟩ | exact ⟨rfl, _, Eq.trans (World.drewN_drewN _ _ _) (congrArg (World.drewN _) (Nat.add_assoc _ _ _))⟩)) | (go_at_call 67; (with_reducible refine (impl_within.calls a1_2 0 1000000 t229 _ A9.out).mono ?_); rintro e w' ⟨rfl, ⟨nd, rfl⟩⟩; (try first | exact ⟨rfl, _, World.drewN_drewN _ _ _⟩ | exact ⟨rfl, _, Eq.trans (World.drewN_drewN _ _ _) (congrArg (World.drewN _) (Nat.add_assoc _ _ _))⟩)))
     repeat (go_quiet (first | ((with_reducible refine gate_dst (N := 3) rfl ?_); refine box_event ?hg (N := 3) ?hd (cs := #[.string a1_0, .int .i64 a1_1, .int .i64 a1_2]) (t := 53) ?hr ?_; (case hd => rfl); (case hg => rfl); (case hr => first | (go_simp; done) | (go_simp; rfl)); intro gb225 hg w10 hbox hb; have n0_ := Aside0.mk (below_step hb_ hb); have n1_ := Aside0.mk (hbox); have n2_ := Aside0.mk ((by rw [hg]; exact (below_size hb_) : w.heap.size ≤ gb225)); have n3_ := Aside0.mk ((by rw [hg]; exact (below_size hb_) : w.heap.size ≤ gb225)); clear HB; have HB := n0_; have BK225 := n1_; have GW225 := n2_; have GE225 := n3_; clear n0_ n1_ n2_ n3_; clear hb hbox hg; have hcz11_0 : w10.cell? ⟨gb225, 0, none⟩ = some (.string a1_0) := (blk_cell BK225.out 0).trans rfl; have hcz11_1 : w10.cell? ⟨gb225, 1, none⟩ = some (.int .i64 a1_1) := (blk_cell BK225.out 1).trans rfl; have hcz11_2 : w10.cell? ⟨gb225, 2, none⟩ = some (.int .i64 a1_2) := (blk_cell BK225.out 2).trans rfl; have hfz11_0 := blk_frozen BK225.out 0; have hfz11_1 := blk_frozen BK225.out 1; have hfz11_2 := blk_frozen BK225.out 2) | (go_at_call 61; (with_reducible refine (impl_gearNamed.calls _ _ l0 a1_0 t226 _ ?side1 ?side2 A3.out).mono ?_); (case side1 => exact kc_ (Kd.C_below HR0.out HB.out)); (case side2 => exact HC0.out); rintro e w12 ⟨rfl, hb⟩; have n0_ := Aside0.mk (blk_below (g := gb225) (o := .cells #[.string a1_0, .int .i64 a1_1, .int .i64 a1_2] 53 (0, 0)) (bk_ BK225) hb); have n1_ := Aside0.mk (below_step (hg_ GE225) hb); clear BK225; clear HB; have BK225 := n0_; have HB := n1_; clear n0_ n1_; (try clear hb); (try clear hb2); (try clear hk); (try clear hi); have hcz13_0 : w12.cell? ⟨gb225, 0, none⟩ = some (.string a1_0) := (blk_cell BK225.out 0).trans rfl; have hcz13_1 : w12.cell? ⟨gb225, 1, none⟩ = some (.int .i64 a1_1) := (blk_cell BK225.out 1).trans rfl; have hcz13_2 : w12.cell? ⟨gb225, 2, none⟩ = some (.int .i64 a1_2) := (blk_cell BK225.out 2).trans rfl; have hfz13_0 := blk_frozen BK225.out 0; have hfz13_1 := blk_frozen BK225.out 1; have hfz13_2 := blk_frozen BK225.out 2; have p227 : 0 ≤ (t226 : Int) := od_; have q227 : t226 < (l0.length : Int) := od_; obtain ⟨ad227, e227, hx227_0, hx227_1, hx227_2, hx227_3⟩ := at_T73 HR0.out t226 p227 q227; cases e227; replace hx227_0 := cq_ HB hx227_0; replace hx227_1 := cq_ HB hx227_1; replace hx227_2 := cq_ HB hx227_2; replace hx227_3 := cq_ HB hx227_3; replace p227 := eq_true p227; replace q227 := eq_true q227) | (go_at_call 67; (with_reducible refine (impl_within.calls a1_1 ((rd_T73 l0 t226).f1) 20000 true _ A7.out).mono ?_); rintro e w' ⟨rfl, ⟨nd, rfl⟩⟩; (try first | exact ⟨rfl, _, World.drewN_drewN _ _ _⟩ | exact ⟨rfl, _, Eq.trans (World.drewN_drewN _ _ _) (congrArg (World.drewN _) (Nat.add_assoc _ _ _))⟩)) | (go_at_call 67; (with_reducible refine (impl_within.calls a1_2 0 1000000 t229 _ A9.out).mono ?_); rintro e w' ⟨rfl, ⟨nd, rfl⟩⟩; (try first | exact ⟨rfl, _, World.drewN_drewN _ _ _⟩ | exact ⟨rfl, _, Eq.trans (World.drewN_drewN _ _ _) (congrArg (World.drewN _) (Nat.add_assoc _ _ _))⟩))); try go_wp2_with (first | ((with_reducible refine gate_dst (N := 3) rfl ?_); refine box_event ?hg (N := 3) ?hd (cs := #[.string a1_0, .int .i64 a1_1, .int .i64 a1_2]) (t := 53) ?hr ?_; (case hd => rfl); (case hg => rfl); (case hr => first | (go_simp; done) | (go_simp; rfl)); intro gb225 hg w10 hbox hb; have n0_ := Aside0.mk (below_step hb_ hb); have n1_ := Aside0.mk (hbox); have n2_ := Aside0.mk ((by rw [hg]; exact (below_size hb_) : w.heap.size ≤ gb225)); have n3_ := Aside0.mk ((by rw [hg]; exact (below_size hb_) : w.heap.size ≤ gb225)); clear HB; have HB := n0_; have BK225 := n1_; have GW225 := n2_; have GE225 := n3_; clear n0_ n1_ n2_ n3_; clear hb hbox hg; have hcz11_0 : w10.cell? ⟨gb225, 0, none⟩ = some (.string a1_0) := (blk_cell BK225.out 0).trans rfl; have hcz11_1 : w10.cell? ⟨gb225, 1, none⟩ = some (.int .i64 a1_1) := (blk_cell BK225.out 1).trans rfl; have hcz11_2 : w10.cell? ⟨gb225, 2, none⟩ = some (.int .i64 a1_2) := (blk_cell BK225.out 2).trans rfl; have hfz11_0 := blk_frozen BK225.out 0; have hfz11_1 := blk_frozen BK225.out 1; have hfz11_2 := blk_frozen BK225.out 2) | (go_at_call 61; (with_reducible refine (impl_gearNamed.calls _ _ l0 a1_0 t226 _ ?side1 ?side2 A3.out).mono ?_); (case side1 => exact kc_ (Kd.C_below HR0.out HB.out)); (case side2 => exact HC0.out); rintro e w12 ⟨rfl, hb⟩; have n0_ := Aside0.mk (blk_below (g := gb225) (o := .cells #[.string a1_0, .int .i64 a1_1, .int .i64 a1_2] 53 (0, 0)) (bk_ BK225) hb); have n1_ := Aside0.mk (below_step (hg_ GE225) hb); clear BK225; clear HB; have BK225 := n0_; have HB := n1_; clear n0_ n1_; (try clear hb); (try clear hb2); (try clear hk); (try clear hi); have hcz13_0 : w12.cell? ⟨gb225, 0, none⟩ = some (.string a1_0) := (blk_cell BK225.out 0).trans rfl; have hcz13_1 : w12.cell? ⟨gb225, 1, none⟩ = some (.int .i64 a1_1) := (blk_cell BK225.out 1).trans rfl; have hcz13_2 : w12.cell? ⟨gb225, 2, none⟩ = some (.int .i64 a1_2) := (blk_cell BK225.out 2).trans rfl; have hfz13_0 := blk_frozen BK225.out 0; have hfz13_1 := blk_frozen BK225.out 1; have hfz13_2 := blk_frozen BK225.out 2; have p227 : 0 ≤ (t226 : Int) := od_; have q227 : t226 < (l0.length : Int) := od_; obtain ⟨ad227, e227, hx227_0, hx227_1, hx227_2, hx227_3⟩ := at_T73 HR0.out t226 p227 q227; cases e227; replace hx227_0 := cq_ HB hx227_0; replace hx227_1 := cq_ HB hx227_1; replace hx227_2 := cq_ HB hx227_2; replace hx227_3 := cq_ HB hx227_3; replace p227 := eq_true p227; replace q227 := eq_true q227) | (go_at_call 67; (with_reducible refine (impl_within.calls a1_1 ((rd_T73 l0 t226).f1) 20000 true _ A7.out).mono ?_); rintro e w' ⟨rfl, ⟨nd, rfl⟩⟩; (try first | exact ⟨rfl, _, World.drewN_drewN _ _ _⟩ | exact ⟨rfl, _, Eq.trans (World.drewN_drewN _ _ _) (congrArg (World.drewN _) (Nat.add_assoc _ _ _))⟩)) | (go_at_call 67; (with_reducible refine (impl_within.calls a1_2 0 1000000 t229 _ A9.out).mono ?_); rintro e w' ⟨rfl, ⟨nd, rfl⟩⟩; (try first | exact ⟨rfl, _, World.drewN_drewN _ _ _⟩ | exact ⟨rfl, _, Eq.trans (World.drewN_drewN _ _ _) (congrArg (World.drewN _) (Nat.add_assoc _ _ _))⟩))))
     go_ret
     exact ⟨ew_, (hg_ GE225)⟩
    ·replace c8 := Bool.eq_false_iff.mpr c8
     subst c8
     have H1 : (some false) = some r := by rw [if_neg (show ¬ (false = true) by decide)] at H; exact H
     clear H
     have H := H1
     clear H1
     obtain rfl := Option.some.inj H
     go_enter Try.func76, Try.ntmps76
     go_wp2_with (first | ((with_reducible refine gate_dst (N := 3) rfl ?_); refine box_event ?hg (N := 3) ?hd (cs := #[.string a1_0, .int .i64 a1_1, .int .i64 a1_2]) (t := 53) ?hr ?_; (case hd => rfl); (case hg => rfl); (case hr => first | (go_simp; done) | (go_simp; rfl)); intro gb225 hg w14 hbox hb; have n0_ := Aside0.mk (below_step hb_ hb); have n1_ := Aside0.mk (hbox); have n2_ := Aside0.mk ((by rw [hg]; exact (below_size hb_) : w.heap.size ≤ gb225)); have n3_ := Aside0.mk ((by rw [hg]; exact (below_size hb_) : w.heap.size ≤ gb225)); clear HB; have HB := n0_; have BK225 := n1_; have GW225 := n2_; have GE225 := n3_; clear n0_ n1_ n2_ n3_; clear hb hbox hg; have hcz15_0 : w14.cell? ⟨gb225, 0, none⟩ = some (.string a1_0) := (blk_cell BK225.out 0).trans rfl; have hcz15_1 : w14.cell? ⟨gb225, 1, none⟩ = some (.int .i64 a1_1) := (blk_cell BK225.out 1).trans rfl; have hcz15_2 : w14.cell? ⟨gb225, 2, none⟩ = some (.int .i64 a1_2) := (blk_cell BK225.out 2).trans rfl; have hfz15_0 := blk_frozen BK225.out 0; have hfz15_1 := blk_frozen BK225.out 1; have hfz15_2 := blk_frozen BK225.out 2) | (go_at_call 61; (with_reducible refine (impl_gearNamed.calls _ _ l0 a1_0 t226 _ ?side1 ?side2 A3.out).mono ?_); (case side1 => exact kc_ (Kd.C_below HR0.out HB.out)); (case side2 => exact HC0.out); rintro e w16 ⟨rfl, hb⟩; have n0_ := Aside0.mk (blk_below (g := gb225) (o := .cells #[.string a1_0, .int .i64 a1_1, .int .i64 a1_2] 53 (0, 0)) (bk_ BK225) hb); have n1_ := Aside0.mk (below_step (hg_ GE225) hb); clear BK225; clear HB; have BK225 := n0_; have HB := n1_; clear n0_ n1_; (try clear hb); (try clear hb2); (try clear hk); (try clear hi); have hcz17_0 : w16.cell? ⟨gb225, 0, none⟩ = some (.string a1_0) := (blk_cell BK225.out 0).trans rfl; have hcz17_1 : w16.cell? ⟨gb225, 1, none⟩ = some (.int .i64 a1_1) := (blk_cell BK225.out 1).trans rfl; have hcz17_2 : w16.cell? ⟨gb225, 2, none⟩ = some (.int .i64 a1_2) := (blk_cell BK225.out 2).trans rfl; have hfz17_0 := blk_frozen BK225.out 0; have hfz17_1 := blk_frozen BK225.out 1; have hfz17_2 := blk_frozen BK225.out 2; have p227 : 0 ≤ (t226 : Int) := od_; have q227 : t226 < (l0.length : Int) := od_; obtain ⟨ad227, e227, hx227_0, hx227_1, hx227_2, hx227_3⟩ := at_T73 HR0.out t226 p227 q227; cases e227; replace hx227_0 := cq_ HB hx227_0; replace hx227_1 := cq_ HB hx227_1; replace hx227_2 := cq_ HB hx227_2; replace hx227_3 := cq_ HB hx227_3; replace p227 := eq_true p227; replace q227 := eq_true q227) | (go_at_call 67; (with_reducible refine (impl_within.calls a1_1 ((rd_T73 l0 t226).f1) 20000 false _ A7.out).mono ?_); rintro e w' ⟨rfl, ⟨nd, rfl⟩⟩; (try first | exact ⟨rfl, _, World.drewN_drewN _ _ _⟩ | exact ⟨rfl, _, Eq.trans (World.drewN_drewN _ _ _) (congrArg (World.drewN _) (Nat.add_assoc _ _ _))⟩)))
     repeat (go_quiet (first | ((with_reducible refine gate_dst (N := 3) rfl ?_); refine box_event ?hg (N := 3) ?hd (cs := #[.string a1_0, .int .i64 a1_1, .int .i64 a1_2]) (t := 53) ?hr ?_; (case hd => rfl); (case hg => rfl); (case hr => first | (go_simp; done) | (go_simp; rfl)); intro gb225 hg w14 hbox hb; have n0_ := Aside0.mk (below_step hb_ hb); have n1_ := Aside0.mk (hbox); have n2_ := Aside0.mk ((by rw [hg]; exact (below_size hb_) : w.heap.size ≤ gb225)); have n3_ := Aside0.mk ((by rw [hg]; exact (below_size hb_) : w.heap.size ≤ gb225)); clear HB; have HB := n0_; have BK225 := n1_; have GW225 := n2_; have GE225 := n3_; clear n0_ n1_ n2_ n3_; clear hb hbox hg; have hcz15_0 : w14.cell? ⟨gb225, 0, none⟩ = some (.string a1_0) := (blk_cell BK225.out 0).trans rfl; have hcz15_1 : w14.cell? ⟨gb225, 1, none⟩ = some (.int .i64 a1_1) := (blk_cell BK225.out 1).trans rfl; have hcz15_2 : w14.cell? ⟨gb225, 2, none⟩ = some (.int .i64 a1_2) := (blk_cell BK225.out 2).trans rfl; have hfz15_0 := blk_frozen BK225.out 0; have hfz15_1 := blk_frozen BK225.out 1; have hfz15_2 := blk_frozen BK225.out 2) | (go_at_call 61; (with_reducible refine (impl_gearNamed.calls _ _ l0 a1_0 t226 _ ?side1 ?side2 A3.out).mono ?_); (case side1 => exact kc_ (Kd.C_below HR0.out HB.out)); (case side2 => exact HC0.out); rintro e w16 ⟨rfl, hb⟩; have n0_ := Aside0.mk (blk_below (g := gb225) (o := .cells #[.string a1_0, .int .i64 a1_1, .int .i64 a1_2] 53 (0, 0)) (bk_ BK225) hb); have n1_ := Aside0.mk (below_step (hg_ GE225) hb); clear BK225; clear HB; have BK225 := n0_; have HB := n1_; clear n0_ n1_; (try clear hb); (try clear hb2); (try clear hk); (try clear hi); have hcz17_0 : w16.cell? ⟨gb225, 0, none⟩ = some (.string a1_0) := (blk_cell BK225.out 0).trans rfl; have hcz17_1 : w16.cell? ⟨gb225, 1, none⟩ = some (.int .i64 a1_1) := (blk_cell BK225.out 1).trans rfl; have hcz17_2 : w16.cell? ⟨gb225, 2, none⟩ = some (.int .i64 a1_2) := (blk_cell BK225.out 2).trans rfl; have hfz17_0 := blk_frozen BK225.out 0; have hfz17_1 := blk_frozen BK225.out 1; have hfz17_2 := blk_frozen BK225.out 2; have p227 : 0 ≤ (t226 : Int) := od_; have q227 : t226 < (l0.length : Int) := od_; obtain ⟨ad227, e227, hx227_0, hx227_1, hx227_2, hx227_3⟩ := at_T73 HR0.out t226 p227 q227; cases e227; replace hx227_0 := cq_ HB hx227_0; replace hx227_1 := cq_ HB hx227_1; replace hx227_2 := cq_ HB hx227_2; replace hx227_3 := cq_ HB hx227_3; replace p227 := eq_true p227; replace q227 := eq_true q227) | (go_at_call 67; (with_reducible refine (impl_within.calls a1_1 ((rd_T73 l0 t226).f1) 20000 false _ A7.out).mono ?_); rintro e w' ⟨rfl, ⟨nd, rfl⟩⟩; (try first | exact ⟨rfl, _, World.drewN_drewN _ _ _⟩ | exact ⟨rfl, _, Eq.trans (World.drewN_drewN _ _ _) (congrArg (World.drewN _) (Nat.add_assoc _ _ _))⟩))); try go_wp2_with (first | ((with_reducible refine gate_dst (N := 3) rfl ?_); refine box_event ?hg (N := 3) ?hd (cs := #[.string a1_0, .int .i64 a1_1, .int .i64 a1_2]) (t := 53) ?hr ?_; (case hd => rfl); (case hg => rfl); (case hr => first | (go_simp; done) | (go_simp; rfl)); intro gb225 hg w14 hbox hb; have n0_ := Aside0.mk (below_step hb_ hb); have n1_ := Aside0.mk (hbox); have n2_ := Aside0.mk ((by rw [hg]; exact (below_size hb_) : w.heap.size ≤ gb225)); have n3_ := Aside0.mk ((by rw [hg]; exact (below_size hb_) : w.heap.size ≤ gb225)); clear HB; have HB := n0_; have BK225 := n1_; have GW225 := n2_; have GE225 := n3_; clear n0_ n1_ n2_ n3_; clear hb hbox hg; have hcz15_0 : w14.cell? ⟨gb225, 0, none⟩ = some (.string a1_0) := (blk_cell BK225.out 0).trans rfl; have hcz15_1 : w14.cell? ⟨gb225, 1, none⟩ = some (.int .i64 a1_1) := (blk_cell BK225.out 1).trans rfl; have hcz15_2 : w14.cell? ⟨gb225, 2, none⟩ = some (.int .i64 a1_2) := (blk_cell BK225.out 2).trans rfl; have hfz15_0 := blk_frozen BK225.out 0; have hfz15_1 := blk_frozen BK225.out 1; have hfz15_2 := blk_frozen BK225.out 2) | (go_at_call 61; (with_reducible refine (impl_gearNamed.calls _ _ l0 a1_0 t226 _ ?side1 ?side2 A3.out).mono ?_); (case side1 => exact kc_ (Kd.C_below HR0.out HB.out)); (case side2 => exact HC0.out); rintro e w16 ⟨rfl, hb⟩; have n0_ := Aside0.mk (blk_below (g := gb225) (o := .cells #[.string a1_0, .int .i64 a1_1, .int .i64 a1_2] 53 (0, 0)) (bk_ BK225) hb); have n1_ := Aside0.mk (below_step (hg_ GE225) hb); clear BK225; clear HB; have BK225 := n0_; have HB := n1_; clear n0_ n1_; (try clear hb); (try clear hb2); (try clear hk); (try clear hi); have hcz17_0 : w16.cell? ⟨gb225, 0, none⟩ = some (.string a1_0) := (blk_cell BK225.out 0).trans rfl; have hcz17_1 : w16.cell? ⟨gb225, 1, none⟩ = some (.int .i64 a1_1) := (blk_cell BK225.out 1).trans rfl; have hcz17_2 : w16.cell? ⟨gb225, 2, none⟩ = some (.int .i64 a1_2) := (blk_cell BK225.out 2).trans rfl; have hfz17_0 := blk_frozen BK225.out 0; have hfz17_1 := blk_frozen BK225.out 1; have hfz17_2 := blk_frozen BK225.out 2; have p227 : 0 ≤ (t226 : Int) := od_; have q227 : t226 < (l0.length : Int) := od_; obtain ⟨ad227, e227, hx227_0, hx227_1, hx227_2, hx227_3⟩ := at_T73 HR0.out t226 p227 q227; cases e227; replace hx227_0 := cq_ HB hx227_0; replace hx227_1 := cq_ HB hx227_1; replace hx227_2 := cq_ HB hx227_2; replace hx227_3 := cq_ HB hx227_3; replace p227 := eq_true p227; replace q227 := eq_true q227) | (go_at_call 67; (with_reducible refine (impl_within.calls a1_1 ((rd_T73 l0 t226).f1) 20000 false _ A7.out).mono ?_); rintro e w' ⟨rfl, ⟨nd, rfl⟩⟩; (try first | exact ⟨rfl, _, World.drewN_drewN _ _ _⟩ | exact ⟨rfl, _, Eq.trans (World.drewN_drewN _ _ _) (congrArg (World.drewN _) (Nat.add_assoc _ _ _))⟩))))
     go_ret
     exact ⟨ew_, (hg_ GE225)⟩
   ·rw [if_neg c6] at H
    exact absurd H (by simp)
  ·rw [if_neg c5] at H
   exact absurd H (by simp)
 ·rw [if_neg c4] at H
  have c4b0 : decide (0 ≤ t226) = false := decide_eq_false c4
  clear c4
  obtain rfl := Option.some.inj H
  go_enter Try.func76, Try.ntmps76
  go_wp2_with (first | ((with_reducible refine gate_dst (N := 3) rfl ?_); refine box_event ?hg (N := 3) ?hd (cs := #[.string a1_0, .int .i64 a1_1, .int .i64 a1_2]) (t := 53) ?hr ?_; (case hd => rfl); (case hg => rfl); (case hr => first | (go_simp; done) | (go_simp; rfl)); intro gb225 hg w18 hbox hb; have n0_ := Aside0.mk (below_step hb_ hb); have n1_ := Aside0.mk (hbox); have n2_ := Aside0.mk ((by rw [hg]; exact (below_size hb_) : w.heap.size ≤ gb225)); have n3_ := Aside0.mk ((by rw [hg]; exact (below_size hb_) : w.heap.size ≤ gb225)); clear HB; have HB := n0_; have BK225 := n1_; have GW225 := n2_; have GE225 := n3_; clear n0_ n1_ n2_ n3_; clear hb hbox hg; have hcz19_0 : w18.cell? ⟨gb225, 0, none⟩ = some (.string a1_0) := (blk_cell BK225.out 0).trans rfl; have hcz19_1 : w18.cell? ⟨gb225, 1, none⟩ = some (.int .i64 a1_1) := (blk_cell BK225.out 1).trans rfl; have hcz19_2 : w18.cell? ⟨gb225, 2, none⟩ = some (.int .i64 a1_2) := (blk_cell BK225.out 2).trans rfl; have hfz19_0 := blk_frozen BK225.out 0; have hfz19_1 := blk_frozen BK225.out 1; have hfz19_2 := blk_frozen BK225.out 2) | (go_at_call 61; (with_reducible refine (impl_gearNamed.calls _ _ l0 a1_0 t226 _ ?side1 ?side2 A3.out).mono ?_); (case side1 => exact kc_ (Kd.C_below HR0.out HB.out)); (case side2 => exact HC0.out); rintro e w20 ⟨rfl, hb⟩; have n0_ := Aside0.mk (blk_below (g := gb225) (o := .cells #[.string a1_0, .int .i64 a1_1, .int .i64 a1_2] 53 (0, 0)) (bk_ BK225) hb); have n1_ := Aside0.mk (below_step (hg_ GE225) hb); clear BK225; clear HB; have BK225 := n0_; have HB := n1_; clear n0_ n1_; (try clear hb); (try clear hb2); (try clear hk); (try clear hi)))
  repeat (go_quiet (first | ((with_reducible refine gate_dst (N := 3) rfl ?_); refine box_event ?hg (N := 3) ?hd (cs := #[.string a1_0, .int .i64 a1_1, .int .i64 a1_2]) (t := 53) ?hr ?_; (case hd => rfl); (case hg => rfl); (case hr => first | (go_simp; done) | (go_simp; rfl)); intro gb225 hg w18 hbox hb; have n0_ := Aside0.mk (below_step hb_ hb); have n1_ := Aside0.mk (hbox); have n2_ := Aside0.mk ((by rw [hg]; exact (below_size hb_) : w.heap.size ≤ gb225)); have n3_ := Aside0.mk ((by rw [hg]; exact (below_size hb_) : w.heap.size ≤ gb225)); clear HB; have HB := n0_; have BK225 := n1_; have GW225 := n2_; have GE225 := n3_; clear n0_ n1_ n2_ n3_; clear hb hbox hg; have hcz19_0 : w18.cell? ⟨gb225, 0, none⟩ = some (.string a1_0) := (blk_cell BK225.out 0).trans rfl; have hcz19_1 : w18.cell? ⟨gb225, 1, none⟩ = some (.int .i64 a1_1) := (blk_cell BK225.out 1).trans rfl; have hcz19_2 : w18.cell? ⟨gb225, 2, none⟩ = some (.int .i64 a1_2) := (blk_cell BK225.out 2).trans rfl; have hfz19_0 := blk_frozen BK225.out 0; have hfz19_1 := blk_frozen BK225.out 1; have hfz19_2 := blk_frozen BK225.out 2) | (go_at_call 61; (with_reducible refine (impl_gearNamed.calls _ _ l0 a1_0 t226 _ ?side1 ?side2 A3.out).mono ?_); (case side1 => exact kc_ (Kd.C_below HR0.out HB.out)); (case side2 => exact HC0.out); rintro e w20 ⟨rfl, hb⟩; have n0_ := Aside0.mk (blk_below (g := gb225) (o := .cells #[.string a1_0, .int .i64 a1_1, .int .i64 a1_2] 53 (0, 0)) (bk_ BK225) hb); have n1_ := Aside0.mk (below_step (hg_ GE225) hb); clear BK225; clear HB; have BK225 := n0_; have HB := n1_; clear n0_ n1_; (try clear hb); (try clear hb2); (try clear hk); (try clear hi))); try go_wp2_with (first | ((with_reducible refine gate_dst (N := 3) rfl ?_); refine box_event ?hg (N := 3) ?hd (cs := #[.string a1_0, .int .i64 a1_1, .int .i64 a1_2]) (t := 53) ?hr ?_; (case hd => rfl); (case hg => rfl); (case hr => first | (go_simp; done) | (go_simp; rfl)); intro gb225 hg w18 hbox hb; have n0_ := Aside0.mk (below_step hb_ hb); have n1_ := Aside0.mk (hbox); have n2_ := Aside0.mk ((by rw [hg]; exact (below_size hb_) : w.heap.size ≤ gb225)); have n3_ := Aside0.mk ((by rw [hg]; exact (below_size hb_) : w.heap.size ≤ gb225)); clear HB; have HB := n0_; have BK225 := n1_; have GW225 := n2_; have GE225 := n3_; clear n0_ n1_ n2_ n3_; clear hb hbox hg; have hcz19_0 : w18.cell? ⟨gb225, 0, none⟩ = some (.string a1_0) := (blk_cell BK225.out 0).trans rfl; have hcz19_1 : w18.cell? ⟨gb225, 1, none⟩ = some (.int .i64 a1_1) := (blk_cell BK225.out 1).trans rfl; have hcz19_2 : w18.cell? ⟨gb225, 2, none⟩ = some (.int .i64 a1_2) := (blk_cell BK225.out 2).trans rfl; have hfz19_0 := blk_frozen BK225.out 0; have hfz19_1 := blk_frozen BK225.out 1; have hfz19_2 := blk_frozen BK225.out 2) | (go_at_call 61; (with_reducible refine (impl_gearNamed.calls _ _ l0 a1_0 t226 _ ?side1 ?side2 A3.out).mono ?_); (case side1 => exact kc_ (Kd.C_below HR0.out HB.out)); (case side2 => exact HC0.out); rintro e w20 ⟨rfl, hb⟩; have n0_ := Aside0.mk (blk_below (g := gb225) (o := .cells #[.string a1_0, .int .i64 a1_1, .int .i64 a1_2] 53 (0, 0)) (bk_ BK225) hb); have n1_ := Aside0.mk (below_step (hg_ GE225) hb); clear BK225; clear HB; have BK225 := n0_; have HB := n1_; clear n0_ n1_; (try clear hb); (try clear hb2); (try clear hk); (try clear hi))))
  go_ret
  exact ⟨ew_, (hg_ GE225)⟩

/-! ### impl_areChecks: function 64 -/
mutual
def impl_areChecks.l0 : Nat → List (S73) → List (S53) → List (S53) → Int → Int → Option (Bool)
 | 0, _, _, _, _, _ => none
 | k + 1, x0, x1, x12, x13, x14 => if x14 < x13 then (if 0 ≤ x14 then (if x14 < (x12.length : Int) then ((impl_isCheck.f x0 ((rd_T53 x12 x14).f0) ((rd_T53 x12 x14).f1) ((rd_T53 x12 x14).f2)).bind fun t232 => (if t232 = true then (if x14 > 0 then (if 0 ≤ (wrap64 (x14 - 1)) then (if (wrap64 (x14 - 1)) < (x1.length : Int) then (impl_areChecks.j1 k x0 x1 x14 x12 x13 x14 (decide (((rd_T53 x12 x14).f1) < ((rd_T53 x1 (wrap64 (x14 - 1))).f1))) ((rd_T53 x12 x14).f0) ((rd_T53 x12 x14).f1) ((rd_T53 x12 x14).f2)) else (none)) else (none)) else (impl_areChecks.j1 k x0 x1 x14 x12 x13 x14 false ((rd_T53 x12 x14).f0) ((rd_T53 x12 x14).f1) ((rd_T53 x12 x14).f2))) else (impl_areChecks.j1 k x0 x1 x14 x12 x13 x14 true ((rd_T53 x12 x14).f0) ((rd_T53 x12 x14).f1) ((rd_T53 x12 x14).f2)))) else (none)) else (none)) else (some true)
def impl_areChecks.j1 : Nat → List (S73) → List (S53) → Int → List (S53) → Int → Int → Bool → ByteArray → Int → Int → Option (Bool)
 | 0, _, _, _, _, _, _, _, _, _, _ => none
 | k + 1, x0, x1, x5, x12, x13, x14, x37, x232000, x232001, x232002 => if x37 = true then (some false) else (if 0 ≤ x5 then (if x5 ≤ (x1.length : Int) then ((some (x1.take (x5 : Int).toNat : List (S53))).bind fun y234 => (impl_areChecks.l1 k x0 x1 x12 x13 x14 y234 (y234.length : Int) 0 x232000 x232001 x232002)) else (none)) else (none))
def impl_areChecks.l1 : Nat → List (S73) → List (S53) → List (S53) → Int → Int → List (S53) → Int → Int → ByteArray → Int → Int → Option (Bool)
 | 0, _, _, _, _, _, _, _, _, _, _, _ => none
 | k + 1, x0, x1, x12, x13, x14, x40, x41, x42, x232000, x232001, x232002 => if x42 < x41 then (if 0 ≤ x42 then (if x42 < (x40.length : Int) then (if ((rd_T53 x40 x42).f0).toList = x232000.toList then (if x232001 ≤ ((rd_T53 x40 x42).f1) then (some false) else (if x232002 < ((rd_T53 x40 x42).f2) then (some false) else (impl_areChecks.l1 k x0 x1 x12 x13 x14 x40 x41 (wrap64 (x42 + 1)) x232000 x232001 x232002))) else (impl_areChecks.l1 k x0 x1 x12 x13 x14 x40 x41 (wrap64 (x42 + 1)) x232000 x232001 x232002)) else (none)) else (none)) else (impl_areChecks.l0 k x0 x1 x12 x13 (wrap64 (x14 + 1)))
end
def impl_areChecks.f (k : Nat) (l0 : List (S73)) (l1 : List (S53)) : Option (Bool) := if (l1.length : Int) > 60 then (some false) else (impl_areChecks.l0 k l0 l1 l1 (l1.length : Int) 0)
theorem impl_areChecks.mono_l : ∀ k, (∀ y0 y1 y2 y3 y4, LeO (impl_areChecks.l0 k y0 y1 y2 y3 y4) (impl_areChecks.l0 (k + 1) y0 y1 y2 y3 y4)) ∧ (∀ y0 y1 y2 y3 y4 y5 y6 y7 y8 y9, LeO (impl_areChecks.j1 k y0 y1 y2 y3 y4 y5 y6 y7 y8 y9) (impl_areChecks.j1 (k + 1) y0 y1 y2 y3 y4 y5 y6 y7 y8 y9)) ∧ (∀ y0 y1 y2 y3 y4 y5 y6 y7 y8 y9 y10, LeO (impl_areChecks.l1 k y0 y1 y2 y3 y4 y5 y6 y7 y8 y9 y10) (impl_areChecks.l1 (k + 1) y0 y1 y2 y3 y4 y5 y6 y7 y8 y9 y10))
 | 0 => ⟨fun _ _ _ _ _ r h => by simp [impl_areChecks.l0] at h, fun _ _ _ _ _ _ _ _ _ _ r h => by simp [impl_areChecks.j1] at h, fun _ _ _ _ _ _ _ _ _ _ _ r h => by simp [impl_areChecks.l1] at h⟩
 | k + 1 => by
  obtain ⟨ih0, ih1, ih2⟩ := impl_areChecks.mono_l k
  refine ⟨?_, ?_, ?_⟩
  ·intro y0 y1 y2 y3 y4
   unfold impl_areChecks.l0
   repeat' first
   | (with_reducible exact ih0 _ _ _ _ _)
   | (with_reducible exact ih1 _ _ _ _ _ _ _ _ _ _)
   | (with_reducible exact ih2 _ _ _ _ _ _ _ _ _ _ _)
   | (with_reducible exact LeO.refl _)
   | (with_reducible exact LeO.none _)
   | (with_reducible refine LeO.ite ?_ ?_)
   | (with_reducible refine LeO.bind ?_ (fun _ => ?_))
   | exact ih0 _ _ _ _ _
   | exact ih1 _ _ _ _ _ _ _ _ _ _
   | exact ih2 _ _ _ _ _ _ _ _ _ _ _
   | exact LeO.none _
   | refine LeO.ite ?_ ?_
   | refine LeO.bind ?_ (fun _ => ?_)
  ·intro y0 y1 y2 y3 y4 y5 y6 y7 y8 y9
   unfold impl_areChecks.j1
   repeat' first
   | (with_reducible exact ih0 _ _ _ _ _)
   | (with_reducible exact ih1 _ _ _ _ _ _ _ _ _ _)
   | (with_reducible exact ih2 _ _ _ _ _ _ _ _ _ _ _)
   | (with_reducible exact LeO.refl _)
   | (with_reducible exact LeO.none _)
   | (with_reducible refine LeO.ite ?_ ?_)
   | (with_reducible refine LeO.bind ?_ (fun _ => ?_))
   | exact ih0 _ _ _ _ _
   | exact ih1 _ _ _ _ _ _ _ _ _ _
   | exact ih2 _ _ _ _ _ _ _ _ _ _ _
   | exact LeO.none _
   | refine LeO.ite ?_ ?_
   | refine LeO.bind ?_ (fun _ => ?_)
  ·intro y0 y1 y2 y3 y4 y5 y6 y7 y8 y9 y10
   unfold impl_areChecks.l1
   repeat' first
   | (with_reducible exact ih0 _ _ _ _ _)
   | (with_reducible exact ih1 _ _ _ _ _ _ _ _ _ _)
   | (with_reducible exact ih2 _ _ _ _ _ _ _ _ _ _ _)
   | (with_reducible exact LeO.refl _)
   | (with_reducible exact LeO.none _)
   | (with_reducible refine LeO.ite ?_ ?_)
   | (with_reducible refine LeO.bind ?_ (fun _ => ?_))
   | exact ih0 _ _ _ _ _
   | exact ih1 _ _ _ _ _ _ _ _ _ _
   | exact ih2 _ _ _ _ _ _ _ _ _ _ _
   | exact LeO.none _
   | refine LeO.ite ?_ ?_
   | refine LeO.bind ?_ (fun _ => ?_)
theorem impl_areChecks.mono : ∀ a0 a1 k, LeO (impl_areChecks.f k a0 a1) (impl_areChecks.f (k + 1) a0 a1) := by
 intro a0 a1 k
 obtain ⟨ih0, ih1, ih2⟩ := impl_areChecks.mono_l k
 unfold impl_areChecks.f
 repeat' first
   | (with_reducible exact ih0 _ _ _ _ _)
   | (with_reducible exact ih1 _ _ _ _ _ _ _ _ _ _)
   | (with_reducible exact ih2 _ _ _ _ _ _ _ _ _ _ _)
   | (with_reducible exact LeO.refl _)
   | (with_reducible exact LeO.none _)
   | (with_reducible refine LeO.ite ?_ ?_)
   | (with_reducible refine LeO.bind ?_ (fun _ => ?_))
   | exact ih0 _ _ _ _ _
   | exact ih1 _ _ _ _ _ _ _ _ _ _
   | exact ih2 _ _ _ _ _ _ _ _ _ _ _
   | exact LeO.none _
   | refine LeO.ite ?_ ?_
   | refine LeO.bind ?_ (fun _ => ?_)
def impl_areChecks.T6 : Bool × List (List Nat × List Nat) := (true, [([], []), ([], []), ([0, 1], [0, 1]), ([2], [2]), ([3, 2], [3]), ([4], [4]), ([5, 4], [4, 5]), ([6, 4, 4], [4, 6]), ([7], [7]), ([8, 7], [7, 8]), ([7], [7]), ([7], [7]), ([11, 7], [7, 11]), ([10, 12, 7], [7, 10, 12]), ([13, 7], [7, 13]), ([14, 7], [7, 14]), ([9, 15, 7], [7, 9, 15]), ([7, 16, 4], [4, 7, 16]), ([4, 17], [4, 17])])
def impl_areChecks.B6 : List Nat := [0, 0, 3, 7, 15, 31, 63, 127, 255, 511, 255, 255, 2303, 7423, 15615, 31999, 65535, 131071, 262143]
theorem impl_areChecks.tab6 : rtab .any (opsOf Try.f64 6) = impl_areChecks.T6 := by kernel_rfl
theorem impl_areChecks.bits6 : waitsOk impl_areChecks.T6.2 impl_areChecks.B6 = true := by kernel_rfl
set_option maxHeartbeats 8000000 in
set_option maxRecDepth 100000 in
theorem impl_areChecks.calls (k : Nat) (A0 : Option Addr) (c0 : Nat) (l0 : List (S73)) (A1 : Option Addr) (c1 : Nat) (l1 : List (S53)) (r : Bool) (w : World) (hr0 : Kd.C k73 w A0 l0.length l0) (hc0 : l0.length ≤ c0) (hr1 : Kd.C k53 w A1 l1.length l1) (hc1 : l1.length ≤ c1) (h : impl_areChecks.f k l0 l1 = some r) :
  Calls Try.prog 64 #[.slice A0 l0.length c0, .slice A1 l1.length c1] w fun e w' => e = .returned (.bool r) ∧ Below w.heap.size w w' := by
 have hu53 := Try.underlying53
 have HR0 := Aside0.mk hr0
 have HC0 := Aside0.mk hc0
 clear hr0 hc0
 have HR1 := Aside0.mk hr1
 have HC1 := Aside0.mk hc1
 clear hr1 hc1
 have HB := Aside0.mk (Below.refl w.heap.size w)
 have H : (if (l1.length : Int) > 60 then (some false) else (impl_areChecks.l0 k l0 l1 l1 (l1.length : Int) 0)) = some r := h
 clear h
 by_cases c3 : (l1.length : Int) > 60
 ·rw [if_pos c3] at H
  have c3b0 : decide (60 < (l1.length : Int)) = true := decide_eq_true c3
  have c3b1 : decide (60 < l1.length) = true := decide_eq_true (by omega)
  clear c3
  obtain rfl := Option.some.inj H
  go_enter Try.func64, Try.ntmps64
  go_wp2
  go_ret
  exact ⟨ew_, hb_⟩
 ·rw [if_neg c3] at H
  have c3b0 : decide (60 < (l1.length : Int)) = false := decide_eq_false c3
  have c3b1 : decide (60 < l1.length) = false := decide_eq_false (by omega)
  clear c3
  have H' := Aside0.mk H
  clear H
  go_enter Try.func64, Try.ntmps64
  go_wp2
  go_loopg [14] k (fun kq v14 w' => ∃ (x14_1 : Int), v14 = .int .i64 x14_1 ∧ Aside0 (impl_areChecks.l0 kq l0 l1 l1 (l1.length : Int) x14_1 = some r) ∧ Aside0 (kq ≤ k) ∧ Aside0 (Below w.heap.size w w'))
  case atStart => exact ⟨(0), (by first | rfl | (simp; done) | (simp [*]; done)), H', ⟨Nat.le_refl _⟩, ⟨hb_⟩⟩
  case round =>
   clear H'
   try clear c1
   try clear p2
   try clear c3
   try clear c3b0
   try clear c3b1
   obtain ⟨x14_1, rfl, HA, HK1, HB⟩ := hrel
   cases gk with
   | zero => exact absurd HA.out (by simp [impl_areChecks.l0])
   | succ k1 =>
    have H := HA.out
    clear HA
    simp only [impl_areChecks.l0] at H
    by_cases c4 : x14_1 < (l1.length : Int)
    ·rw [if_pos c4] at H
     have c4b0 : decide (x14_1 < (l1.length : Int)) = true := decide_eq_true c4
     clear c4
     by_cases c5 : 0 ≤ x14_1
     ·rw [if_pos c5] at H
      have c5b0 : decide (0 ≤ x14_1) = true := decide_eq_true c5
      clear c5
      by_cases c6 : x14_1 < (l1.length : Int)
      ·rw [if_pos c6] at H
       have c6b0 : decide (x14_1 < (l1.length : Int)) = true := decide_eq_true c6
       clear c6
       have HC7 := Aside0.mk H
       clear H
       have p230 : 0 ≤ (x14_1 : Int) := od_
       have q230 : x14_1 < (l1.length : Int) := od_
       obtain ⟨ad230, e230, hx230_0, hx230_1, hx230_2⟩ := at_T53 HR1.out x14_1 p230 q230
       cases e230
       replace hx230_0 := cq_ HB hx230_0
       replace hx230_1 := cq_ HB hx230_1
       replace hx230_2 := cq_ HB hx230_2
       replace p230 := eq_true p230
       replace q230 := eq_true q230
       go_upto_region 6 with (first | ((with_reducible refine gate_dst (N := 6) rfl ?_); refine box_event ?hg (N := 6) ?hd (cs := #[.string (⟨#[]⟩ : ByteArray), .int .i64 0, .int .i64 0]) (t := 53) ?hr ?_; (case hd => rfl); (case hg => rfl); (case hr => first | (go_simp; done) | (go_simp; rfl)); intro gb231 hg w8 hbox hb; have n0_ := Aside0.mk (below_step hb_ hb); have n1_ := Aside0.mk (hbox); have n2_ := Aside0.mk ((by rw [hg]; exact (below_size hb_) : w.heap.size ≤ gb231)); have n3_ := Aside0.mk ((by rw [hg]; exact (below_size hb_) : w.heap.size ≤ gb231)); clear HB; have HB := n0_; have BK231 := n1_; have GW231 := n2_; have GE231 := n3_; clear n0_ n1_ n2_ n3_; clear hb hbox hg; have hcz9_0 : w8.cell? ⟨gb231, 0, none⟩ = some (.string (⟨#[]⟩ : ByteArray)) := (blk_cell BK231.out 0).trans rfl; have hcz9_1 : w8.cell? ⟨gb231, 1, none⟩ = some (.int .i64 0) := (blk_cell BK231.out 1).trans rfl; have hcz9_2 : w8.cell? ⟨gb231, 2, none⟩ = some (.int .i64 0) := (blk_cell BK231.out 2).trans rfl; have hfz9_0 := blk_frozen BK231.out 0; have hfz9_1 := blk_frozen BK231.out 1; have hfz9_2 := blk_frozen BK231.out 2))
       (try simp only [Act.put, List.setIfInBounds_toArray, List.set_cons_zero, List.set_cons_succ])
       go_cut [37] (fun v37 wc => ∃ (kq : Nat) (x37_6 : Bool), v37 = .bool x37_6 ∧ Aside0 (impl_areChecks.j1 kq l0 l1 x14_1 l1 (l1.length : Int) x14_1 x37_6 ((rd_T53 l1 x14_1).f0) ((rd_T53 l1 x14_1).f1) ((rd_T53 l1 x14_1).f2) = some r) ∧ Aside0 (kq ≤ k1) ∧ Aside0 (wc.heap[gb231]? = some (.cells #[.string ((rd_T53 l1 x14_1).f0), .int .i64 ((rd_T53 l1 x14_1).f1), .int .i64 ((rd_T53 l1 x14_1).f2)] 53 (0, 0))) ∧ Aside0 (Below w.heap.size w wc))
       case first =>
        have H := HC7.out
        clear HC7
        replace H := Option.bind_eq_some_iff.mp H
        obtain ⟨t232, A100, H⟩ := H
        replace H : (if t232 = true then (if x14_1 > 0 then (if 0 ≤ (wrap64 (x14_1 - 1)) then (if (wrap64 (x14_1 - 1)) < (l1.length : Int) then (impl_areChecks.j1 k1 l0 l1 x14_1 l1 (l1.length : Int) x14_1 (decide (((rd_T53 l1 x14_1).f1) < ((rd_T53 l1 (wrap64 (x14_1 - 1))).f1))) ((rd_T53 l1 x14_1).f0) ((rd_T53 l1 x14_1).f1) ((rd_T53 l1 x14_1).f2)) else (none)) else (none)) else (impl_areChecks.j1 k1 l0 l1 x14_1 l1 (l1.length : Int) x14_1 false ((rd_T53 l1 x14_1).f0) ((rd_T53 l1 x14_1).f1) ((rd_T53 l1 x14_1).f2))) else (impl_areChecks.j1 k1 l0 l1 x14_1 l1 (l1.length : Int) x14_1 true ((rd_T53 l1 x14_1).f0) ((rd_T53 l1 x14_1).f1) ((rd_T53 l1 x14_1).f2))) = some r := H
        have A10 := Aside0.mk A100
        clear A100
        by_cases c11 : t232 = true
        ·subst c11
         have H1 : (if x14_1 > 0 then (if 0 ≤ (wrap64 (x14_1 - 1)) then (if (wrap64 (x14_1 - 1)) < (l1.length : Int) then (impl_areChecks.j1 k1 l0 l1 x14_1 l1 (l1.length : Int) x14_1 (decide (((rd_T53 l1 x14_1).f1) < ((rd_T53 l1 (wrap64 (x14_1 - 1))).f1))) ((rd_T53 l1 x14_1).f0) ((rd_T53 l1 x14_1).f1) ((rd_T53 l1 x14_1).f2)) else (none)) else (none)) else (impl_areChecks.j1 k1 l0 l1 x14_1 l1 (l1.length : Int) x14_1 false ((rd_T53 l1 x14_1).f0) ((rd_T53 l1 x14_1).f1) ((rd_T53 l1 x14_1).f2))) = some r := by rw [if_pos rfl] at H; exact H
         clear H
         have H := H1
         clear H1
         by_cases c12 : x14_1 > 0
         ·rw [if_pos c12] at H
          have c12b0 : decide (0 < x14_1) = true := decide_eq_true c12
          clear c12
          (first | rw [c12b0] | (simp only [i64_w, i32_w]; rw [c12b0]) | skip)
          obtain ⟨ji13, hji13⟩ : ∃ j_ : Int, (wrap64 (x14_1 - 1)) = j_ := ⟨_, rfl⟩
          replace H : (if 0 ≤ (ji13) then (if (ji13) < (l1.length : Int) then (impl_areChecks.j1 k1 l0 l1 x14_1 l1 (l1.length : Int) x14_1 (decide (((rd_T53 l1 x14_1).f1) < ((rd_T53 l1 (ji13)).f1))) ((rd_T53 l1 x14_1).f0) ((rd_T53 l1 x14_1).f1) ((rd_T53 l1 x14_1).f2)) else (none)) else (none)) = some r := by first | (rw [hji13] at H; exact H) | (simp only [hji13] at H ⊢; exact H)
          (try rw [hji13] at A10)
          have hji13w : (IntKind.i64.wrap (x14_1 - 1)) = ji13 := (i64_w _).trans hji13
          by_cases c14 : 0 ≤ (ji13)
          ·rw [if_pos c14] at H
           have c14b0 : decide (0 ≤ (ji13)) = true := decide_eq_true c14
           clear c14
           by_cases c15 : (ji13) < (l1.length : Int)
           ·rw [if_pos c15] at H
            have c15b0 : decide ((ji13) < (l1.length : Int)) = true := decide_eq_true c15
            clear c15
            have H' := Aside0.mk H
            clear H
            try go_wp2
            have n0_ : Aside0 ((((w8.setCell ⟨gb231, 0, none⟩ (.string ((rd_T53 l1 x14_1).f0))).setCell ⟨gb231, 1, none⟩ (.int .i64 ((rd_T53 l1 x14_1).f1))).setCell ⟨gb231, 2, none⟩ (.int .i64 ((rd_T53 l1 x14_1).f2))).heap[gb231]? = some (.cells #[.string ((rd_T53 l1 x14_1).f0), .int .i64 ((rd_T53 l1 x14_1).f1), .int .i64 ((rd_T53 l1 x14_1).f2)] 53 (0, 0))) := ⟨by (with_reducible repeat (first | refine blk_drewN ?_ _ | refine blk_drew ?_ | refine blk_alloc ?_ _)); refine blk_put (cs := #[.string ((rd_T53 l1 x14_1).f0), .int .i64 ((rd_T53 l1 x14_1).f1), .int .i64 0]) ?_ 2 _ rfl; (with_reducible repeat (first | refine blk_drewN ?_ _ | refine blk_drew ?_ | refine blk_alloc ?_ _)); refine blk_put (cs := #[.string ((rd_T53 l1 x14_1).f0), .int .i64 0, .int .i64 0]) ?_ 1 _ rfl; (with_reducible repeat (first | refine blk_drewN ?_ _ | refine blk_drew ?_ | refine blk_alloc ?_ _)); refine blk_put (cs := #[.string (⟨#[]⟩ : ByteArray), .int .i64 0, .int .i64 0]) ?_ 0 _ rfl; (with_reducible repeat (first | refine blk_drewN ?_ _ | refine blk_drew ?_ | refine blk_alloc ?_ _)); exact BK231.out⟩
            have n1_ : Aside0 (Below w.heap.size w (((w8.setCell ⟨gb231, 0, none⟩ (.string ((rd_T53 l1 x14_1).f0))).setCell ⟨gb231, 1, none⟩ (.int .i64 ((rd_T53 l1 x14_1).f1))).setCell ⟨gb231, 2, none⟩ (.int .i64 ((rd_T53 l1 x14_1).f2)))) := ⟨(hg_ GE231)⟩
            (try clear BK231)
            (try clear HB)
            generalize (((w8.setCell ⟨gb231, 0, none⟩ (.string ((rd_T53 l1 x14_1).f0))).setCell ⟨gb231, 1, none⟩ (.int .i64 ((rd_T53 l1 x14_1).f1))).setCell ⟨gb231, 2, none⟩ (.int .i64 ((rd_T53 l1 x14_1).f2))) = w16 at n0_ n1_ ⊢
            have BK231 := n0_
            have HB := n1_
            clear n0_ n1_
            have n0_ := Aside0.mk (blk_drew BK231.out)
            have n1_ := Aside0.mk (below_drew1 HB.out)
            clear BK231
            clear HB
            have BK231 := n0_
            have HB := n1_
            clear n0_ n1_
            have p233 : 0 ≤ ((ji13) : Int) := od_
            have q233 : (ji13) < (l1.length : Int) := od_
            obtain ⟨ad233, e233, hx233_0, hx233_1, hx233_2⟩ := at_T53 HR1.out (ji13) p233 q233
            have hw233_2 := hx233_2
            have hw233_1 := hx233_1
            have hw233_0 := hx233_0
            obtain rfl : ad230 = ad233 := (by injection e233)
            replace hx233_0 := cq_ HB hx233_0
            replace hx233_1 := cq_ HB hx233_1
            replace hx233_2 := cq_ HB hx233_2
            replace p233 := eq_true p233
            replace q233 := eq_true q233
            refine start_ (n := 19) (S := fun w' => w'.cell? ⟨gb231, 0, none⟩ = some (.string ((rd_T53 l1 x14_1).f0)) ∧ w'.cell? ⟨gb231, 1, none⟩ = some (.int .i64 ((rd_T53 l1 x14_1).f1)) ∧ w'.cell? ⟨gb231, 2, none⟩ = some (.int .i64 ((rd_T53 l1 x14_1).f2)) ∧ w'.cell? (ad230.add (((ji13)).toNat * 3)) = some (.string ((rd_T53 l1 (ji13)).f0)) ∧ w'.cell? ⟨(ad230.add (((ji13)).toNat * 3)).block, (ad230.add (((ji13)).toNat * 3)).off + 1, none⟩ = some (.int .i64 ((rd_T53 l1 (ji13)).f1)) ∧ w'.cell? ⟨(ad230.add (((ji13)).toNat * 3)).block, (ad230.add (((ji13)).toNat * 3)).off + 2, none⟩ = some (.int .i64 ((rd_T53 l1 (ji13)).f2))) (ds := []) #[F_,F_,F_,F_,F_,F_,F_,F_,F_,F_,F_,F_,F_,F_,F_,F_,F_,F_,F_] (by kernel_rfl) rfl rfl ⟨(blk_cell BK231.out 0).trans rfl, (blk_cell BK231.out 1).trans rfl, (blk_cell BK231.out 2).trans rfl, ((HB.out.cell (World.block_lt_of_cell? w _ hw233_0)).trans hw233_0), ((HB.out.cell (World.block_lt_of_cell? w _ hw233_1)).trans hw233_1), ((HB.out.cell (World.block_lt_of_cell? w _ hw233_2)).trans hw233_2)⟩ (fun hHeld => ?_); refine with_tabW impl_areChecks.tab6 impl_areChecks.bits6 (fun HT_ HW_ => ?_)
            generalize w16.drew = w17 at BK231 HB hx233_0 hx233_1 hx233_2 hHeld ⊢
            refine pu (i := 0) (N := some 19) #[T_,F_,F_,F_,F_,F_,F_,F_,F_,F_,F_,F_,F_,F_,F_,F_,F_,F_,F_] HT_ ?_
            refine take_ (i := 1) (N := some 20) (v := ?_) (a' := ?_) #[T_,T_,F_,F_,F_,F_,F_,F_,F_,F_,F_,F_,F_,F_,F_,F_,F_,F_,F_] rfl rfl (take_ofW HT_.out HW_.out (by kernel_rfl)) (fun _ _ _ h => h) (Or.inl ⟨by rfl, ?_⟩) hHeld ?_ ?_
            rotate_left
            ·rintro w' ⟨s0, s1, s2, s3, s4, s5⟩
             go_simp
             with_reducible rfl
            rotate_left
            ·simp only [Act.put, sT_, s0_, sS_, i64_w, i32_w]
             rfl
            refine one_ (i := 2) (N := some 21) #[T_,T_,T_,F_,F_,F_,F_,F_,F_,F_,F_,F_,F_,F_,F_,F_,F_,F_,F_] rfl rfl (one_of HT_.out (by kernel_rfl)) (by decide) (fun K hK => ?_)
            refine goes_ Try.func76 (by kernel_rfl) rfl #[.slice A0 l0.length c0, .agg #[.string ((rd_T53 l1 x14_1).f0), .int .i64 ((rd_T53 l1 x14_1).f1), .int .i64 ((rd_T53 l1 x14_1).f2)]] (by rfl) rfl rfl ln_ ?_
            with_reducible refine (impl_isCheck.calls _ _ l0 ((rd_T53 l1 x14_1).f0) ((rd_T53 l1 x14_1).f1) ((rd_T53 l1 x14_1).f2) true _ ?side1 ?side2 A10.out).mono ?_
            (case side1 => exact kc_ (Kd.C_below HR0.out HB.out))
            (case side2 => exact HC0.out)
            rintro e w18 ⟨rfl, hb⟩
            refine ⟨_, rfl, ?_⟩
            have n0_ := Aside0.mk (blk_below (g := gb231) (o := .cells #[.string ((rd_T53 l1 x14_1).f0), .int .i64 ((rd_T53 l1 x14_1).f1), .int .i64 ((rd_T53 l1 x14_1).f2)] 53 (0, 0)) (bk_ BK231) hb)
            have n1_ := Aside0.mk (below_step (hg_ GE231) hb)
            clear BK231
            clear HB
            have BK231 := n0_
            have HB := n1_
            clear n0_ n1_
            (try clear hb)
            (try clear hb2)
            (try clear hk)
            (try clear hi)
            refine hK.out _ _ ⟨(blk_cell BK231.out 0).trans rfl, (blk_cell BK231.out 1).trans rfl, (blk_cell BK231.out 2).trans rfl, ((HB.out.cell (World.block_lt_of_cell? w _ hw233_0)).trans hw233_0), ((HB.out.cell (World.block_lt_of_cell? w _ hw233_1)).trans hw233_1), ((HB.out.cell (World.block_lt_of_cell? w _ hw233_2)).trans hw233_2)⟩ (fun hHeld => ?_)
            clear hK K
            refine norm_ (a' := ?_) ?_ ?_
            rotate_left
            ·show Act.put _ (some 21) _ = _
             simp only [Act.put, sT_, s0_, sS_, i64_w, i32_w]
             rfl
            refine pu (i := 3) (N := some 22) #[T_,T_,T_,T_,F_,F_,F_,F_,F_,F_,F_,F_,F_,F_,F_,F_,F_,F_,F_] HT_ ?_
            refine pu (i := 4) (N := some 23) #[T_,T_,T_,T_,T_,F_,F_,F_,F_,F_,F_,F_,F_,F_,F_,F_,F_,F_,F_] HT_ ?_
            refine pu (i := 5) (N := some 24) #[T_,T_,T_,T_,T_,T_,F_,F_,F_,F_,F_,F_,F_,F_,F_,F_,F_,F_,F_] HT_ ?_
            refine pu (i := 6) (N := some 25) #[T_,T_,T_,T_,T_,T_,T_,F_,F_,F_,F_,F_,F_,F_,F_,F_,F_,F_,F_] HT_ ?_
            refine pu (i := 7) (N := some 26) #[T_,T_,T_,T_,T_,T_,T_,T_,F_,F_,F_,F_,F_,F_,F_,F_,F_,F_,F_] HT_ ?_
            refine pu (i := 8) (N := some 27) #[T_,T_,T_,T_,T_,T_,T_,T_,T_,F_,F_,F_,F_,F_,F_,F_,F_,F_,F_] HT_ ?_
            refine pu (i := 10) (N := some 29) #[T_,T_,T_,T_,T_,T_,T_,T_,T_,F_,T_,F_,F_,F_,F_,F_,F_,F_,F_] HT_ ?_
            refine pu (i := 11) (N := some 30) #[T_,T_,T_,T_,T_,T_,T_,T_,T_,F_,T_,T_,F_,F_,F_,F_,F_,F_,F_] HT_ ?_
            refine pu (i := 12) (N := some 31) #[T_,T_,T_,T_,T_,T_,T_,T_,T_,F_,T_,T_,T_,F_,F_,F_,F_,F_,F_] HT_ ?_
            refine pu (i := 13) (N := some 32) #[T_,T_,T_,T_,T_,T_,T_,T_,T_,F_,T_,T_,T_,T_,F_,F_,F_,F_,F_] HT_ ?_
            refine pu (i := 14) (N := some 33) #[T_,T_,T_,T_,T_,T_,T_,T_,T_,F_,T_,T_,T_,T_,T_,F_,F_,F_,F_] HT_ ?_
            refine take_ (i := 9) (N := some 28) (v := ?_) (a' := ?_) #[T_,T_,T_,T_,T_,T_,T_,T_,T_,T_,T_,T_,T_,T_,T_,F_,F_,F_,F_] rfl rfl (take_ofW HT_.out HW_.out (by kernel_rfl)) (fun _ _ _ h => h) (Or.inl ⟨by rfl, ?_⟩) hHeld ?_ ?_
            rotate_left
            ·rintro w' ⟨s0, s1, s2, s3, s4, s5⟩
             go_simp
             with_reducible rfl
            rotate_left
            ·simp only [Act.put, sT_, s0_, sS_, i64_w, i32_w]
             rfl
            refine take_ (i := 15) (N := some 34) (v := ?_) (a' := ?_) #[T_,T_,T_,T_,T_,T_,T_,T_,T_,T_,T_,T_,T_,T_,T_,T_,F_,F_,F_] rfl rfl (take_ofW HT_.out HW_.out (by kernel_rfl)) (fun _ _ _ h => h) (Or.inl ⟨by rfl, ?_⟩) hHeld ?_ ?_
            rotate_left
            ·rintro w' ⟨s0, s1, s2, s3, s4, s5⟩
             go_simp
             with_reducible rfl
            rotate_left
            ·simp only [Act.put, sT_, s0_, sS_, i64_w, i32_w]
             rfl
            refine pu (i := 16) (N := some 35) #[T_,T_,T_,T_,T_,T_,T_,T_,T_,T_,T_,T_,T_,T_,T_,T_,T_,F_,F_] HT_ ?_
            refine pu (i := 17) (N := some 36) #[T_,T_,T_,T_,T_,T_,T_,T_,T_,T_,T_,T_,T_,T_,T_,T_,T_,T_,F_] HT_ ?_
            refine pu (i := 18) (N := some 37) #[T_,T_,T_,T_,T_,T_,T_,T_,T_,T_,T_,T_,T_,T_,T_,T_,T_,T_,T_] HT_ ?_
            refine done_ (done_of HT_.out (by kernel_rfl)) ?_
            try go_wp2
            go_meet
            case rel => exact ⟨_, (decide (((rd_T53 l1 x14_1).f1) < ((rd_T53 l1 (ji13)).f1))), (by first | rfl | (simp; done) | (simp only [← hji13] <;> (first | rfl | simp)) | (simp [*]; done)), H', ⟨by have := HK1.out; first | omega | exact Nat.le_refl _⟩, ⟨by (with_reducible repeat (first | refine blk_drewN ?_ _ | refine blk_drew ?_ | refine blk_alloc ?_ _)); exact BK231.out⟩, ⟨(hg_ GE231)⟩⟩
           ·rw [if_neg c15] at H
            exact absurd H (by simp)
          ·rw [if_neg c14] at H
           exact absurd H (by simp)
         ·rw [if_neg c12] at H
          have c12b0 : decide (0 < x14_1) = false := decide_eq_false c12
          clear c12
          (first | rw [c12b0] | (simp only [i64_w, i32_w]; rw [c12b0]) | skip)
          have H' := Aside0.mk H
          clear H
          try go_wp2
          have n0_ : Aside0 ((((w8.setCell ⟨gb231, 0, none⟩ (.string ((rd_T53 l1 x14_1).f0))).setCell ⟨gb231, 1, none⟩ (.int .i64 ((rd_T53 l1 x14_1).f1))).setCell ⟨gb231, 2, none⟩ (.int .i64 ((rd_T53 l1 x14_1).f2))).heap[gb231]? = some (.cells #[.string ((rd_T53 l1 x14_1).f0), .int .i64 ((rd_T53 l1 x14_1).f1), .int .i64 ((rd_T53 l1 x14_1).f2)] 53 (0, 0))) := ⟨by (with_reducible repeat (first | refine blk_drewN ?_ _ | refine blk_drew ?_ | refine blk_alloc ?_ _)); refine blk_put (cs := #[.string ((rd_T53 l1 x14_1).f0), .int .i64 ((rd_T53 l1 x14_1).f1), .int .i64 0]) ?_ 2 _ rfl; (with_reducible repeat (first | refine blk_drewN ?_ _ | refine blk_drew ?_ | refine blk_alloc ?_ _)); refine blk_put (cs := #[.string ((rd_T53 l1 x14_1).f0), .int .i64 0, .int .i64 0]) ?_ 1 _ rfl; (with_reducible repeat (first | refine blk_drewN ?_ _ | refine blk_drew ?_ | refine blk_alloc ?_ _)); refine blk_put (cs := #[.string (⟨#[]⟩ : ByteArray), .int .i64 0, .int .i64 0]) ?_ 0 _ rfl; (with_reducible repeat (first | refine blk_drewN ?_ _ | refine blk_drew ?_ | refine blk_alloc ?_ _)); exact BK231.out⟩
          have n1_ : Aside0 (Below w.heap.size w (((w8.setCell ⟨gb231, 0, none⟩ (.string ((rd_T53 l1 x14_1).f0))).setCell ⟨gb231, 1, none⟩ (.int .i64 ((rd_T53 l1 x14_1).f1))).setCell ⟨gb231, 2, none⟩ (.int .i64 ((rd_T53 l1 x14_1).f2)))) := ⟨(hg_ GE231)⟩
          (try clear BK231)
          (try clear HB)
          generalize (((w8.setCell ⟨gb231, 0, none⟩ (.string ((rd_T53 l1 x14_1).f0))).setCell ⟨gb231, 1, none⟩ (.int .i64 ((rd_T53 l1 x14_1).f1))).setCell ⟨gb231, 2, none⟩ (.int .i64 ((rd_T53 l1 x14_1).f2))) = w19 at n0_ n1_ ⊢
          have BK231 := n0_
          have HB := n1_
          clear n0_ n1_
          have n0_ := Aside0.mk (blk_drew BK231.out)
          have n1_ := Aside0.mk (below_drew1 HB.out)
          clear BK231
          clear HB
          have BK231 := n0_
          have HB := n1_
          clear n0_ n1_
          refine start_ (n := 19) (S := fun w' => w'.cell? ⟨gb231, 0, none⟩ = some (.string ((rd_T53 l1 x14_1).f0)) ∧ w'.cell? ⟨gb231, 1, none⟩ = some (.int .i64 ((rd_T53 l1 x14_1).f1)) ∧ w'.cell? ⟨gb231, 2, none⟩ = some (.int .i64 ((rd_T53 l1 x14_1).f2))) (ds := []) #[F_,F_,F_,F_,F_,F_,F_,F_,F_,F_,F_,F_,F_,F_,F_,F_,F_,F_,F_] (by kernel_rfl) rfl rfl ⟨(blk_cell BK231.out 0).trans rfl, (blk_cell BK231.out 1).trans rfl, (blk_cell BK231.out 2).trans rfl⟩ (fun hHeld => ?_); refine with_tabW impl_areChecks.tab6 impl_areChecks.bits6 (fun HT_ HW_ => ?_)
          generalize w19.drew = w20 at BK231 HB hHeld ⊢
          refine pu (i := 0) (N := some 19) #[T_,F_,F_,F_,F_,F_,F_,F_,F_,F_,F_,F_,F_,F_,F_,F_,F_,F_,F_] HT_ ?_
          refine take_ (i := 1) (N := some 20) (v := ?_) (a' := ?_) #[T_,T_,F_,F_,F_,F_,F_,F_,F_,F_,F_,F_,F_,F_,F_,F_,F_,F_,F_] rfl rfl (take_ofW HT_.out HW_.out (by kernel_rfl)) (fun _ _ _ h => h) (Or.inl ⟨by rfl, ?_⟩) hHeld ?_ ?_
          rotate_left
          ·rintro w' ⟨s0, s1, s2⟩
           go_simp
           with_reducible rfl
          rotate_left
          ·simp only [Act.put, sT_, s0_, sS_, i64_w, i32_w]
           rfl
          refine one_ (i := 2) (N := some 21) #[T_,T_,T_,F_,F_,F_,F_,F_,F_,F_,F_,F_,F_,F_,F_,F_,F_,F_,F_] rfl rfl (one_of HT_.out (by kernel_rfl)) (by decide) (fun K hK => ?_)
          refine goes_ Try.func76 (by kernel_rfl) rfl #[.slice A0 l0.length c0, .agg #[.string ((rd_T53 l1 x14_1).f0), .int .i64 ((rd_T53 l1 x14_1).f1), .int .i64 ((rd_T53 l1 x14_1).f2)]] (by rfl) rfl rfl ln_ ?_
          with_reducible refine (impl_isCheck.calls _ _ l0 ((rd_T53 l1 x14_1).f0) ((rd_T53 l1 x14_1).f1) ((rd_T53 l1 x14_1).f2) true _ ?side1 ?side2 A10.out).mono ?_
          (case side1 => exact kc_ (Kd.C_below HR0.out HB.out))
          (case side2 => exact HC0.out)
          rintro e w21 ⟨rfl, hb⟩
          refine ⟨_, rfl, ?_⟩
          have n0_ := Aside0.mk (blk_below (g := gb231) (o := .cells #[.string ((rd_T53 l1 x14_1).f0), .int .i64 ((rd_T53 l1 x14_1).f1), .int .i64 ((rd_T53 l1 x14_1).f2)] 53 (0, 0)) (bk_ BK231) hb)
          have n1_ := Aside0.mk (below_step (hg_ GE231) hb)
          clear BK231
          clear HB
          have BK231 := n0_
          have HB := n1_
          clear n0_ n1_
          (try clear hb)
          (try clear hb2)
          (try clear hk)
          (try clear hi)
          refine hK.out _ _ ⟨(blk_cell BK231.out 0).trans rfl, (blk_cell BK231.out 1).trans rfl, (blk_cell BK231.out 2).trans rfl⟩ (fun hHeld => ?_)
          clear hK K
          refine norm_ (a' := ?_) ?_ ?_
          rotate_left
          ·show Act.put _ (some 21) _ = _
           simp only [Act.put, sT_, s0_, sS_, i64_w, i32_w]
           rfl
          refine pu (i := 3) (N := some 22) #[T_,T_,T_,T_,F_,F_,F_,F_,F_,F_,F_,F_,F_,F_,F_,F_,F_,F_,F_] HT_ ?_
          refine pu (i := 4) (N := some 23) #[T_,T_,T_,T_,T_,F_,F_,F_,F_,F_,F_,F_,F_,F_,F_,F_,F_,F_,F_] HT_ ?_
          refine pu (i := 5) (N := some 24) #[T_,T_,T_,T_,T_,T_,F_,F_,F_,F_,F_,F_,F_,F_,F_,F_,F_,F_,F_] HT_ ?_
          refine pu (i := 6) (N := some 25) #[T_,T_,T_,T_,T_,T_,T_,F_,F_,F_,F_,F_,F_,F_,F_,F_,F_,F_,F_] HT_ ?_
          refine pu (i := 7) (N := some 26) #[T_,T_,T_,T_,T_,T_,T_,T_,F_,F_,F_,F_,F_,F_,F_,F_,F_,F_,F_] HT_ ?_
          refine pn (i := 8) (N := some 27) #[T_,T_,T_,T_,T_,T_,T_,T_,T_,F_,F_,F_,F_,F_,F_,F_,F_,F_,F_] HT_ ?_
          refine pn (i := 9) (N := some 28) #[T_,T_,T_,T_,T_,T_,T_,T_,T_,T_,F_,F_,F_,F_,F_,F_,F_,F_,F_] HT_ ?_
          refine pn (i := 10) (N := some 29) #[T_,T_,T_,T_,T_,T_,T_,T_,T_,T_,T_,F_,F_,F_,F_,F_,F_,F_,F_] HT_ ?_
          refine pn (i := 11) (N := some 30) #[T_,T_,T_,T_,T_,T_,T_,T_,T_,T_,T_,T_,F_,F_,F_,F_,F_,F_,F_] HT_ ?_
          refine pn (i := 12) (N := some 31) #[T_,T_,T_,T_,T_,T_,T_,T_,T_,T_,T_,T_,T_,F_,F_,F_,F_,F_,F_] HT_ ?_
          refine pn (i := 13) (N := some 32) #[T_,T_,T_,T_,T_,T_,T_,T_,T_,T_,T_,T_,T_,T_,F_,F_,F_,F_,F_] HT_ ?_
          refine pn (i := 14) (N := some 33) #[T_,T_,T_,T_,T_,T_,T_,T_,T_,T_,T_,T_,T_,T_,T_,F_,F_,F_,F_] HT_ ?_
          refine pn (i := 15) (N := some 34) #[T_,T_,T_,T_,T_,T_,T_,T_,T_,T_,T_,T_,T_,T_,T_,T_,F_,F_,F_] HT_ ?_
          refine pn (i := 16) (N := some 35) #[T_,T_,T_,T_,T_,T_,T_,T_,T_,T_,T_,T_,T_,T_,T_,T_,T_,F_,F_] HT_ ?_
          refine pu (i := 17) (N := some 36) #[T_,T_,T_,T_,T_,T_,T_,T_,T_,T_,T_,T_,T_,T_,T_,T_,T_,T_,F_] HT_ ?_
          refine pu (i := 18) (N := some 37) #[T_,T_,T_,T_,T_,T_,T_,T_,T_,T_,T_,T_,T_,T_,T_,T_,T_,T_,T_] HT_ ?_
          refine done_ (done_of HT_.out (by kernel_rfl)) ?_
          try go_wp2
          go_meet
          case rel => exact ⟨_, (false), (by first | rfl | (simp; done) | (simp [*]; done)), H', ⟨by have := HK1.out; first | omega | exact Nat.le_refl _⟩, ⟨by (with_reducible repeat (first | refine blk_drewN ?_ _ | refine blk_drew ?_ | refine blk_alloc ?_ _)); exact BK231.out⟩, ⟨(hg_ GE231)⟩⟩
        ·replace c11 := Bool.eq_false_iff.mpr c11
         subst c11
         have H1 : (impl_areChecks.j1 k1 l0 l1 x14_1 l1 (l1.length : Int) x14_1 true ((rd_T53 l1 x14_1).f0) ((rd_T53 l1 x14_1).f1) ((rd_T53 l1 x14_1).f2)) = some r := by rw [if_neg (show ¬ (false = true) by decide)] at H; exact H
         clear H
         have H := H1
         clear H1
         have H' := Aside0.mk H
         clear H
         try go_wp2
         have n0_ : Aside0 ((((w8.setCell ⟨gb231, 0, none⟩ (.string ((rd_T53 l1 x14_1).f0))).setCell ⟨gb231, 1, none⟩ (.int .i64 ((rd_T53 l1 x14_1).f1))).setCell ⟨gb231, 2, none⟩ (.int .i64 ((rd_T53 l1 x14_1).f2))).heap[gb231]? = some (.cells #[.string ((rd_T53 l1 x14_1).f0), .int .i64 ((rd_T53 l1 x14_1).f1), .int .i64 ((rd_T53 l1 x14_1).f2)] 53 (0, 0))) := ⟨by (with_reducible repeat (first | refine blk_drewN ?_ _ | refine blk_drew ?_ | refine blk_alloc ?_ _)); refine blk_put (cs := #[.string ((rd_T53 l1 x14_1).f0), .int .i64 ((rd_T53 l1 x14_1).f1), .int .i64 0]) ?_ 2 _ rfl; (with_reducible repeat (first | refine blk_drewN ?_ _ | refine blk_drew ?_ | refine blk_alloc ?_ _)); refine blk_put (cs := #[.string ((rd_T53 l1 x14_1).f0), .int .i64 0, .int .i64 0]) ?_ 1 _ rfl; (with_reducible repeat (first | refine blk_drewN ?_ _ | refine blk_drew ?_ | refine blk_alloc ?_ _)); refine blk_put (cs := #[.string (⟨#[]⟩ : ByteArray), .int .i64 0, .int .i64 0]) ?_ 0 _ rfl; (with_reducible repeat (first | refine blk_drewN ?_ _ | refine blk_drew ?_ | refine blk_alloc ?_ _)); exact BK231.out⟩
         have n1_ : Aside0 (Below w.heap.size w (((w8.setCell ⟨gb231, 0, none⟩ (.string ((rd_T53 l1 x14_1).f0))).setCell ⟨gb231, 1, none⟩ (.int .i64 ((rd_T53 l1 x14_1).f1))).setCell ⟨gb231, 2, none⟩ (.int .i64 ((rd_T53 l1 x14_1).f2)))) := ⟨(hg_ GE231)⟩
         (try clear BK231)
         (try clear HB)
         generalize (((w8.setCell ⟨gb231, 0, none⟩ (.string ((rd_T53 l1 x14_1).f0))).setCell ⟨gb231, 1, none⟩ (.int .i64 ((rd_T53 l1 x14_1).f1))).setCell ⟨gb231, 2, none⟩ (.int .i64 ((rd_T53 l1 x14_1).f2))) = w22 at n0_ n1_ ⊢
         have BK231 := n0_
         have HB := n1_
         clear n0_ n1_
         have n0_ := Aside0.mk (blk_drew BK231.out)
         have n1_ := Aside0.mk (below_drew1 HB.out)
         clear BK231
         clear HB
         have BK231 := n0_
         have HB := n1_
         clear n0_ n1_
         refine start_ (n := 19) (S := fun w' => w'.cell? ⟨gb231, 0, none⟩ = some (.string ((rd_T53 l1 x14_1).f0)) ∧ w'.cell? ⟨gb231, 1, none⟩ = some (.int .i64 ((rd_T53 l1 x14_1).f1)) ∧ w'.cell? ⟨gb231, 2, none⟩ = some (.int .i64 ((rd_T53 l1 x14_1).f2))) (ds := []) #[F_,F_,F_,F_,F_,F_,F_,F_,F_,F_,F_,F_,F_,F_,F_,F_,F_,F_,F_] (by kernel_rfl) rfl rfl ⟨(blk_cell BK231.out 0).trans rfl, (blk_cell BK231.out 1).trans rfl, (blk_cell BK231.out 2).trans rfl⟩ (fun hHeld => ?_); refine with_tabW impl_areChecks.tab6 impl_areChecks.bits6 (fun HT_ HW_ => ?_)
         generalize w22.drew = w23 at BK231 HB hHeld ⊢
         refine pu (i := 0) (N := some 19) #[T_,F_,F_,F_,F_,F_,F_,F_,F_,F_,F_,F_,F_,F_,F_,F_,F_,F_,F_] HT_ ?_
         refine take_ (i := 1) (N := some 20) (v := ?_) (a' := ?_) #[T_,T_,F_,F_,F_,F_,F_,F_,F_,F_,F_,F_,F_,F_,F_,F_,F_,F_,F_] rfl rfl (take_ofW HT_.out HW_.out (by kernel_rfl)) (fun _ _ _ h => h) (Or.inl ⟨by rfl, ?_⟩) hHeld ?_ ?_
         rotate_left
         ·rintro w' ⟨s0, s1, s2⟩
          go_simp
          with_reducible rfl
         rotate_left
         ·simp only [Act.put, sT_, s0_, sS_, i64_w, i32_w]
          rfl
         refine one_ (i := 2) (N := some 21) #[T_,T_,T_,F_,F_,F_,F_,F_,F_,F_,F_,F_,F_,F_,F_,F_,F_,F_,F_] rfl rfl (one_of HT_.out (by kernel_rfl)) (by decide) (fun K hK => ?_)
         refine goes_ Try.func76 (by kernel_rfl) rfl #[.slice A0 l0.length c0, .agg #[.string ((rd_T53 l1 x14_1).f0), .int .i64 ((rd_T53 l1 x14_1).f1), .int .i64 ((rd_T53 l1 x14_1).f2)]] (by rfl) rfl rfl ln_ ?_
         with_reducible refine (impl_isCheck.calls _ _ l0 ((rd_T53 l1 x14_1).f0) ((rd_T53 l1 x14_1).f1) ((rd_T53 l1 x14_1).f2) false _ ?side1 ?side2 A10.out).mono ?_
         (case side1 => exact kc_ (Kd.C_below HR0.out HB.out))
         (case side2 => exact HC0.out)
         rintro e w24 ⟨rfl, hb⟩
         refine ⟨_, rfl, ?_⟩
         have n0_ := Aside0.mk (blk_below (g := gb231) (o := .cells #[.string ((rd_T53 l1 x14_1).f0), .int .i64 ((rd_T53 l1 x14_1).f1), .int .i64 ((rd_T53 l1 x14_1).f2)] 53 (0, 0)) (bk_ BK231) hb)
         have n1_ := Aside0.mk (below_step (hg_ GE231) hb)
         clear BK231
         clear HB
         have BK231 := n0_
         have HB := n1_
         clear n0_ n1_
         (try clear hb)
         (try clear hb2)
         (try clear hk)
         (try clear hi)
         refine hK.out _ _ ⟨(blk_cell BK231.out 0).trans rfl, (blk_cell BK231.out 1).trans rfl, (blk_cell BK231.out 2).trans rfl⟩ (fun hHeld => ?_)
         clear hK K
         refine norm_ (a' := ?_) ?_ ?_
         rotate_left
         ·show Act.put _ (some 21) _ = _
          simp only [Act.put, sT_, s0_, sS_, i64_w, i32_w]
          rfl
         refine pu (i := 3) (N := some 22) #[T_,T_,T_,T_,F_,F_,F_,F_,F_,F_,F_,F_,F_,F_,F_,F_,F_,F_,F_] HT_ ?_
         refine pu (i := 4) (N := some 23) #[T_,T_,T_,T_,T_,F_,F_,F_,F_,F_,F_,F_,F_,F_,F_,F_,F_,F_,F_] HT_ ?_
         refine pn (i := 5) (N := some 24) #[T_,T_,T_,T_,T_,T_,F_,F_,F_,F_,F_,F_,F_,F_,F_,F_,F_,F_,F_] HT_ ?_
         refine pn (i := 6) (N := some 25) #[T_,T_,T_,T_,T_,T_,T_,F_,F_,F_,F_,F_,F_,F_,F_,F_,F_,F_,F_] HT_ ?_
         refine pn (i := 7) (N := some 26) #[T_,T_,T_,T_,T_,T_,T_,T_,F_,F_,F_,F_,F_,F_,F_,F_,F_,F_,F_] HT_ ?_
         refine pn (i := 8) (N := some 27) #[T_,T_,T_,T_,T_,T_,T_,T_,T_,F_,F_,F_,F_,F_,F_,F_,F_,F_,F_] HT_ ?_
         refine pn (i := 9) (N := some 28) #[T_,T_,T_,T_,T_,T_,T_,T_,T_,T_,F_,F_,F_,F_,F_,F_,F_,F_,F_] HT_ ?_
         refine pn (i := 10) (N := some 29) #[T_,T_,T_,T_,T_,T_,T_,T_,T_,T_,T_,F_,F_,F_,F_,F_,F_,F_,F_] HT_ ?_
         refine pn (i := 11) (N := some 30) #[T_,T_,T_,T_,T_,T_,T_,T_,T_,T_,T_,T_,F_,F_,F_,F_,F_,F_,F_] HT_ ?_
         refine pn (i := 12) (N := some 31) #[T_,T_,T_,T_,T_,T_,T_,T_,T_,T_,T_,T_,T_,F_,F_,F_,F_,F_,F_] HT_ ?_
         refine pn (i := 13) (N := some 32) #[T_,T_,T_,T_,T_,T_,T_,T_,T_,T_,T_,T_,T_,T_,F_,F_,F_,F_,F_] HT_ ?_
         refine pn (i := 14) (N := some 33) #[T_,T_,T_,T_,T_,T_,T_,T_,T_,T_,T_,T_,T_,T_,T_,F_,F_,F_,F_] HT_ ?_
         refine pn (i := 15) (N := some 34) #[T_,T_,T_,T_,T_,T_,T_,T_,T_,T_,T_,T_,T_,T_,T_,T_,F_,F_,F_] HT_ ?_
         refine pn (i := 16) (N := some 35) #[T_,T_,T_,T_,T_,T_,T_,T_,T_,T_,T_,T_,T_,T_,T_,T_,T_,F_,F_] HT_ ?_
         refine pn (i := 17) (N := some 36) #[T_,T_,T_,T_,T_,T_,T_,T_,T_,T_,T_,T_,T_,T_,T_,T_,T_,T_,F_] HT_ ?_
         refine pu (i := 18) (N := some 37) #[T_,T_,T_,T_,T_,T_,T_,T_,T_,T_,T_,T_,T_,T_,T_,T_,T_,T_,T_] HT_ ?_
         refine done_ (done_of HT_.out (by kernel_rfl)) ?_
         try go_wp2
         go_meet
         case rel => exact ⟨_, (true), (by first | rfl | (simp; done) | (simp [*]; done)), H', ⟨by have := HK1.out; first | omega | exact Nat.le_refl _⟩, ⟨by (with_reducible repeat (first | refine blk_drewN ?_ _ | refine blk_drew ?_ | refine blk_alloc ?_ _)); exact BK231.out⟩, ⟨(hg_ GE231)⟩⟩
       case rest =>
        clear HC7
        try clear c1
        try clear p2
        try clear q2
        try clear hx2
        try clear c3
        try clear c3b0
        try clear c3b1
        try clear c4
        try clear c4b0
        try clear c5
        try clear c5b0
        try clear c6
        try clear c6b0
        try clear p6
        try clear c7
        try clear c11
        try clear c12
        try clear c12b0
        try clear c14
        try clear c14b0
        try clear c15
        try clear c15b0
        try clear p23
        try clear q23
        try clear hx23
        try clear hcz9_0
        try clear hcz9_1
        try clear hcz9_2
        try clear hfz9_0
        try clear hfz9_1
        try clear hfz9_2
        try clear hx230_0
        try clear hx230_1
        try clear hx230_2
        try clear hx233_0
        try clear hx233_1
        try clear hx233_2
        try clear p2
        try clear p230
        try clear p233
        try clear q230
        try clear q233
        obtain ⟨kq, x37_6, rfl, HA, HJ6, BK231, HB⟩ := hcut
        cases kq with
        | zero => exact absurd HA.out (by simp [impl_areChecks.j1])
        | succ kj6 =>
         have H := HA.out
         clear HA
         simp only [impl_areChecks.j1] at H
         by_cases c25 : x37_6 = true
         ·subst c25
          have H1 : (some false) = some r := by rw [if_pos rfl] at H; exact H
          clear H
          have H := H1
          clear H1
          obtain rfl := Option.some.inj H
          go_wp2
          go_ret
          exact ⟨ew_, (hg_ GE231)⟩
         ·replace c25 := Bool.eq_false_iff.mpr c25
          subst c25
          have H1 : (if 0 ≤ x14_1 then (if x14_1 ≤ (l1.length : Int) then ((some (l1.take (x14_1 : Int).toNat : List (S53))).bind fun y234 => (impl_areChecks.l1 kj6 l0 l1 l1 (l1.length : Int) x14_1 y234 (y234.length : Int) 0 ((rd_T53 l1 x14_1).f0) ((rd_T53 l1 x14_1).f1) ((rd_T53 l1 x14_1).f2))) else (none)) else (none)) = some r := by rw [if_neg (show ¬ (false = true) by decide)] at H; exact H
          clear H
          have H := H1
          clear H1
          by_cases c26 : 0 ≤ x14_1
          ·rw [if_pos c26] at H
           have c26b0 := eq_true c26
           have c26b1 : decide (0 ≤ x14_1) = true := decide_eq_true c26
           clear c26
           by_cases c27 : x14_1 ≤ (l1.length : Int)
           ·rw [if_pos c27] at H
            have c27b0 := eq_true c27
            have c27b1 : decide (x14_1 ≤ (l1.length : Int)) = true := decide_eq_true c27
            clear c27
            obtain ⟨y234, hy234⟩ : ∃ y_ : List (S53), y_ = (l1.take (x14_1 : Int).toNat) := ⟨_, rfl⟩
            replace H : (impl_areChecks.l1 kj6 l0 l1 l1 (l1.length : Int) x14_1 y234 (y234.length : Int) 0 ((rd_T53 l1 x14_1).f0) ((rd_T53 l1 x14_1).f1) ((rd_T53 l1 x14_1).f2)) = some r := by first | (rw [hy234]; with_reducible exact H) | (have H2_ := (Option.bind_some _ _).symm.trans H; rw [hy234]; with_reducible exact H2_) | (have H2_ := (Option.bind_some _ _).symm.trans H; with_reducible exact H2_) | with_reducible exact H | (rw [hy234]; exact H) | exact H
            have Ny234 := Aside0.mk hy234
            clear hy234
            have H' := Aside0.mk H
            clear H
            have q28 : (x14_1 : Int) ≤ ((l1.length : Int) : Int) := od_
            obtain ⟨i028, hi028, _, hsz28, _⟩ := info_parts info53
            have hroom28 : l1.length ≤ c1 := HC1.out
            have hC28 : Kd.C k53 _ (some ad230) l1.length l1 := HR1.out
            have hcut28 := cut_to (P := Try.prog) 25 53 .i64 Try.underlying25 hi028 (some ad230) l1.length c1 x14_1 (od_) q28 hroom28
            have hr28 := Kd.C_take (m := (x14_1 : Int).toNat) hC28 (by omega)
            have hy28 : y234.length = (x14_1 : Int).toNat := (by rw [Ny234.out, List.length_take]; omega)
            rw [← Ny234.out] at hr28
            rw [← hy28] at hcut28
            have HR237 := Aside0.mk hr28
            have HC237 := Aside0.mk (show y234.length ≤ c1 from by omega)
            clear hr28 hC28 hroom28 hi028 hsz28
            have KY28 := Aside0.mk hy28
            clear hy28
            replace q28 := eq_true q28
            go_wp2
            go_loopg [42] kj6 (fun kq v42 w' => ∃ (x42_3 : Int), v42 = .int .i64 x42_3 ∧ Aside0 (impl_areChecks.l1 kq l0 l1 l1 (l1.length : Int) x14_1 y234 (y234.length : Int) x42_3 ((rd_T53 l1 x14_1).f0) ((rd_T53 l1 x14_1).f1) ((rd_T53 l1 x14_1).f2) = some r) ∧ Aside0 (kq ≤ kj6) ∧ Aside0 (w'.heap[gb231]? = some (.cells #[.string ((rd_T53 l1 x14_1).f0), .int .i64 ((rd_T53 l1 x14_1).f1), .int .i64 ((rd_T53 l1 x14_1).f2)] 53 (0, 0))) ∧ Aside0 (Below w.heap.size w w'))
            case atStart => exact ⟨(0), (by first | rfl | (simp; done) | (simp [*]; done)), H', ⟨Nat.le_refl _⟩, ⟨by (with_reducible repeat (first | refine blk_drewN ?_ _ | refine blk_drew ?_ | refine blk_alloc ?_ _)); exact BK231.out⟩, ⟨(hg_ GE231)⟩⟩
            case round =>
             clear H'
             try clear c1
             try clear c2
             try clear p2
             try clear q2
             try clear hx2
             try clear c3
             try clear c3b0
             try clear c3b1
             try clear c4
             try clear c4b0
             try clear c5
             try clear c5b0
             try clear c6
             try clear c6b0
             try clear p6
             try clear c7
             try clear c11
             try clear c12
             try clear c12b0
             try clear c14
             try clear c14b0
             try clear c15
             try clear c15b0
             try clear p23
             try clear q23
             try clear hx23
             try clear c25
             try clear c26
             try clear c26b0
             try clear c26b1
             try clear c27
             try clear c27b0
             try clear c27b1
             try clear q28
             try clear hcz9_0
             try clear hcz9_1
             try clear hcz9_2
             try clear hfz9_0
             try clear hfz9_1
             try clear hfz9_2
             try clear hx230_0
             try clear hx230_1
             try clear hx230_2
             try clear hx233_0
             try clear hx233_1
             try clear hx233_2
             try clear p2
             try clear p23
             try clear p230
             try clear p233
             try clear p6
             try clear q2
             try clear q23
             try clear q230
             try clear q233
             try clear q28
             obtain ⟨x42_3, rfl, HA, HK3, BK231, HB⟩ := hrel
             cases gk with
             | zero => exact absurd HA.out (by simp [impl_areChecks.l1])
             | succ k3 =>
              have H := HA.out
              clear HA
              simp only [impl_areChecks.l1] at H
              by_cases c29 : x42_3 < (y234.length : Int)
              ·rw [if_pos c29] at H
               have c29b0 : decide (x42_3 < (y234.length : Int)) = true := decide_eq_true c29
               clear c29
               by_cases c30 : 0 ≤ x42_3
               ·rw [if_pos c30] at H
                have c30b0 : decide (0 ≤ x42_3) = true := decide_eq_true c30
                clear c30
                by_cases c31 : x42_3 < (y234.length : Int)
                ·rw [if_pos c31] at H
                 have c31b0 : decide (x42_3 < (y234.length : Int)) = true := decide_eq_true c31
                 clear c31
                 by_cases c32 : ((rd_T53 y234 x42_3).f0).toList = ((rd_T53 l1 x14_1).f0).toList
                 ·rw [if_pos c32] at H
                  have c32b0 : (((rd_T53 y234 x42_3).f0).toList == ((rd_T53 l1 x14_1).f0).toList) = true := beq_iff_eq.mpr c32
                  have c32b1 : (((rd_T53 y234 x42_3).f0).toList != ((rd_T53 l1 x14_1).f0).toList) = false := bne_eq_false_iff_eq.mpr c32
                  clear c32
                  by_cases c33 : ((rd_T53 l1 x14_1).f1) ≤ ((rd_T53 y234 x42_3).f1)
                  ·rw [if_pos c33] at H
                   have c33b0 : decide (((rd_T53 l1 x14_1).f1) ≤ ((rd_T53 y234 x42_3).f1)) = true := decide_eq_true c33
                   clear c33
                   obtain rfl := Option.some.inj H
                   have p238 : 0 ≤ (x42_3 : Int) := od_
                   have q238 : x42_3 < (y234.length : Int) := od_
                   obtain ⟨ad238, e238, hx238_0, hx238_1, hx238_2⟩ := at_T53 HR237.out x42_3 p238 q238
                   obtain rfl : ad230 = ad238 := (by injection e238)
                   replace hx238_0 := cq_ HB hx238_0
                   replace hx238_1 := cq_ HB hx238_1
                   replace hx238_2 := cq_ HB hx238_2
                   replace p238 := eq_true p238
                   replace q238 := eq_true q238
                   go_wp2_with (first | ((with_reducible refine gate_dst (N := 8) rfl ?_); refine box_event ?hg (N := 8) ?hd (cs := #[.string (⟨#[]⟩ : ByteArray), .int .i64 0, .int .i64 0]) (t := 53) ?hr ?_; (case hd => rfl); (case hg => rfl); (case hr => first | (go_simp; done) | (go_simp; rfl)); intro gb239 hg w34 hbox hb; have n0_ := Aside0.mk (blk_below (g := gb231) (o := .cells #[.string ((rd_T53 l1 x14_1).f0), .int .i64 ((rd_T53 l1 x14_1).f1), .int .i64 ((rd_T53 l1 x14_1).f2)] 53 (0, 0)) (bk_ BK231) hb); have n1_ := Aside0.mk (below_step (hg_ GE231) hb); have n2_ := Aside0.mk (hbox); have n3_ := Aside0.mk ((by rw [hg]; exact (below_size (hg_ GE231)) : w.heap.size ≤ gb239)); have n4_ := Aside0.mk ((by rw [hg]; exact (below_size (hg_ GE231)) : w.heap.size ≤ gb239)); have n5_ := Aside0.mk ((by rw [hg]; exact Nat.ne_of_lt (blk_lt (g := gb231) (o := .cells #[.string ((rd_T53 l1 x14_1).f0), .int .i64 ((rd_T53 l1 x14_1).f1), .int .i64 ((rd_T53 l1 x14_1).f2)] 53 (0, 0)) (bk_ BK231)) : gb231 ≠ gb239)); have n6_ := Aside0.mk ((by rw [hg]; exact Nat.ne_of_gt (blk_lt (g := gb231) (o := .cells #[.string ((rd_T53 l1 x14_1).f0), .int .i64 ((rd_T53 l1 x14_1).f1), .int .i64 ((rd_T53 l1 x14_1).f2)] 53 (0, 0)) (bk_ BK231)) : gb239 ≠ gb231)); clear BK231; clear HB; have BK231 := n0_; have HB := n1_; have BK239 := n2_; have GW239 := n3_; have GE239 := n4_; have NB231_239 := n5_; have NB239_231 := n6_; clear n0_ n1_ n2_ n3_ n4_ n5_ n6_; clear hb hbox hg; have hnb35 := NB239_231.out; have hnc35 := NB231_239.out; have hcz36_0 : w34.cell? ⟨gb239, 0, none⟩ = some (.string (⟨#[]⟩ : ByteArray)) := (blk_cell BK239.out 0).trans rfl; have hcz36_1 : w34.cell? ⟨gb239, 1, none⟩ = some (.int .i64 0) := (blk_cell BK239.out 1).trans rfl; have hcz36_2 : w34.cell? ⟨gb239, 2, none⟩ = some (.int .i64 0) := (blk_cell BK239.out 2).trans rfl; have hfz36_0 := blk_frozen BK239.out 0; have hfz36_1 := blk_frozen BK239.out 1; have hfz36_2 := blk_frozen BK239.out 2; have hcz37_0 : w34.cell? ⟨gb231, 0, none⟩ = some (.string ((rd_T53 l1 x14_1).f0)) := (blk_cell BK231.out 0).trans rfl; have hcz37_1 : w34.cell? ⟨gb231, 1, none⟩ = some (.int .i64 ((rd_T53 l1 x14_1).f1)) := (blk_cell BK231.out 1).trans rfl; have hcz37_2 : w34.cell? ⟨gb231, 2, none⟩ = some (.int .i64 ((rd_T53 l1 x14_1).f2)) := (blk_cell BK231.out 2).trans rfl; have hfz37_0 := blk_frozen BK231.out 0; have hfz37_1 := blk_frozen BK231.out 1; have hfz37_2 := blk_frozen BK231.out 2))
                   go_ret
                   exact ⟨ew_, (hg2_ GE231 GE239)⟩
                  ·rw [if_neg c33] at H
                   have c33b0 : decide (((rd_T53 l1 x14_1).f1) ≤ ((rd_T53 y234 x42_3).f1)) = false := decide_eq_false c33
                   clear c33
                   by_cases c38 : ((rd_T53 l1 x14_1).f2) < ((rd_T53 y234 x42_3).f2)
                   ·rw [if_pos c38] at H
                    have c38b0 : decide (((rd_T53 l1 x14_1).f2) < ((rd_T53 y234 x42_3).f2)) = true := decide_eq_true c38
                    clear c38
                    obtain rfl := Option.some.inj H
                    have p238 : 0 ≤ (x42_3 : Int) := od_
                    have q238 : x42_3 < (y234.length : Int) := od_
                    obtain ⟨ad238, e238, hx238_0, hx238_1, hx238_2⟩ := at_T53 HR237.out x42_3 p238 q238
                    obtain rfl : ad230 = ad238 := (by injection e238)
                    replace hx238_0 := cq_ HB hx238_0
                    replace hx238_1 := cq_ HB hx238_1
                    replace hx238_2 := cq_ HB hx238_2
                    replace p238 := eq_true p238
                    replace q238 := eq_true q238
                    go_wp2_with (first | ((with_reducible refine gate_dst (N := 8) rfl ?_); refine box_event ?hg (N := 8) ?hd (cs := #[.string (⟨#[]⟩ : ByteArray), .int .i64 0, .int .i64 0]) (t := 53) ?hr ?_; (case hd => rfl); (case hg => rfl); (case hr => first | (go_simp; done) | (go_simp; rfl)); intro gb239 hg w39 hbox hb; have n0_ := Aside0.mk (blk_below (g := gb231) (o := .cells #[.string ((rd_T53 l1 x14_1).f0), .int .i64 ((rd_T53 l1 x14_1).f1), .int .i64 ((rd_T53 l1 x14_1).f2)] 53 (0, 0)) (bk_ BK231) hb); have n1_ := Aside0.mk (below_step (hg_ GE231) hb); have n2_ := Aside0.mk (hbox); have n3_ := Aside0.mk ((by rw [hg]; exact (below_size (hg_ GE231)) : w.heap.size ≤ gb239)); have n4_ := Aside0.mk ((by rw [hg]; exact (below_size (hg_ GE231)) : w.heap.size ≤ gb239)); have n5_ := Aside0.mk ((by rw [hg]; exact Nat.ne_of_lt (blk_lt (g := gb231) (o := .cells #[.string ((rd_T53 l1 x14_1).f0), .int .i64 ((rd_T53 l1 x14_1).f1), .int .i64 ((rd_T53 l1 x14_1).f2)] 53 (0, 0)) (bk_ BK231)) : gb231 ≠ gb239)); have n6_ := Aside0.mk ((by rw [hg]; exact Nat.ne_of_gt (blk_lt (g := gb231) (o := .cells #[.string ((rd_T53 l1 x14_1).f0), .int .i64 ((rd_T53 l1 x14_1).f1), .int .i64 ((rd_T53 l1 x14_1).f2)] 53 (0, 0)) (bk_ BK231)) : gb239 ≠ gb231)); clear BK231; clear HB; have BK231 := n0_; have HB := n1_; have BK239 := n2_; have GW239 := n3_; have GE239 := n4_; have NB231_239 := n5_; have NB239_231 := n6_; clear n0_ n1_ n2_ n3_ n4_ n5_ n6_; clear hb hbox hg; have hnb40 := NB239_231.out; have hnc40 := NB231_239.out; have hcz41_0 : w39.cell? ⟨gb239, 0, none⟩ = some (.string (⟨#[]⟩ : ByteArray)) := (blk_cell BK239.out 0).trans rfl; have hcz41_1 : w39.cell? ⟨gb239, 1, none⟩ = some (.int .i64 0) := (blk_cell BK239.out 1).trans rfl; have hcz41_2 : w39.cell? ⟨gb239, 2, none⟩ = some (.int .i64 0) := (blk_cell BK239.out 2).trans rfl; have hfz41_0 := blk_frozen BK239.out 0; have hfz41_1 := blk_frozen BK239.out 1; have hfz41_2 := blk_frozen BK239.out 2; have hcz42_0 : w39.cell? ⟨gb231, 0, none⟩ = some (.string ((rd_T53 l1 x14_1).f0)) := (blk_cell BK231.out 0).trans rfl; have hcz42_1 : w39.cell? ⟨gb231, 1, none⟩ = some (.int .i64 ((rd_T53 l1 x14_1).f1)) := (blk_cell BK231.out 1).trans rfl; have hcz42_2 : w39.cell? ⟨gb231, 2, none⟩ = some (.int .i64 ((rd_T53 l1 x14_1).f2)) := (blk_cell BK231.out 2).trans rfl; have hfz42_0 := blk_frozen BK231.out 0; have hfz42_1 := blk_frozen BK231.out 1; have hfz42_2 := blk_frozen BK231.out 2))
                    go_ret
                    exact ⟨ew_, (hg2_ GE231 GE239)⟩
                   ·rw [if_neg c38] at H
                    have c38b0 : decide (((rd_T53 l1 x14_1).f2) < ((rd_T53 y234 x42_3).f2)) = false := decide_eq_false c38
                    clear c38
                    have H' := Aside0.mk H
                    clear H
                    have p238 : 0 ≤ (x42_3 : Int) := od_
                    have q238 : x42_3 < (y234.length : Int) := od_
                    obtain ⟨ad238, e238, hx238_0, hx238_1, hx238_2⟩ := at_T53 HR237.out x42_3 p238 q238
                    obtain rfl : ad230 = ad238 := (by injection e238)
                    replace hx238_0 := cq_ HB hx238_0
                    replace hx238_1 := cq_ HB hx238_1
                    replace hx238_2 := cq_ HB hx238_2
                    replace p238 := eq_true p238
                    replace q238 := eq_true q238
                    go_wp2_with (first | ((with_reducible refine gate_dst (N := 8) rfl ?_); refine box_event ?hg (N := 8) ?hd (cs := #[.string (⟨#[]⟩ : ByteArray), .int .i64 0, .int .i64 0]) (t := 53) ?hr ?_; (case hd => rfl); (case hg => rfl); (case hr => first | (go_simp; done) | (go_simp; rfl)); intro gb239 hg w43 hbox hb; have n0_ := Aside0.mk (blk_below (g := gb231) (o := .cells #[.string ((rd_T53 l1 x14_1).f0), .int .i64 ((rd_T53 l1 x14_1).f1), .int .i64 ((rd_T53 l1 x14_1).f2)] 53 (0, 0)) (bk_ BK231) hb); have n1_ := Aside0.mk (below_step (hg_ GE231) hb); have n2_ := Aside0.mk (hbox); have n3_ := Aside0.mk ((by rw [hg]; exact (below_size (hg_ GE231)) : w.heap.size ≤ gb239)); have n4_ := Aside0.mk ((by rw [hg]; exact (below_size (hg_ GE231)) : w.heap.size ≤ gb239)); have n5_ := Aside0.mk ((by rw [hg]; exact Nat.ne_of_lt (blk_lt (g := gb231) (o := .cells #[.string ((rd_T53 l1 x14_1).f0), .int .i64 ((rd_T53 l1 x14_1).f1), .int .i64 ((rd_T53 l1 x14_1).f2)] 53 (0, 0)) (bk_ BK231)) : gb231 ≠ gb239)); have n6_ := Aside0.mk ((by rw [hg]; exact Nat.ne_of_gt (blk_lt (g := gb231) (o := .cells #[.string ((rd_T53 l1 x14_1).f0), .int .i64 ((rd_T53 l1 x14_1).f1), .int .i64 ((rd_T53 l1 x14_1).f2)] 53 (0, 0)) (bk_ BK231)) : gb239 ≠ gb231)); clear BK231; clear HB; have BK231 := n0_; have HB := n1_; have BK239 := n2_; have GW239 := n3_; have GE239 := n4_; have NB231_239 := n5_; have NB239_231 := n6_; clear n0_ n1_ n2_ n3_ n4_ n5_ n6_; clear hb hbox hg; have hnb44 := NB239_231.out; have hnc44 := NB231_239.out; have hcz45_0 : w43.cell? ⟨gb239, 0, none⟩ = some (.string (⟨#[]⟩ : ByteArray)) := (blk_cell BK239.out 0).trans rfl; have hcz45_1 : w43.cell? ⟨gb239, 1, none⟩ = some (.int .i64 0) := (blk_cell BK239.out 1).trans rfl; have hcz45_2 : w43.cell? ⟨gb239, 2, none⟩ = some (.int .i64 0) := (blk_cell BK239.out 2).trans rfl; have hfz45_0 := blk_frozen BK239.out 0; have hfz45_1 := blk_frozen BK239.out 1; have hfz45_2 := blk_frozen BK239.out 2; have hcz46_0 : w43.cell? ⟨gb231, 0, none⟩ = some (.string ((rd_T53 l1 x14_1).f0)) := (blk_cell BK231.out 0).trans rfl; have hcz46_1 : w43.cell? ⟨gb231, 1, none⟩ = some (.int .i64 ((rd_T53 l1 x14_1).f1)) := (blk_cell BK231.out 1).trans rfl; have hcz46_2 : w43.cell? ⟨gb231, 2, none⟩ = some (.int .i64 ((rd_T53 l1 x14_1).f2)) := (blk_cell BK231.out 2).trans rfl; have hfz46_0 := blk_frozen BK231.out 0; have hfz46_1 := blk_frozen BK231.out 1; have hfz46_2 := blk_frozen BK231.out 2))
                    go_roundg k3
                    case measure => have := HK1.out; have := HJ6.out; have := HK3.out; omega
                    case rel => exact ⟨(wrap64 (x42_3 + 1)), (by first | rfl | (simp; done) | (simp [*]; done)), H', ⟨by have := HK1.out; have := HJ6.out; have := HK3.out; omega⟩, ⟨by (with_reducible repeat (first | refine blk_drewN ?_ _ | refine blk_drew ?_ | refine blk_alloc ?_ _)); refine blk_far ?_ NB231_239.out _; (with_reducible repeat (first | refine blk_drewN ?_ _ | refine blk_drew ?_ | refine blk_alloc ?_ _)); refine blk_far ?_ NB231_239.out _; (with_reducible repeat (first | refine blk_drewN ?_ _ | refine blk_drew ?_ | refine blk_alloc ?_ _)); refine blk_far ?_ NB231_239.out _; (with_reducible repeat (first | refine blk_drewN ?_ _ | refine blk_drew ?_ | refine blk_alloc ?_ _)); exact BK231.out⟩, ⟨(hg2_ GE231 GE239)⟩⟩
                 ·rw [if_neg c32] at H
                  have c32b0 : (((rd_T53 y234 x42_3).f0).toList == ((rd_T53 l1 x14_1).f0).toList) = false := beq_eq_false_iff_ne.mpr c32
                  have c32b1 : (((rd_T53 y234 x42_3).f0).toList != ((rd_T53 l1 x14_1).f0).toList) = true := bne_iff_ne.mpr c32
                  have H' := Aside0.mk H
                  clear H
                  have p238 : 0 ≤ (x42_3 : Int) := od_
                  have q238 : x42_3 < (y234.length : Int) := od_
                  obtain ⟨ad238, e238, hx238_0, hx238_1, hx238_2⟩ := at_T53 HR237.out x42_3 p238 q238
                  obtain rfl : ad230 = ad238 := (by injection e238)
                  replace hx238_0 := cq_ HB hx238_0
                  replace hx238_1 := cq_ HB hx238_1
                  replace hx238_2 := cq_ HB hx238_2
                  replace p238 := eq_true p238
                  replace q238 := eq_true q238
                  go_wp2_with (first | ((with_reducible refine gate_dst (N := 8) rfl ?_); refine box_event ?hg (N := 8) ?hd (cs := #[.string (⟨#[]⟩ : ByteArray), .int .i64 0, .int .i64 0]) (t := 53) ?hr ?_; (case hd => rfl); (case hg => rfl); (case hr => first | (go_simp; done) | (go_simp; rfl)); intro gb239 hg w47 hbox hb; have n0_ := Aside0.mk (blk_below (g := gb231) (o := .cells #[.string ((rd_T53 l1 x14_1).f0), .int .i64 ((rd_T53 l1 x14_1).f1), .int .i64 ((rd_T53 l1 x14_1).f2)] 53 (0, 0)) (bk_ BK231) hb); have n1_ := Aside0.mk (below_step (hg_ GE231) hb); have n2_ := Aside0.mk (hbox); have n3_ := Aside0.mk ((by rw [hg]; exact (below_size (hg_ GE231)) : w.heap.size ≤ gb239)); have n4_ := Aside0.mk ((by rw [hg]; exact (below_size (hg_ GE231)) : w.heap.size ≤ gb239)); have n5_ := Aside0.mk ((by rw [hg]; exact Nat.ne_of_lt (blk_lt (g := gb231) (o := .cells #[.string ((rd_T53 l1 x14_1).f0), .int .i64 ((rd_T53 l1 x14_1).f1), .int .i64 ((rd_T53 l1 x14_1).f2)] 53 (0, 0)) (bk_ BK231)) : gb231 ≠ gb239)); have n6_ := Aside0.mk ((by rw [hg]; exact Nat.ne_of_gt (blk_lt (g := gb231) (o := .cells #[.string ((rd_T53 l1 x14_1).f0), .int .i64 ((rd_T53 l1 x14_1).f1), .int .i64 ((rd_T53 l1 x14_1).f2)] 53 (0, 0)) (bk_ BK231)) : gb239 ≠ gb231)); clear BK231; clear HB; have BK231 := n0_; have HB := n1_; have BK239 := n2_; have GW239 := n3_; have GE239 := n4_; have NB231_239 := n5_; have NB239_231 := n6_; clear n0_ n1_ n2_ n3_ n4_ n5_ n6_; clear hb hbox hg; have hnb48 := NB239_231.out; have hnc48 := NB231_239.out; have hcz49_0 : w47.cell? ⟨gb239, 0, none⟩ = some (.string (⟨#[]⟩ : ByteArray)) := (blk_cell BK239.out 0).trans rfl; have hcz49_1 : w47.cell? ⟨gb239, 1, none⟩ = some (.int .i64 0) := (blk_cell BK239.out 1).trans rfl; have hcz49_2 : w47.cell? ⟨gb239, 2, none⟩ = some (.int .i64 0) := (blk_cell BK239.out 2).trans rfl; have hfz49_0 := blk_frozen BK239.out 0; have hfz49_1 := blk_frozen BK239.out 1; have hfz49_2 := blk_frozen BK239.out 2; have hcz50_0 : w47.cell? ⟨gb231, 0, none⟩ = some (.string ((rd_T53 l1 x14_1).f0)) := (blk_cell BK231.out 0).trans rfl; have hcz50_1 : w47.cell? ⟨gb231, 1, none⟩ = some (.int .i64 ((rd_T53 l1 x14_1).f1)) := (blk_cell BK231.out 1).trans rfl; have hcz50_2 : w47.cell? ⟨gb231, 2, none⟩ = some (.int .i64 ((rd_T53 l1 x14_1).f2)) := (blk_cell BK231.out 2).trans rfl; have hfz50_0 := blk_frozen BK231.out 0; have hfz50_1 := blk_frozen BK231.out 1; have hfz50_2 := blk_frozen BK231.out 2))
                  go_roundg k3
                  case measure => have := HK1.out; have := HJ6.out; have := HK3.out; omega
                  case rel => exact ⟨(wrap64 (x42_3 + 1)), (by first | rfl | (simp; done) | (simp [*]; done)), H', ⟨by have := HK1.out; have := HJ6.out; have := HK3.out; omega⟩, ⟨by (with_reducible repeat (first | refine blk_drewN ?_ _ | refine blk_drew ?_ | refine blk_alloc ?_ _)); refine blk_far ?_ NB231_239.out _; (with_reducible repeat (first | refine blk_drewN ?_ _ | refine blk_drew ?_ | refine blk_alloc ?_ _)); refine blk_far ?_ NB231_239.out _; (with_reducible repeat (first | refine blk_drewN ?_ _ | refine blk_drew ?_ | refine blk_alloc ?_ _)); refine blk_far ?_ NB231_239.out _; (with_reducible repeat (first | refine blk_drewN ?_ _ | refine blk_drew ?_ | refine blk_alloc ?_ _)); exact BK231.out⟩, ⟨(hg2_ GE231 GE239)⟩⟩
                ·rw [if_neg c31] at H
                 exact absurd H (by simp)
               ·rw [if_neg c30] at H
                exact absurd H (by simp)
              ·rw [if_neg c29] at H
               have c29b0 : decide (x42_3 < (y234.length : Int)) = false := decide_eq_false c29
               clear c29
               have H' := Aside0.mk H
               clear H
               go_wp2
               go_roundg k3
               case measure => have := HK1.out; have := HJ6.out; have := HK3.out; omega
               case rel => exact ⟨(wrap64 (x14_1 + 1)), (by first | rfl | (simp; done) | (simp [*]; done)), H', ⟨by have := HK1.out; have := HJ6.out; have := HK3.out; omega⟩, ⟨(hg_ GE231)⟩⟩
           ·rw [if_neg c27] at H
            exact absurd H (by simp)
          ·rw [if_neg c26] at H
           exact absurd H (by simp)
      ·rw [if_neg c6] at H
       exact absurd H (by simp)
     ·rw [if_neg c5] at H
      exact absurd H (by simp)
    ·rw [if_neg c4] at H
     have c4b0 : decide (x14_1 < (l1.length : Int)) = false := decide_eq_false c4
     clear c4
     obtain rfl := Option.some.inj H
     go_wp2
     go_ret
     exact ⟨ew_, hb_⟩

end Go.Proofs.Ytdbigcfpinpnpaa.P
