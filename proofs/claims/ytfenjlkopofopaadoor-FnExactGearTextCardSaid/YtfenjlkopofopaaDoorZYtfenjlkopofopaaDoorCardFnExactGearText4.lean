/- Texts of this claim, packed: Px8. -/
import Derived.Test.YtfenjlkopofopaaDoorZYtfenjlkopofopaaDoorCardFnExactGearText3
section
-- Written by gprint.py (own program, over the printer of the kit) out of the translation. Lean checks it.
namespace Go.Proofs.YtfenjlkopofopaaDoor.P
open Go.RowKit Go.Proofs.YtfenjlkopofopaaDoorW.PrintWords Go.Proofs.YtfenjlkopofopaaDoorW.PrintLast Go.Proofs.YtfenjlkopofopaaDoorW.PrintMore Go.Proofs.YtfenjlkopofopaaDoorW.Pk
open Bool renaming true → T_, false → F_
open List renaming setIfInBounds_toArray → sT_, set_cons_zero → s0_, set_cons_succ → sS_
attribute [local go_sem] max2_int min2_int max_two min_two max_three min_three max_four min_four   -- for this text's walks alone
set_option linter.unusedVariables false
set_option linter.unusedSimpArgs false

/-! ### spec_l21Day: function 117 -/
def spec_l21Day.f (a0 : Int) : Option (Bool) := (spec_l00In.f a0 0 20000).bind fun t143 => (some t143)
set_option maxHeartbeats 8000000 in
set_option maxRecDepth 100000 in
theorem spec_l21Day.calls (a0 : Int) (r : Bool) (w : World) (h : spec_l21Day.f a0 = some r) :
  Calls Tryd.prog 117 #[.int .i64 a0] w fun e w' => e = .returned (.bool r) ∧ Drawn0 w w' := by
 have H : ((spec_l00In.f a0 0 20000).bind fun t143 => (some t143)) = some r := h
 clear h
 replace H := Option.bind_eq_some_iff.mp H
 obtain ⟨t143, A20, H⟩ := H
 replace H : (some t143) = some r := H
 have A2 := Aside0.mk A20
 clear A20
 obtain rfl := Option.some.inj H
 go_enter Tryd.func117, Tryd.ntmps117
 go_wp2_with (first | ((with_reducible refine gate_callee (f := 88) rfl ?_); refine goesL_ (some 4) rfl rfl Tryd.func88 (by kernel_rfl) rfl #[.int .i64 a0, .int .i64 0, .int .i64 20000] rfl ln_ ?_; (with_reducible refine (spec_l00In.calls a0 0 20000 t143 _ A2.out).mono ?_); rintro e w' ⟨rfl, ⟨nd, rfl⟩⟩; refine ⟨_, rfl, ?_⟩))
 go_ret
 exact ⟨by first | rfl | (simp; done) | (simp [*]; done), by repeat (first | exact Drawn0.refl _ | apply Drawn0.step)⟩

/-! ### spec_l21One: function 95 -/
def spec_l21One.f (k : Nat) (s0_0 : ByteArray) (s0_1 : Int) (s0_2 : Int) (s0_3 : Int) : Option (Bool) := (spec_IsName.f k s0_0).bind fun t144 => (if t144 = true then ((spec_l21Day.f s0_1).bind fun t145 => (if t145 = true then ((spec_l00In.f s0_2 0 1000).bind fun t146 => (if t146 = true then ((spec_l00In.f s0_3 1 1000000).bind fun t147 => (some t147)) else (some false))) else (some false))) else (some false))
set_option maxHeartbeats 8000000 in
set_option maxRecDepth 100000 in
theorem spec_l21One.calls0 (k : Nat) (g o : Nat) (z : Option Nat) (s0_0 : ByteArray) (s0_1 : Int) (s0_2 : Int) (s0_3 : Int) (r : Bool) (w0 w : World) (hI : IsE59 w0 w g o z s0_0 s0_1 s0_2 s0_3) (hB : Below w0.heap.size w0 w) (h : spec_l21One.f k s0_0 s0_1 s0_2 s0_3 = some r) :
  Calls Tryd.prog 95 #[.pointer (some ⟨g, o, z⟩)] w fun e w' => e = .returned (.bool r) ∧ IsE59 w0 w' g o z s0_0 s0_1 s0_2 s0_3 ∧ Below w0.heap.size w0 w' ∧ KeepBut w w' w.heap.size none := by
 have HI0 := Aside0.mk hI
 have HK := Aside0.mk (KeepBut.refl w w.heap.size none)
 have HL := Aside0.mk hB.size
 clear hI
 have HW0 := Aside0.mk hB.size
 have HB := Aside0.mk hB
 clear hB
 have H : ((spec_IsName.f k s0_0).bind fun t144 => (if t144 = true then ((spec_l21Day.f s0_1).bind fun t145 => (if t145 = true then ((spec_l00In.f s0_2 0 1000).bind fun t146 => (if t146 = true then ((spec_l00In.f s0_3 1 1000000).bind fun t147 => (some t147)) else (some false))) else (some false))) else (some false))) = some r := h
 clear h
 replace H := Option.bind_eq_some_iff.mp H
 obtain ⟨t144, A20, H⟩ := H
 replace H : (if t144 = true then ((spec_l21Day.f s0_1).bind fun t145 => (if t145 = true then ((spec_l00In.f s0_2 0 1000).bind fun t146 => (if t146 = true then ((spec_l00In.f s0_3 1 1000000).bind fun t147 => (some t147)) else (some false))) else (some false))) else (some false)) = some r := H
 have A2 := Aside0.mk A20
 clear A20
 by_cases c3 : t144 = true
 ·subst c3
  have H1 : ((spec_l21Day.f s0_1).bind fun t145 => (if t145 = true then ((spec_l00In.f s0_2 0 1000).bind fun t146 => (if t146 = true then ((spec_l00In.f s0_3 1 1000000).bind fun t147 => (some t147)) else (some false))) else (some false))) = some r := by rw [if_pos rfl] at H; exact H
  clear H
  have H := H1
  clear H1
  replace H := Option.bind_eq_some_iff.mp H
  obtain ⟨t145, A40, H⟩ := H
  replace H : (if t145 = true then ((spec_l00In.f s0_2 0 1000).bind fun t146 => (if t146 = true then ((spec_l00In.f s0_3 1 1000000).bind fun t147 => (some t147)) else (some false))) else (some false)) = some r := H
  have A4 := Aside0.mk A40
  clear A40
  by_cases c5 : t145 = true
  ·subst c5
   have H1 : ((spec_l00In.f s0_2 0 1000).bind fun t146 => (if t146 = true then ((spec_l00In.f s0_3 1 1000000).bind fun t147 => (some t147)) else (some false))) = some r := by rw [if_pos rfl] at H; exact H
   clear H
   have H := H1
   clear H1
   replace H := Option.bind_eq_some_iff.mp H
   obtain ⟨t146, A60, H⟩ := H
   replace H : (if t146 = true then ((spec_l00In.f s0_3 1 1000000).bind fun t147 => (some t147)) else (some false)) = some r := H
   have A6 := Aside0.mk A60
   clear A60
   by_cases c7 : t146 = true
   ·subst c7
    have H1 : ((spec_l00In.f s0_3 1 1000000).bind fun t147 => (some t147)) = some r := by rw [if_pos rfl] at H; exact H
    clear H
    have H := H1
    clear H1
    replace H := Option.bind_eq_some_iff.mp H
    obtain ⟨t147, A80, H⟩ := H
    replace H : (some t147) = some r := H
    have A8 := Aside0.mk A80
    clear A80
    obtain rfl := Option.some.inj H
    obtain ⟨HGz9, hgz9⟩ := HI0.out
    have hcz9_0 := cellE59_0 HGz9
    have hcz9_1 := cellE59_1 HGz9
    have hcz9_2 := cellE59_2 HGz9
    have hcz9_3 := cellE59_3 HGz9
    clear HGz9 hgz9
    go_enter Tryd.func95, Tryd.ntmps95
    go_wp2_with (first | ((with_reducible refine gate_callee (f := 82) rfl ?_); refine goesL_ (some 7) rfl rfl Tryd.func82 (by kernel_rfl) rfl #[.string s0_0] rfl ln_ ?_; (with_reducible refine (spec_IsName.calls k s0_0 true _ A2.out).mono ?_); rintro e w' ⟨rfl, ⟨nd, rfl⟩⟩; refine ⟨_, rfl, ?_⟩) | (go_at_call 117; (with_reducible refine (spec_l21Day.calls s0_1 true _ A4.out).mono ?_); rintro e w' ⟨rfl, ⟨nd, rfl⟩⟩) | (go_at_call 88; (with_reducible refine (spec_l00In.calls s0_2 0 1000 true _ A6.out).mono ?_); rintro e w' ⟨rfl, ⟨nd, rfl⟩⟩) | (go_at_call 88; (with_reducible refine (spec_l00In.calls s0_3 1 1000000 t147 _ A8.out).mono ?_); rintro e w' ⟨rfl, ⟨nd, rfl⟩⟩))
    go_ret
    exact ⟨ew_, by repeat (first | (with_reducible first | exact HI0.out | apply IsE59.alloc | apply IsE59.drewN | apply IsE59.drew) | exact HI0.out), hb_, by repeat (first | (with_reducible first | exact HK.out | apply keep_drewN | apply keep_drew | apply keep_alloc) | exact HK.out)⟩
   ·replace c7 := Bool.eq_false_iff.mpr c7
    subst c7
    have H1 : (some false) = some r := by rw [if_neg (show ¬ (false = true) by decide)] at H; exact H
    clear H
    have H := H1
    clear H1
    obtain rfl := Option.some.inj H
    obtain ⟨HGz10, hgz10⟩ := HI0.out
    have hcz10_0 := cellE59_0 HGz10
    have hcz10_1 := cellE59_1 HGz10
    have hcz10_2 := cellE59_2 HGz10
    have hcz10_3 := cellE59_3 HGz10
    clear HGz10 hgz10
    go_enter Tryd.func95, Tryd.ntmps95
    go_wp2_with (first | ((with_reducible refine gate_callee (f := 82) rfl ?_); refine goesL_ (some 7) rfl rfl Tryd.func82 (by kernel_rfl) rfl #[.string s0_0] rfl ln_ ?_; (with_reducible refine (spec_IsName.calls k s0_0 true _ A2.out).mono ?_); rintro e w' ⟨rfl, ⟨nd, rfl⟩⟩; refine ⟨_, rfl, ?_⟩) | (go_at_call 117; (with_reducible refine (spec_l21Day.calls s0_1 true _ A4.out).mono ?_); rintro e w' ⟨rfl, ⟨nd, rfl⟩⟩) | (go_at_call 88; (with_reducible refine (spec_l00In.calls s0_2 0 1000 false _ A6.out).mono ?_); rintro e w' ⟨rfl, ⟨nd, rfl⟩⟩))
    go_ret
    exact ⟨ew_, by repeat (first | (with_reducible first | exact HI0.out | apply IsE59.alloc | apply IsE59.drewN | apply IsE59.drew) | exact HI0.out), hb_, by repeat (first | (with_reducible first | exact HK.out | apply keep_drewN | apply keep_drew | apply keep_alloc) | exact HK.out)⟩
  ·replace c5 := Bool.eq_false_iff.mpr c5
   subst c5
   have H1 : (some false) = some r := by rw [if_neg (show ¬ (false = true) by decide)] at H; exact H
   clear H
   have H := H1
   clear H1
   obtain rfl := Option.some.inj H
   obtain ⟨HGz11, hgz11⟩ := HI0.out
   have hcz11_0 := cellE59_0 HGz11
   have hcz11_1 := cellE59_1 HGz11
   have hcz11_2 := cellE59_2 HGz11
   have hcz11_3 := cellE59_3 HGz11
   clear HGz11 hgz11
   go_enter Tryd.func95, Tryd.ntmps95
   go_wp2_with (first | ((with_reducible refine gate_callee (f := 82) rfl ?_); refine goesL_ (some 7) rfl rfl Tryd.func82 (by kernel_rfl) rfl #[.string s0_0] rfl ln_ ?_; (with_reducible refine (spec_IsName.calls k s0_0 true _ A2.out).mono ?_); rintro e w' ⟨rfl, ⟨nd, rfl⟩⟩; refine ⟨_, rfl, ?_⟩) | (go_at_call 117; (with_reducible refine (spec_l21Day.calls s0_1 false _ A4.out).mono ?_); rintro e w' ⟨rfl, ⟨nd, rfl⟩⟩))
   go_ret
   exact ⟨ew_, by repeat (first | (with_reducible first | exact HI0.out | apply IsE59.alloc | apply IsE59.drewN | apply IsE59.drew) | exact HI0.out), hb_, by repeat (first | (with_reducible first | exact HK.out | apply keep_drewN | apply keep_drew | apply keep_alloc) | exact HK.out)⟩
 ·replace c3 := Bool.eq_false_iff.mpr c3
  subst c3
  have H1 : (some false) = some r := by rw [if_neg (show ¬ (false = true) by decide)] at H; exact H
  clear H
  have H := H1
  clear H1
  obtain rfl := Option.some.inj H
  obtain ⟨HGz12, hgz12⟩ := HI0.out
  have hcz12_0 := cellE59_0 HGz12
  have hcz12_1 := cellE59_1 HGz12
  have hcz12_2 := cellE59_2 HGz12
  have hcz12_3 := cellE59_3 HGz12
  clear HGz12 hgz12
  go_enter Tryd.func95, Tryd.ntmps95
  go_wp2_with (first | ((with_reducible refine gate_callee (f := 82) rfl ?_); refine goesL_ (some 7) rfl rfl Tryd.func82 (by kernel_rfl) rfl #[.string s0_0] rfl ln_ ?_; (with_reducible refine (spec_IsName.calls k s0_0 false _ A2.out).mono ?_); rintro e w' ⟨rfl, ⟨nd, rfl⟩⟩; refine ⟨_, rfl, ?_⟩))
  go_ret
  exact ⟨ew_, by repeat (first | (with_reducible first | exact HI0.out | apply IsE59.alloc | apply IsE59.drewN | apply IsE59.drew) | exact HI0.out), hb_, by repeat (first | (with_reducible first | exact HK.out | apply keep_drewN | apply keep_drew | apply keep_alloc) | exact HK.out)⟩
theorem spec_l21One.calls (k : Nat) (g : Addr) (s0_0 : ByteArray) (s0_1 : Int) (s0_2 : Int) (s0_3 : Int) (r : Bool) (w : World) (he0 : w.cell? g = some (.string s0_0)) (he1 : w.cell? ⟨g.block, g.off + 1, none⟩ = some (.int .i64 s0_1)) (he2 : w.cell? ⟨g.block, g.off + 2, none⟩ = some (.int .i64 s0_2)) (he3 : w.cell? ⟨g.block, g.off + 3, none⟩ = some (.int .i64 s0_3)) (h : spec_l21One.f k s0_0 s0_1 s0_2 s0_3 = some r) :
  Calls Tryd.prog 95 #[.pointer (some g)] w fun e w' => e = .returned (.bool r) ∧ Below w.heap.size w w' := by
 refine (spec_l21One.calls0 k g.block g.off g.spot s0_0 s0_1 s0_2 s0_3 r w w ⟨⟨he0, he1, he2, he3⟩, trivial⟩ (Below.refl _ _) h).mono ?_
 rintro e w' ⟨rfl, _, hb, _⟩
 exact ⟨rfl, hb⟩


/-! ### spec_GearText: function 36 -/
def spec_GearText.f (k : Nat) (a0_0 : ByteArray) (a0_1 : Int) (a0_2 : Int) (a0_3 : Int) : Option (ByteArray) := (spec_l21One.f k a0_0 a0_1 a0_2 a0_3).bind fun t149 => (if t149 = true then (if a0_0.size + 8 ≤ 9223372036854775807 then ((spec_l01Dec.f k a0_1).bind fun t150 => (if a0_0.size + 8 + t150.size ≤ 9223372036854775807 then (if a0_0.size + 8 + t150.size + 7 ≤ 9223372036854775807 then ((spec_l01Dec.f k a0_2).bind fun t151 => (if a0_0.size + 8 + t150.size + 7 + t151.size ≤ 9223372036854775807 then (if a0_0.size + 8 + t150.size + 7 + t151.size + 8 ≤ 9223372036854775807 then ((spec_l01Dec.f k a0_3).bind fun t152 => (if a0_0.size + 8 + t150.size + 7 + t151.size + 8 + t152.size ≤ 9223372036854775807 then (some ((((((a0_0 ++ (⟨#[32, 102, 105, 116, 116, 101, 100, 32]⟩ : ByteArray)) ++ t150) ++ (⟨#[32, 119, 101, 97, 114, 115, 32]⟩ : ByteArray)) ++ t151) ++ (⟨#[32, 115, 116, 97, 110, 100, 115, 32]⟩ : ByteArray)) ++ t152)) else (none))) else (none)) else (none))) else (none)) else (none))) else (none)) else (some (⟨#[]⟩ : ByteArray)))
def spec_GearText.T3 : Bool × List (List Nat × List Nat) := (true, [([], []), ([0], [0]), ([1], [1]), ([], []), ([3], [3]), ([4], [4]), ([2, 5], [2, 5]), ([6], [6]), ([], []), ([8], [8]), ([9, 5], [9]), ([7, 10], [7, 10]), ([11], [11]), ([], []), ([13], [13]), ([14, 10], [14]), ([12, 15], [12, 15]), ([16, 15, 0, 1, 2, 3, 4, 5, 6, 7, 8, 9, 10, 11, 12, 13, 14, 15, 16], [16])])
def spec_GearText.B3 : List Nat := [0, 1, 3, 0, 8, 24, 63, 127, 0, 256, 824, 2047, 4095, 0, 8192, 26424, 65535, 131071]
theorem spec_GearText.tab3 : rtab .any (opsOf Tryd.f36 3) = spec_GearText.T3 := by kernel_rfl
theorem spec_GearText.bits3 : waitsOk spec_GearText.T3.2 spec_GearText.B3 = true := by kernel_rfl
set_option maxHeartbeats 8000000 in
set_option maxRecDepth 100000 in
theorem spec_GearText.calls (k : Nat) (a0_0 : ByteArray) (a0_1 : Int) (a0_2 : Int) (a0_3 : Int) (r : ByteArray) (w : World) (h : spec_GearText.f k a0_0 a0_1 a0_2 a0_3 = some r) :
  Calls Tryd.prog 36 #[.agg #[.string a0_0, .int .i64 a0_1, .int .i64 a0_2, .int .i64 a0_3]] w fun e w' => e = .returned (.string r) ∧ Below w.heap.size w w' := by
 have hu59 := Tryd.underlying59
 have HB := Aside0.mk (Below.refl w.heap.size w)
 have H : ((spec_l21One.f k a0_0 a0_1 a0_2 a0_3).bind fun t149 => (if t149 = true then (if a0_0.size + 8 ≤ 9223372036854775807 then ((spec_l01Dec.f k a0_1).bind fun t150 => (if a0_0.size + 8 + t150.size ≤ 9223372036854775807 then (if a0_0.size + 8 + t150.size + 7 ≤ 9223372036854775807 then ((spec_l01Dec.f k a0_2).bind fun t151 => (if a0_0.size + 8 + t150.size + 7 + t151.size ≤ 9223372036854775807 then (if a0_0.size + 8 + t150.size + 7 + t151.size + 8 ≤ 9223372036854775807 then ((spec_l01Dec.f k a0_3).bind fun t152 => (if a0_0.size + 8 + t150.size + 7 + t151.size + 8 + t152.size ≤ 9223372036854775807 then (some ((((((a0_0 ++ (⟨#[32, 102, 105, 116, 116, 101, 100, 32]⟩ : ByteArray)) ++ t150) ++ (⟨#[32, 119, 101, 97, 114, 115, 32]⟩ : ByteArray)) ++ t151) ++ (⟨#[32, 115, 116, 97, 110, 100, 115, 32]⟩ : ByteArray)) ++ t152)) else (none))) else (none)) else (none))) else (none)) else (none))) else (none)) else (some (⟨#[]⟩ : ByteArray)))) = some r := h
 clear h
 replace H := Option.bind_eq_some_iff.mp H
 obtain ⟨t149, A20, H⟩ := H
 replace H : (if t149 = true then (if a0_0.size + 8 ≤ 9223372036854775807 then ((spec_l01Dec.f k a0_1).bind fun t150 => (if a0_0.size + 8 + t150.size ≤ 9223372036854775807 then (if a0_0.size + 8 + t150.size + 7 ≤ 9223372036854775807 then ((spec_l01Dec.f k a0_2).bind fun t151 => (if a0_0.size + 8 + t150.size + 7 + t151.size ≤ 9223372036854775807 then (if a0_0.size + 8 + t150.size + 7 + t151.size + 8 ≤ 9223372036854775807 then ((spec_l01Dec.f k a0_3).bind fun t152 => (if a0_0.size + 8 + t150.size + 7 + t151.size + 8 + t152.size ≤ 9223372036854775807 then (some ((((((a0_0 ++ (⟨#[32, 102, 105, 116, 116, 101, 100, 32]⟩ : ByteArray)) ++ t150) ++ (⟨#[32, 119, 101, 97, 114, 115, 32]⟩ : ByteArray)) ++ t151) ++ (⟨#[32, 115, 116, 97, 110, 100, 115, 32]⟩ : ByteArray)) ++ t152)) else (none))) else (none)) else (none))) else (none)) else (none))) else (none)) else (some (⟨#[]⟩ : ByteArray))) = some r := H
 have A2 := Aside0.mk A20
 clear A20
 by_cases c3 : t149 = true
 ·subst c3
  have H1 : (if a0_0.size + 8 ≤ 9223372036854775807 then ((spec_l01Dec.f k a0_1).bind fun t150 => (if a0_0.size + 8 + t150.size ≤ 9223372036854775807 then (if a0_0.size + 8 + t150.size + 7 ≤ 9223372036854775807 then ((spec_l01Dec.f k a0_2).bind fun t151 => (if a0_0.size + 8 + t150.size + 7 + t151.size ≤ 9223372036854775807 then (if a0_0.size + 8 + t150.size + 7 + t151.size + 8 ≤ 9223372036854775807 then ((spec_l01Dec.f k a0_3).bind fun t152 => (if a0_0.size + 8 + t150.size + 7 + t151.size + 8 + t152.size ≤ 9223372036854775807 then (some ((((((a0_0 ++ (⟨#[32, 102, 105, 116, 116, 101, 100, 32]⟩ : ByteArray)) ++ t150) ++ (⟨#[32, 119, 101, 97, 114, 115, 32]⟩ : ByteArray)) ++ t151) ++ (⟨#[32, 115, 116, 97, 110, 100, 115, 32]⟩ : ByteArray)) ++ t152)) else (none))) else (none)) else (none))) else (none)) else (none))) else (none)) = some r := by rw [if_pos rfl] at H; exact H
  clear H
  have H := H1
  clear H1
  by_cases c4 : a0_0.size + 8 ≤ 9223372036854775807
  ·rw [if_pos c4] at H
   have c4b0 := eq_true c4
   have c4b1 : decide (a0_0.size + 8 ≤ 9223372036854775807) = true := decide_eq_true c4
   try have c4b2 : (9223372036854775807 < a0_0.size + 8) = False := eq_false (Nat.not_lt.2 c4)
   replace H := Option.bind_eq_some_iff.mp H
   obtain ⟨t150, A50, H⟩ := H
   replace H : (if a0_0.size + 8 + t150.size ≤ 9223372036854775807 then (if a0_0.size + 8 + t150.size + 7 ≤ 9223372036854775807 then ((spec_l01Dec.f k a0_2).bind fun t151 => (if a0_0.size + 8 + t150.size + 7 + t151.size ≤ 9223372036854775807 then (if a0_0.size + 8 + t150.size + 7 + t151.size + 8 ≤ 9223372036854775807 then ((spec_l01Dec.f k a0_3).bind fun t152 => (if a0_0.size + 8 + t150.size + 7 + t151.size + 8 + t152.size ≤ 9223372036854775807 then (some ((((((a0_0 ++ (⟨#[32, 102, 105, 116, 116, 101, 100, 32]⟩ : ByteArray)) ++ t150) ++ (⟨#[32, 119, 101, 97, 114, 115, 32]⟩ : ByteArray)) ++ t151) ++ (⟨#[32, 115, 116, 97, 110, 100, 115, 32]⟩ : ByteArray)) ++ t152)) else (none))) else (none)) else (none))) else (none)) else (none)) = some r := H
   have A5 := Aside0.mk A50
   clear A50
   by_cases c6 : a0_0.size + 8 + t150.size ≤ 9223372036854775807
   ·rw [if_pos c6] at H
    have c6b0 := eq_true c6
    have c6b1 : decide (a0_0.size + 8 + t150.size ≤ 9223372036854775807) = true := decide_eq_true c6
    try have c6b2 : (9223372036854775807 < a0_0.size + 8 + t150.size) = False := eq_false (Nat.not_lt.2 c6)
    by_cases c7 : a0_0.size + 8 + t150.size + 7 ≤ 9223372036854775807
    ·rw [if_pos c7] at H
     have c7b0 := eq_true c7
     have c7b1 : decide (a0_0.size + 8 + t150.size + 7 ≤ 9223372036854775807) = true := decide_eq_true c7
     try have c7b2 : (9223372036854775807 < a0_0.size + 8 + t150.size + 7) = False := eq_false (Nat.not_lt.2 c7)
     replace H := Option.bind_eq_some_iff.mp H
     obtain ⟨t151, A80, H⟩ := H
     replace H : (if a0_0.size + 8 + t150.size + 7 + t151.size ≤ 9223372036854775807 then (if a0_0.size + 8 + t150.size + 7 + t151.size + 8 ≤ 9223372036854775807 then ((spec_l01Dec.f k a0_3).bind fun t152 => (if a0_0.size + 8 + t150.size + 7 + t151.size + 8 + t152.size ≤ 9223372036854775807 then (some ((((((a0_0 ++ (⟨#[32, 102, 105, 116, 116, 101, 100, 32]⟩ : ByteArray)) ++ t150) ++ (⟨#[32, 119, 101, 97, 114, 115, 32]⟩ : ByteArray)) ++ t151) ++ (⟨#[32, 115, 116, 97, 110, 100, 115, 32]⟩ : ByteArray)) ++ t152)) else (none))) else (none)) else (none)) = some r := H
     have A8 := Aside0.mk A80
     clear A80
     by_cases c9 : a0_0.size + 8 + t150.size + 7 + t151.size ≤ 9223372036854775807
     ·rw [if_pos c9] at H
      have c9b0 := eq_true c9
      have c9b1 : decide (a0_0.size + 8 + t150.size + 7 + t151.size ≤ 9223372036854775807) = true := decide_eq_true c9
      try have c9b2 : (9223372036854775807 < a0_0.size + 8 + t150.size + 7 + t151.size) = False := eq_false (Nat.not_lt.2 c9)
      by_cases c10 : a0_0.size + 8 + t150.size + 7 + t151.size + 8 ≤ 9223372036854775807
      ·rw [if_pos c10] at H
       have c10b0 := eq_true c10
       have c10b1 : decide (a0_0.size + 8 + t150.size + 7 + t151.size + 8 ≤ 9223372036854775807) = true := decide_eq_true c10
       try have c10b2 : (9223372036854775807 < a0_0.size + 8 + t150.size + 7 + t151.size + 8) = False := eq_false (Nat.not_lt.2 c10)
       replace H := Option.bind_eq_some_iff.mp H
       obtain ⟨t152, A110, H⟩ := H
       replace H : (if a0_0.size + 8 + t150.size + 7 + t151.size + 8 + t152.size ≤ 9223372036854775807 then (some ((((((a0_0 ++ (⟨#[32, 102, 105, 116, 116, 101, 100, 32]⟩ : ByteArray)) ++ t150) ++ (⟨#[32, 119, 101, 97, 114, 115, 32]⟩ : ByteArray)) ++ t151) ++ (⟨#[32, 115, 116, 97, 110, 100, 115, 32]⟩ : ByteArray)) ++ t152)) else (none)) = some r := H
       have A11 := Aside0.mk A110
       clear A110
       by_cases c12 : a0_0.size + 8 + t150.size + 7 + t151.size + 8 + t152.size ≤ 9223372036854775807
       ·rw [if_pos c12] at H
        have c12b0 := eq_true c12
        have c12b1 : decide (a0_0.size + 8 + t150.size + 7 + t151.size + 8 + t152.size ≤ 9223372036854775807) = true := decide_eq_true c12
        try have c12b2 : (9223372036854775807 < a0_0.size + 8 + t150.size + 7 + t151.size + 8 + t152.size) = False := eq_false (Nat.not_lt.2 c12)
        obtain rfl := Option.some.inj H
        go_enter Tryd.func36, Tryd.ntmps36
        try go_wp2_with (first | ((with_reducible refine gate_dst (N := 1) rfl ?_); refine box_event ?hg (N := 1) ?hd (cs := #[.string a0_0, .int .i64 a0_1, .int .i64 a0_2, .int .i64 a0_3]) (t := 59) ?hr ?_; (case hd => rfl); (case hg => rfl); (case hr => first | (go_simp; done) | (go_simp; rfl)); intro gb148 hg w13 hbox hb; have n0_ := Aside0.mk (below_step hb_ hb); have n1_ := Aside0.mk (hbox); have n2_ := Aside0.mk ((by rw [hg]; exact (below_size hb_) : w.heap.size ≤ gb148)); have n3_ := Aside0.mk ((by rw [hg]; exact (below_size hb_) : w.heap.size ≤ gb148)); clear HB; have HB := n0_; have BK148 := n1_; have GW148 := n2_; have GE148 := n3_; clear n0_ n1_ n2_ n3_; clear hb hbox hg) | ((with_reducible refine gate_callee (f := 95) rfl ?_); refine goesL_ (some 3) rfl rfl Tryd.func95 (by kernel_rfl) rfl #[.pointer (some ⟨gb148, 0, none⟩)] rfl ln_ ?_; (with_reducible refine (spec_l21One.calls k _ a0_0 a0_1 a0_2 a0_3 true _ ?side1 ?side2 ?side3 ?side4 A2.out).mono ?_); (case side1 => exact (blk_cell (cs := #[.string a0_0, .int .i64 a0_1, .int .i64 a0_2, .int .i64 a0_3]) (bk_ BK148) 0).trans rfl); (case side2 => exact (blk_cell (cs := #[.string a0_0, .int .i64 a0_1, .int .i64 a0_2, .int .i64 a0_3]) (bk_ BK148) 1).trans rfl); (case side3 => exact (blk_cell (cs := #[.string a0_0, .int .i64 a0_1, .int .i64 a0_2, .int .i64 a0_3]) (bk_ BK148) 2).trans rfl); (case side4 => exact (blk_cell (cs := #[.string a0_0, .int .i64 a0_1, .int .i64 a0_2, .int .i64 a0_3]) (bk_ BK148) 3).trans rfl); rintro e w14 ⟨rfl, hb⟩; refine ⟨_, rfl, ?_⟩; have n0_ := Aside0.mk (blk_below (g := gb148) (o := .cells #[.string a0_0, .int .i64 a0_1, .int .i64 a0_2, .int .i64 a0_3] 59 (0, 0)) (bk_ BK148) hb); have n1_ := Aside0.mk (below_step (hg_ GE148) hb); clear BK148; clear HB; have BK148 := n0_; have HB := n1_; clear n0_ n1_; (try clear hb); (try clear hb2); (try clear hk); (try clear hi)))
        have n0_ := Aside0.mk (blk_drew BK148.out)
        have n1_ := Aside0.mk (below_drew1 HB.out)
        clear BK148
        clear HB
        have BK148 := n0_
        have HB := n1_
        clear n0_ n1_
        refine start_ (n := 18) (S := fun w' => w'.cell? ⟨gb148, 0, none⟩ = some (.string a0_0) ∧ w'.cell? ⟨gb148, 1, none⟩ = some (.int .i64 a0_1) ∧ w'.cell? ⟨gb148, 2, none⟩ = some (.int .i64 a0_2) ∧ w'.cell? ⟨gb148, 3, none⟩ = some (.int .i64 a0_3)) (ds := []) #[F_,F_,F_,F_,F_,F_,F_,F_,F_,F_,F_,F_,F_,F_,F_,F_,F_,F_] (by kernel_rfl) rfl rfl ⟨(blk_cell BK148.out 0).trans rfl, (blk_cell BK148.out 1).trans rfl, (blk_cell BK148.out 2).trans rfl, (blk_cell BK148.out 3).trans rfl⟩ (fun hHeld => ?_); refine with_tabW spec_GearText.tab3 spec_GearText.bits3 (fun HT_ HW_ => ?_)
        generalize w14.drew = w15 at BK148 HB hHeld ⊢
        refine pu (i := 0) (N := some 5) #[T_,F_,F_,F_,F_,F_,F_,F_,F_,F_,F_,F_,F_,F_,F_,F_,F_,F_] HT_ ?_
        refine pu (i := 3) (N := some 8) #[T_,F_,F_,T_,F_,F_,F_,F_,F_,F_,F_,F_,F_,F_,F_,F_,F_,F_] HT_ ?_
        refine pu (i := 8) (N := some 13) #[T_,F_,F_,T_,F_,F_,F_,F_,T_,F_,F_,F_,F_,F_,F_,F_,F_,F_] HT_ ?_
        refine pu (i := 13) (N := some 18) #[T_,F_,F_,T_,F_,F_,F_,F_,T_,F_,F_,F_,F_,T_,F_,F_,F_,F_] HT_ ?_
        refine take_ (i := 1) (N := some 6) (v := ?_) (a' := ?_) #[T_,T_,F_,T_,F_,F_,F_,F_,T_,F_,F_,F_,F_,T_,F_,F_,F_,F_] rfl rfl (take_ofW HT_.out HW_.out (by kernel_rfl)) (fun _ _ _ h => h) (Or.inl ⟨by rfl, ?_⟩) hHeld ?_ ?_
        rotate_left
        ·rintro w' ⟨s0, s1, s2, s3⟩
         go_simp
         with_reducible rfl
        rotate_left
        ·simp only [Act.put, sT_, s0_, sS_, i64_w, i32_w]
         rfl
        refine pu (i := 2) (N := some 7) #[T_,T_,T_,T_,F_,F_,F_,F_,T_,F_,F_,F_,F_,T_,F_,F_,F_,F_] HT_ ?_
        refine take_ (i := 4) (N := some 9) (v := ?_) (a' := ?_) #[T_,T_,T_,T_,T_,F_,F_,F_,T_,F_,F_,F_,F_,T_,F_,F_,F_,F_] rfl rfl (take_ofW HT_.out HW_.out (by kernel_rfl)) (fun _ _ _ h => h) (Or.inl ⟨by rfl, ?_⟩) hHeld ?_ ?_
        rotate_left
        ·rintro w' ⟨s0, s1, s2, s3⟩
         go_simp
         with_reducible rfl
        rotate_left
        ·simp only [Act.put, sT_, s0_, sS_, i64_w, i32_w]
         rfl
        refine take_ (i := 9) (N := some 14) (v := ?_) (a' := ?_) #[T_,T_,T_,T_,T_,F_,F_,F_,T_,T_,F_,F_,F_,T_,F_,F_,F_,F_] rfl rfl (take_ofW HT_.out HW_.out (by kernel_rfl)) (fun _ _ _ h => h) (Or.inl ⟨by rfl, ?_⟩) hHeld ?_ ?_
        rotate_left
        ·rintro w' ⟨s0, s1, s2, s3⟩
         go_simp
         with_reducible rfl
        rotate_left
        ·simp only [Act.put, sT_, s0_, sS_, i64_w, i32_w]
         rfl
        refine take_ (i := 14) (N := some 19) (v := ?_) (a' := ?_) #[T_,T_,T_,T_,T_,F_,F_,F_,T_,T_,F_,F_,F_,T_,T_,F_,F_,F_] rfl rfl (take_ofW HT_.out HW_.out (by kernel_rfl)) (fun _ _ _ h => h) (Or.inl ⟨by rfl, ?_⟩) hHeld ?_ ?_
        rotate_left
        ·rintro w' ⟨s0, s1, s2, s3⟩
         go_simp
         with_reducible rfl
        rotate_left
        ·simp only [Act.put, sT_, s0_, sS_, i64_w, i32_w]
         rfl
        refine one_ (i := 5) (N := some 10) #[T_,T_,T_,T_,T_,T_,F_,F_,T_,T_,F_,F_,F_,T_,T_,F_,F_,F_] rfl rfl (one_of HT_.out (by kernel_rfl)) (by decide) (fun K hK => ?_)
        refine goes_ Tryd.func96 (by kernel_rfl) rfl #[.int .i64 a0_1] (by rfl) rfl rfl ln_ ?_
        with_reducible refine (spec_l01Dec.calls k a0_1 t150 _ A5.out).mono ?_
        rintro e w16 ⟨rfl, hb⟩
        refine ⟨_, rfl, ?_⟩
        have n0_ := Aside0.mk (blk_below (g := gb148) (o := .cells #[.string a0_0, .int .i64 a0_1, .int .i64 a0_2, .int .i64 a0_3] 59 (0, 0)) (bk_ BK148) hb)
        have n1_ := Aside0.mk (below_step (hg_ GE148) hb)
        clear BK148
        clear HB
        have BK148 := n0_
        have HB := n1_
        clear n0_ n1_
        (try clear hb)
        (try clear hb2)
        (try clear hk)
        (try clear hi)
        refine hK.out _ _ ⟨(blk_cell BK148.out 0).trans rfl, (blk_cell BK148.out 1).trans rfl, (blk_cell BK148.out 2).trans rfl, (blk_cell BK148.out 3).trans rfl⟩ (fun hHeld => ?_)
        clear hK K
        refine norm_ (a' := ?_) ?_ ?_
        rotate_left
        ·show Act.put _ (some 10) _ = _
         simp only [Act.put, sT_, s0_, sS_, i64_w, i32_w]
         rfl
        refine pu (i := 6) (N := some 11) #[T_,T_,T_,T_,T_,T_,T_,F_,T_,T_,F_,F_,F_,T_,T_,F_,F_,F_] HT_ ?_
        refine pu (i := 7) (N := some 12) #[T_,T_,T_,T_,T_,T_,T_,T_,T_,T_,F_,F_,F_,T_,T_,F_,F_,F_] HT_ ?_
        refine one_ (i := 10) (N := some 15) #[T_,T_,T_,T_,T_,T_,T_,T_,T_,T_,T_,F_,F_,T_,T_,F_,F_,F_] rfl rfl (one_of HT_.out (by kernel_rfl)) (by decide) (fun K hK => ?_)
        refine goes_ Tryd.func96 (by kernel_rfl) rfl #[.int .i64 a0_2] (by rfl) rfl rfl ln_ ?_
        with_reducible refine (spec_l01Dec.calls k a0_2 t151 _ A8.out).mono ?_
        rintro e w17 ⟨rfl, hb⟩
        refine ⟨_, rfl, ?_⟩
        have n0_ := Aside0.mk (blk_below (g := gb148) (o := .cells #[.string a0_0, .int .i64 a0_1, .int .i64 a0_2, .int .i64 a0_3] 59 (0, 0)) (bk_ BK148) hb)
        have n1_ := Aside0.mk (below_step (hg_ GE148) hb)
        clear BK148
        clear HB
        have BK148 := n0_
        have HB := n1_
        clear n0_ n1_
        (try clear hb)
        (try clear hb2)
        (try clear hk)
        (try clear hi)
        refine hK.out _ _ ⟨(blk_cell BK148.out 0).trans rfl, (blk_cell BK148.out 1).trans rfl, (blk_cell BK148.out 2).trans rfl, (blk_cell BK148.out 3).trans rfl⟩ (fun hHeld => ?_)
        clear hK K
        refine norm_ (a' := ?_) ?_ ?_
        rotate_left
        ·show Act.put _ (some 15) _ = _
         simp only [Act.put, sT_, s0_, sS_, i64_w, i32_w]
         rfl
        refine pu (i := 11) (N := some 16) #[T_,T_,T_,T_,T_,T_,T_,T_,T_,T_,T_,T_,F_,T_,T_,F_,F_,F_] HT_ ?_
        refine pu (i := 12) (N := some 17) #[T_,T_,T_,T_,T_,T_,T_,T_,T_,T_,T_,T_,T_,T_,T_,F_,F_,F_] HT_ ?_
        refine one_ (i := 15) (N := some 20) #[T_,T_,T_,T_,T_,T_,T_,T_,T_,T_,T_,T_,T_,T_,T_,T_,F_,F_] rfl rfl (one_of HT_.out (by kernel_rfl)) (by decide) (fun K hK => ?_)
        refine goes_ Tryd.func96 (by kernel_rfl) rfl #[.int .i64 a0_3] (by rfl) rfl rfl ln_ ?_
        with_reducible refine (spec_l01Dec.calls k a0_3 t152 _ A11.out).mono ?_
        rintro e w18 ⟨rfl, hb⟩
        refine ⟨_, rfl, ?_⟩
        have n0_ := Aside0.mk (blk_below (g := gb148) (o := .cells #[.string a0_0, .int .i64 a0_1, .int .i64 a0_2, .int .i64 a0_3] 59 (0, 0)) (bk_ BK148) hb)
        have n1_ := Aside0.mk (below_step (hg_ GE148) hb)
        clear BK148
        clear HB
        have BK148 := n0_
        have HB := n1_
        clear n0_ n1_
        (try clear hb)
        (try clear hb2)
        (try clear hk)
        (try clear hi)
        refine hK.out _ _ ⟨(blk_cell BK148.out 0).trans rfl, (blk_cell BK148.out 1).trans rfl, (blk_cell BK148.out 2).trans rfl, (blk_cell BK148.out 3).trans rfl⟩ (fun hHeld => ?_)
        clear hK K
        refine norm_ (a' := ?_) ?_ ?_
        rotate_left
        ·show Act.put _ (some 20) _ = _
         simp only [Act.put, sT_, s0_, sS_, i64_w, i32_w]
         rfl
        refine pu (i := 16) (N := some 21) #[T_,T_,T_,T_,T_,T_,T_,T_,T_,T_,T_,T_,T_,T_,T_,T_,T_,F_] HT_ ?_
        refine pu (i := 17) (N := some 2) #[T_,T_,T_,T_,T_,T_,T_,T_,T_,T_,T_,T_,T_,T_,T_,T_,T_,T_] HT_ ?_
        refine done_ (done_of HT_.out (by kernel_rfl)) ?_
        try go_wp2
        go_ret
        exact ⟨ew_, (hg_ GE148)⟩
       ·rw [if_neg c12] at H
        exact absurd H (by simp)
      ·rw [if_neg c10] at H
       exact absurd H (by simp)
     ·rw [if_neg c9] at H
      exact absurd H (by simp)
    ·rw [if_neg c7] at H
     exact absurd H (by simp)
   ·rw [if_neg c6] at H
    exact absurd H (by simp)
  ·rw [if_neg c4] at H
   exact absurd H (by simp)
 ·replace c3 := Bool.eq_false_iff.mpr c3
  subst c3
  have H1 : (some (⟨#[]⟩ : ByteArray)) = some r := by rw [if_neg (show ¬ (false = true) by decide)] at H; exact H
  clear H
  have H := H1
  clear H1
  obtain rfl := Option.some.inj H
  go_enter Tryd.func36, Tryd.ntmps36
  go_wp2_with (first | ((with_reducible refine gate_dst (N := 1) rfl ?_); refine box_event ?hg (N := 1) ?hd (cs := #[.string a0_0, .int .i64 a0_1, .int .i64 a0_2, .int .i64 a0_3]) (t := 59) ?hr ?_; (case hd => rfl); (case hg => rfl); (case hr => first | (go_simp; done) | (go_simp; rfl)); intro gb148 hg w19 hbox hb; have n0_ := Aside0.mk (below_step hb_ hb); have n1_ := Aside0.mk (hbox); have n2_ := Aside0.mk ((by rw [hg]; exact (below_size hb_) : w.heap.size ≤ gb148)); have n3_ := Aside0.mk ((by rw [hg]; exact (below_size hb_) : w.heap.size ≤ gb148)); clear HB; have HB := n0_; have BK148 := n1_; have GW148 := n2_; have GE148 := n3_; clear n0_ n1_ n2_ n3_; clear hb hbox hg) | ((with_reducible refine gate_callee (f := 95) rfl ?_); refine goesL_ (some 3) rfl rfl Tryd.func95 (by kernel_rfl) rfl #[.pointer (some ⟨gb148, 0, none⟩)] rfl ln_ ?_; (with_reducible refine (spec_l21One.calls k _ a0_0 a0_1 a0_2 a0_3 false _ ?side1 ?side2 ?side3 ?side4 A2.out).mono ?_); (case side1 => exact (blk_cell (cs := #[.string a0_0, .int .i64 a0_1, .int .i64 a0_2, .int .i64 a0_3]) (bk_ BK148) 0).trans rfl); (case side2 => exact (blk_cell (cs := #[.string a0_0, .int .i64 a0_1, .int .i64 a0_2, .int .i64 a0_3]) (bk_ BK148) 1).trans rfl); (case side3 => exact (blk_cell (cs := #[.string a0_0, .int .i64 a0_1, .int .i64 a0_2, .int .i64 a0_3]) (bk_ BK148) 2).trans rfl); (case side4 => exact (blk_cell (cs := #[.string a0_0, .int .i64 a0_1, .int .i64 a0_2, .int .i64 a0_3]) (bk_ BK148) 3).trans rfl); rintro e w20 ⟨rfl, hb⟩; refine ⟨_, rfl, ?_⟩; have n0_ := Aside0.mk (blk_below (g := gb148) (o := .cells #[.string a0_0, .int .i64 a0_1, .int .i64 a0_2, .int .i64 a0_3] 59 (0, 0)) (bk_ BK148) hb); have n1_ := Aside0.mk (below_step (hg_ GE148) hb); clear BK148; clear HB; have BK148 := n0_; have HB := n1_; clear n0_ n1_; (try clear hb); (try clear hb2); (try clear hk); (try clear hi)))
  go_ret
  exact ⟨ew_, (hg_ GE148)⟩

/-! ### impl_validGear: function 97 -/
def impl_validGear.f (k : Nat) (a0_0 : ByteArray) (a0_1 : Int) (a0_2 : Int) (a0_3 : Int) : Option (Bool) := (impl_IsName.f k a0_0).bind fun t157 => (if t157 = true then ((impl_within.f a0_1 0 20000).bind fun t158 => (if t158 = true then ((impl_within.f a0_2 0 1000).bind fun t159 => (if t159 = true then ((impl_within.f a0_3 1 1000000).bind fun t160 => (some t160)) else (some false))) else (some false))) else (some false))
set_option maxHeartbeats 8000000 in
set_option maxRecDepth 100000 in
theorem impl_validGear.calls (k : Nat) (a0_0 : ByteArray) (a0_1 : Int) (a0_2 : Int) (a0_3 : Int) (r : Bool) (w : World) (h : impl_validGear.f k a0_0 a0_1 a0_2 a0_3 = some r) :
  Calls Tryd.prog 97 #[.agg #[.string a0_0, .int .i64 a0_1, .int .i64 a0_2, .int .i64 a0_3]] w fun e w' => e = .returned (.bool r) ∧ Below w.heap.size w w' := by
 have hu59 := Tryd.underlying59
 have HB := Aside0.mk (Below.refl w.heap.size w)
 have H : ((impl_IsName.f k a0_0).bind fun t157 => (if t157 = true then ((impl_within.f a0_1 0 20000).bind fun t158 => (if t158 = true then ((impl_within.f a0_2 0 1000).bind fun t159 => (if t159 = true then ((impl_within.f a0_3 1 1000000).bind fun t160 => (some t160)) else (some false))) else (some false))) else (some false))) = some r := h
 clear h
 replace H := Option.bind_eq_some_iff.mp H
 obtain ⟨t157, A20, H⟩ := H
 replace H : (if t157 = true then ((impl_within.f a0_1 0 20000).bind fun t158 => (if t158 = true then ((impl_within.f a0_2 0 1000).bind fun t159 => (if t159 = true then ((impl_within.f a0_3 1 1000000).bind fun t160 => (some t160)) else (some false))) else (some false))) else (some false)) = some r := H
 have A2 := Aside0.mk A20
 clear A20
 by_cases c3 : t157 = true
 ·subst c3
  have H1 : ((impl_within.f a0_1 0 20000).bind fun t158 => (if t158 = true then ((impl_within.f a0_2 0 1000).bind fun t159 => (if t159 = true then ((impl_within.f a0_3 1 1000000).bind fun t160 => (some t160)) else (some false))) else (some false))) = some r := by rw [if_pos rfl] at H; exact H
  clear H
  have H := H1
  clear H1
  replace H := Option.bind_eq_some_iff.mp H
  obtain ⟨t158, A40, H⟩ := H
  replace H : (if t158 = true then ((impl_within.f a0_2 0 1000).bind fun t159 => (if t159 = true then ((impl_within.f a0_3 1 1000000).bind fun t160 => (some t160)) else (some false))) else (some false)) = some r := H
  have A4 := Aside0.mk A40
  clear A40
  by_cases c5 : t158 = true
  ·subst c5
   have H1 : ((impl_within.f a0_2 0 1000).bind fun t159 => (if t159 = true then ((impl_within.f a0_3 1 1000000).bind fun t160 => (some t160)) else (some false))) = some r := by rw [if_pos rfl] at H; exact H
   clear H
   have H := H1
   clear H1
   replace H := Option.bind_eq_some_iff.mp H
   obtain ⟨t159, A60, H⟩ := H
   replace H : (if t159 = true then ((impl_within.f a0_3 1 1000000).bind fun t160 => (some t160)) else (some false)) = some r := H
   have A6 := Aside0.mk A60
   clear A60
   by_cases c7 : t159 = true
   ·subst c7
    have H1 : ((impl_within.f a0_3 1 1000000).bind fun t160 => (some t160)) = some r := by rw [if_pos rfl] at H; exact H
    clear H
    have H := H1
    clear H1
    replace H := Option.bind_eq_some_iff.mp H
    obtain ⟨t160, A80, H⟩ := H
    replace H : (some t160) = some r := H
    have A8 := Aside0.mk A80
    clear A80
    obtain rfl := Option.some.inj H
    go_enter Tryd.func97, Tryd.ntmps97
    go_wp2_with (first | ((with_reducible refine gate_dst (N := 1) rfl ?_); refine box_event ?hg (N := 1) ?hd (cs := #[.string a0_0, .int .i64 a0_1, .int .i64 a0_2, .int .i64 a0_3]) (t := 59) ?hr ?_; (case hd => rfl); (case hg => rfl); (case hr => first | (go_simp; done) | (go_simp; rfl)); intro gb156 hg w9 hbox hb; have n0_ := Aside0.mk (below_step hb_ hb); have n1_ := Aside0.mk (hbox); have n2_ := Aside0.mk ((by rw [hg]; exact (below_size hb_) : w.heap.size ≤ gb156)); have n3_ := Aside0.mk ((by rw [hg]; exact (below_size hb_) : w.heap.size ≤ gb156)); clear HB; have HB := n0_; have BK156 := n1_; have GW156 := n2_; have GE156 := n3_; clear n0_ n1_ n2_ n3_; clear hb hbox hg; have hcz10_0 : w9.cell? ⟨gb156, 0, none⟩ = some (.string a0_0) := (blk_cell BK156.out 0).trans rfl; have hcz10_1 : w9.cell? ⟨gb156, 1, none⟩ = some (.int .i64 a0_1) := (blk_cell BK156.out 1).trans rfl; have hcz10_2 : w9.cell? ⟨gb156, 2, none⟩ = some (.int .i64 a0_2) := (blk_cell BK156.out 2).trans rfl; have hcz10_3 : w9.cell? ⟨gb156, 3, none⟩ = some (.int .i64 a0_3) := (blk_cell BK156.out 3).trans rfl; have hfz10_0 := blk_frozen BK156.out 0; have hfz10_1 := blk_frozen BK156.out 1; have hfz10_2 := blk_frozen BK156.out 2; have hfz10_3 := blk_frozen BK156.out 3) | ((with_reducible refine gate_callee (f := 79) rfl ?_); refine goesL_ (some 5) rfl rfl Tryd.func79 (by kernel_rfl) rfl #[.string a0_0] rfl ln_ ?_; (with_reducible refine (impl_IsName.calls k a0_0 true _ A2.out).mono ?_); rintro e w' ⟨rfl, ⟨nd, rfl⟩⟩; refine ⟨_, rfl, ?_⟩) | (go_at_call 87; (with_reducible refine (impl_within.calls a0_1 0 20000 true _ A4.out).mono ?_); rintro e w' ⟨rfl, ⟨nd, rfl⟩⟩) | (go_at_call 87; (with_reducible refine (impl_within.calls a0_2 0 1000 true _ A6.out).mono ?_); rintro e w' ⟨rfl, ⟨nd, rfl⟩⟩) | (go_at_call 87; (with_reducible refine (impl_within.calls a0_3 1 1000000 t160 _ A8.out).mono ?_); rintro e w' ⟨rfl, ⟨nd, rfl⟩⟩))
    go_ret
    exact ⟨ew_, (hg_ GE156)⟩
   ·replace c7 := Bool.eq_false_iff.mpr c7
    subst c7
    have H1 : (some false) = some r := by rw [if_neg (show ¬ (false = true) by decide)] at H; exact H
    clear H
    have H := H1
    clear H1
    obtain rfl := Option.some.inj H
    go_enter Tryd.func97, Tryd.ntmps97
    go_wp2_with (first | ((with_reducible refine gate_dst (N := 1) rfl ?_); refine box_event ?hg (N := 1) ?hd (cs := #[.string a0_0, .int .i64 a0_1, .int .i64 a0_2, .int .i64 a0_3]) (t := 59) ?hr ?_; (case hd => rfl); (case hg => rfl); (case hr => first | (go_simp; done) | (go_simp; rfl)); intro gb156 hg w11 hbox hb; have n0_ := Aside0.mk (below_step hb_ hb); have n1_ := Aside0.mk (hbox); have n2_ := Aside0.mk ((by rw [hg]; exact (below_size hb_) : w.heap.size ≤ gb156)); have n3_ := Aside0.mk ((by rw [hg]; exact (below_size hb_) : w.heap.size ≤ gb156)); clear HB; have HB := n0_; have BK156 := n1_; have GW156 := n2_; have GE156 := n3_; clear n0_ n1_ n2_ n3_; clear hb hbox hg; have hcz12_0 : w11.cell? ⟨gb156, 0, none⟩ = some (.string a0_0) := (blk_cell BK156.out 0).trans rfl; have hcz12_1 : w11.cell? ⟨gb156, 1, none⟩ = some (.int .i64 a0_1) := (blk_cell BK156.out 1).trans rfl; have hcz12_2 : w11.cell? ⟨gb156, 2, none⟩ = some (.int .i64 a0_2) := (blk_cell BK156.out 2).trans rfl; have hcz12_3 : w11.cell? ⟨gb156, 3, none⟩ = some (.int .i64 a0_3) := (blk_cell BK156.out 3).trans rfl; have hfz12_0 := blk_frozen BK156.out 0; have hfz12_1 := blk_frozen BK156.out 1; have hfz12_2 := blk_frozen BK156.out 2; have hfz12_3 := blk_frozen BK156.out 3) | ((with_reducible refine gate_callee (f := 79) rfl ?_); refine goesL_ (some 5) rfl rfl Tryd.func79 (by kernel_rfl) rfl #[.string a0_0] rfl ln_ ?_; (with_reducible refine (impl_IsName.calls k a0_0 true _ A2.out).mono ?_); rintro e w' ⟨rfl, ⟨nd, rfl⟩⟩; refine ⟨_, rfl, ?_⟩) | (go_at_call 87; (with_reducible refine (impl_within.calls a0_1 0 20000 true _ A4.out).mono ?_); rintro e w' ⟨rfl, ⟨nd, rfl⟩⟩) | (go_at_call 87; (with_reducible refine (impl_within.calls a0_2 0 1000 false _ A6.out).mono ?_); rintro e w' ⟨rfl, ⟨nd, rfl⟩⟩))
    go_ret
    exact ⟨ew_, (hg_ GE156)⟩
  ·replace c5 := Bool.eq_false_iff.mpr c5
   subst c5
   have H1 : (some false) = some r := by rw [if_neg (show ¬ (false = true) by decide)] at H; exact H
   clear H
   have H := H1
   clear H1
   obtain rfl := Option.some.inj H
   go_enter Tryd.func97, Tryd.ntmps97
   go_wp2_with (first | ((with_reducible refine gate_dst (N := 1) rfl ?_); refine box_event ?hg (N := 1) ?hd (cs := #[.string a0_0, .int .i64 a0_1, .int .i64 a0_2, .int .i64 a0_3]) (t := 59) ?hr ?_; (case hd => rfl); (case hg => rfl); (case hr => first | (go_simp; done) | (go_simp; rfl)); intro gb156 hg w13 hbox hb; have n0_ := Aside0.mk (below_step hb_ hb); have n1_ := Aside0.mk (hbox); have n2_ := Aside0.mk ((by rw [hg]; exact (below_size hb_) : w.heap.size ≤ gb156)); have n3_ := Aside0.mk ((by rw [hg]; exact (below_size hb_) : w.heap.size ≤ gb156)); clear HB; have HB := n0_; have BK156 := n1_; have GW156 := n2_; have GE156 := n3_; clear n0_ n1_ n2_ n3_; clear hb hbox hg; have hcz14_0 : w13.cell? ⟨gb156, 0, none⟩ = some (.string a0_0) := (blk_cell BK156.out 0).trans rfl; have hcz14_1 : w13.cell? ⟨gb156, 1, none⟩ = some (.int .i64 a0_1) := (blk_cell BK156.out 1).trans rfl; have hcz14_2 : w13.cell? ⟨gb156, 2, none⟩ = some (.int .i64 a0_2) := (blk_cell BK156.out 2).trans rfl; have hcz14_3 : w13.cell? ⟨gb156, 3, none⟩ = some (.int .i64 a0_3) := (blk_cell BK156.out 3).trans rfl; have hfz14_0 := blk_frozen BK156.out 0; have hfz14_1 := blk_frozen BK156.out 1; have hfz14_2 := blk_frozen BK156.out 2; have hfz14_3 := blk_frozen BK156.out 3) | ((with_reducible refine gate_callee (f := 79) rfl ?_); refine goesL_ (some 5) rfl rfl Tryd.func79 (by kernel_rfl) rfl #[.string a0_0] rfl ln_ ?_; (with_reducible refine (impl_IsName.calls k a0_0 true _ A2.out).mono ?_); rintro e w' ⟨rfl, ⟨nd, rfl⟩⟩; refine ⟨_, rfl, ?_⟩) | (go_at_call 87; (with_reducible refine (impl_within.calls a0_1 0 20000 false _ A4.out).mono ?_); rintro e w' ⟨rfl, ⟨nd, rfl⟩⟩))
   go_ret
   exact ⟨ew_, (hg_ GE156)⟩
 ·replace c3 := Bool.eq_false_iff.mpr c3
  subst c3
  have H1 : (some false) = some r := by rw [if_neg (show ¬ (false = true) by decide)] at H; exact H
  clear H
  have H := H1
  clear H1
  obtain rfl := Option.some.inj H
  go_enter Tryd.func97, Tryd.ntmps97
  go_wp2_with (first | ((with_reducible refine gate_dst (N := 1) rfl ?_); refine box_event ?hg (N := 1) ?hd (cs := #[.string a0_0, .int .i64 a0_1, .int .i64 a0_2, .int .i64 a0_3]) (t := 59) ?hr ?_; (case hd => rfl); (case hg => rfl); (case hr => first | (go_simp; done) | (go_simp; rfl)); intro gb156 hg w15 hbox hb; have n0_ := Aside0.mk (below_step hb_ hb); have n1_ := Aside0.mk (hbox); have n2_ := Aside0.mk ((by rw [hg]; exact (below_size hb_) : w.heap.size ≤ gb156)); have n3_ := Aside0.mk ((by rw [hg]; exact (below_size hb_) : w.heap.size ≤ gb156)); clear HB; have HB := n0_; have BK156 := n1_; have GW156 := n2_; have GE156 := n3_; clear n0_ n1_ n2_ n3_; clear hb hbox hg; have hcz16_0 : w15.cell? ⟨gb156, 0, none⟩ = some (.string a0_0) := (blk_cell BK156.out 0).trans rfl; have hcz16_1 : w15.cell? ⟨gb156, 1, none⟩ = some (.int .i64 a0_1) := (blk_cell BK156.out 1).trans rfl; have hcz16_2 : w15.cell? ⟨gb156, 2, none⟩ = some (.int .i64 a0_2) := (blk_cell BK156.out 2).trans rfl; have hcz16_3 : w15.cell? ⟨gb156, 3, none⟩ = some (.int .i64 a0_3) := (blk_cell BK156.out 3).trans rfl; have hfz16_0 := blk_frozen BK156.out 0; have hfz16_1 := blk_frozen BK156.out 1; have hfz16_2 := blk_frozen BK156.out 2; have hfz16_3 := blk_frozen BK156.out 3) | ((with_reducible refine gate_callee (f := 79) rfl ?_); refine goesL_ (some 5) rfl rfl Tryd.func79 (by kernel_rfl) rfl #[.string a0_0] rfl ln_ ?_; (with_reducible refine (impl_IsName.calls k a0_0 false _ A2.out).mono ?_); rintro e w' ⟨rfl, ⟨nd, rfl⟩⟩; refine ⟨_, rfl, ?_⟩))
  go_ret
  exact ⟨ew_, (hg_ GE156)⟩

/-! ### impl_GearText: function 38 -/
def impl_GearText.f (k : Nat) (a0_0 : ByteArray) (a0_1 : Int) (a0_2 : Int) (a0_3 : Int) : Option (ByteArray) := (impl_validGear.f k a0_0 a0_1 a0_2 a0_3).bind fun t162 => (if t162 = true then (if a0_0.size + 8 ≤ 9223372036854775807 then ((impl_Decimal.f a0_1).bind fun t163 => (if a0_0.size + 8 + t163.size ≤ 9223372036854775807 then (if a0_0.size + 8 + t163.size + 7 ≤ 9223372036854775807 then ((impl_Decimal.f a0_2).bind fun t164 => (if a0_0.size + 8 + t163.size + 7 + t164.size ≤ 9223372036854775807 then (if a0_0.size + 8 + t163.size + 7 + t164.size + 8 ≤ 9223372036854775807 then ((impl_Decimal.f a0_3).bind fun t165 => (if a0_0.size + 8 + t163.size + 7 + t164.size + 8 + t165.size ≤ 9223372036854775807 then (some ((((((a0_0 ++ (⟨#[32, 102, 105, 116, 116, 101, 100, 32]⟩ : ByteArray)) ++ t163) ++ (⟨#[32, 119, 101, 97, 114, 115, 32]⟩ : ByteArray)) ++ t164) ++ (⟨#[32, 115, 116, 97, 110, 100, 115, 32]⟩ : ByteArray)) ++ t165)) else (none))) else (none)) else (none))) else (none)) else (none))) else (none)) else (some (⟨#[]⟩ : ByteArray)))
def impl_GearText.T3 : Bool × List (List Nat × List Nat) := (true, [([], []), ([0], [0]), ([1], [1]), ([], []), ([3], [3]), ([4], [4]), ([2, 5], [2, 5]), ([6], [6]), ([], []), ([8], [8]), ([9, 5], [9]), ([7, 10], [7, 10]), ([11], [11]), ([], []), ([13], [13]), ([14, 10], [14]), ([12, 15], [12, 15]), ([16, 15, 0, 1, 2, 3, 4, 5, 6, 7, 8, 9, 10, 11, 12, 13, 14, 15, 16], [16])])
def impl_GearText.B3 : List Nat := [0, 1, 3, 0, 8, 24, 63, 127, 0, 256, 824, 2047, 4095, 0, 8192, 26424, 65535, 131071]
theorem impl_GearText.tab3 : rtab .any (opsOf Tryd.f38 3) = impl_GearText.T3 := by kernel_rfl
theorem impl_GearText.bits3 : waitsOk impl_GearText.T3.2 impl_GearText.B3 = true := by kernel_rfl
set_option maxHeartbeats 8000000 in
set_option maxRecDepth 100000 in
theorem impl_GearText.calls (k : Nat) (a0_0 : ByteArray) (a0_1 : Int) (a0_2 : Int) (a0_3 : Int) (r : ByteArray) (w : World) (hT : TB w) (h : impl_GearText.f k a0_0 a0_1 a0_2 a0_3 = some r) :
  Calls Tryd.prog 38 #[.agg #[.string a0_0, .int .i64 a0_1, .int .i64 a0_2, .int .i64 a0_3]] w fun e w' => e = .returned (.string r) ∧ Below w.heap.size w w' := by
 have hu59 := Tryd.underlying59
 have HT := Aside0.mk hT
 clear hT
 have HB := Aside0.mk (Below.refl w.heap.size w)
 have H : ((impl_validGear.f k a0_0 a0_1 a0_2 a0_3).bind fun t162 => (if t162 = true then (if a0_0.size + 8 ≤ 9223372036854775807 then ((impl_Decimal.f a0_1).bind fun t163 => (if a0_0.size + 8 + t163.size ≤ 9223372036854775807 then (if a0_0.size + 8 + t163.size + 7 ≤ 9223372036854775807 then ((impl_Decimal.f a0_2).bind fun t164 => (if a0_0.size + 8 + t163.size + 7 + t164.size ≤ 9223372036854775807 then (if a0_0.size + 8 + t163.size + 7 + t164.size + 8 ≤ 9223372036854775807 then ((impl_Decimal.f a0_3).bind fun t165 => (if a0_0.size + 8 + t163.size + 7 + t164.size + 8 + t165.size ≤ 9223372036854775807 then (some ((((((a0_0 ++ (⟨#[32, 102, 105, 116, 116, 101, 100, 32]⟩ : ByteArray)) ++ t163) ++ (⟨#[32, 119, 101, 97, 114, 115, 32]⟩ : ByteArray)) ++ t164) ++ (⟨#[32, 115, 116, 97, 110, 100, 115, 32]⟩ : ByteArray)) ++ t165)) else (none))) else (none)) else (none))) else (none)) else (none))) else (none)) else (some (⟨#[]⟩ : ByteArray)))) = some r := h
 clear h
 replace H := Option.bind_eq_some_iff.mp H
 obtain ⟨t162, A20, H⟩ := H
 replace H : (if t162 = true then (if a0_0.size + 8 ≤ 9223372036854775807 then ((impl_Decimal.f a0_1).bind fun t163 => (if a0_0.size + 8 + t163.size ≤ 9223372036854775807 then (if a0_0.size + 8 + t163.size + 7 ≤ 9223372036854775807 then ((impl_Decimal.f a0_2).bind fun t164 => (if a0_0.size + 8 + t163.size + 7 + t164.size ≤ 9223372036854775807 then (if a0_0.size + 8 + t163.size + 7 + t164.size + 8 ≤ 9223372036854775807 then ((impl_Decimal.f a0_3).bind fun t165 => (if a0_0.size + 8 + t163.size + 7 + t164.size + 8 + t165.size ≤ 9223372036854775807 then (some ((((((a0_0 ++ (⟨#[32, 102, 105, 116, 116, 101, 100, 32]⟩ : ByteArray)) ++ t163) ++ (⟨#[32, 119, 101, 97, 114, 115, 32]⟩ : ByteArray)) ++ t164) ++ (⟨#[32, 115, 116, 97, 110, 100, 115, 32]⟩ : ByteArray)) ++ t165)) else (none))) else (none)) else (none))) else (none)) else (none))) else (none)) else (some (⟨#[]⟩ : ByteArray))) = some r := H
 have A2 := Aside0.mk A20
 clear A20
 by_cases c3 : t162 = true
 ·subst c3
  have H1 : (if a0_0.size + 8 ≤ 9223372036854775807 then ((impl_Decimal.f a0_1).bind fun t163 => (if a0_0.size + 8 + t163.size ≤ 9223372036854775807 then (if a0_0.size + 8 + t163.size + 7 ≤ 9223372036854775807 then ((impl_Decimal.f a0_2).bind fun t164 => (if a0_0.size + 8 + t163.size + 7 + t164.size ≤ 9223372036854775807 then (if a0_0.size + 8 + t163.size + 7 + t164.size + 8 ≤ 9223372036854775807 then ((impl_Decimal.f a0_3).bind fun t165 => (if a0_0.size + 8 + t163.size + 7 + t164.size + 8 + t165.size ≤ 9223372036854775807 then (some ((((((a0_0 ++ (⟨#[32, 102, 105, 116, 116, 101, 100, 32]⟩ : ByteArray)) ++ t163) ++ (⟨#[32, 119, 101, 97, 114, 115, 32]⟩ : ByteArray)) ++ t164) ++ (⟨#[32, 115, 116, 97, 110, 100, 115, 32]⟩ : ByteArray)) ++ t165)) else (none))) else (none)) else (none))) else (none)) else (none))) else (none)) = some r := by rw [if_pos rfl] at H; exact H
  clear H
  have H := H1
  clear H1
  by_cases c4 : a0_0.size + 8 ≤ 9223372036854775807
  ·rw [if_pos c4] at H
   have c4b0 := eq_true c4
   have c4b1 : decide (a0_0.size + 8 ≤ 9223372036854775807) = true := decide_eq_true c4
   try have c4b2 : (9223372036854775807 < a0_0.size + 8) = False := eq_false (Nat.not_lt.2 c4)
   replace H := Option.bind_eq_some_iff.mp H
   obtain ⟨t163, A50, H⟩ := H
   replace H : (if a0_0.size + 8 + t163.size ≤ 9223372036854775807 then (if a0_0.size + 8 + t163.size + 7 ≤ 9223372036854775807 then ((impl_Decimal.f a0_2).bind fun t164 => (if a0_0.size + 8 + t163.size + 7 + t164.size ≤ 9223372036854775807 then (if a0_0.size + 8 + t163.size + 7 + t164.size + 8 ≤ 9223372036854775807 then ((impl_Decimal.f a0_3).bind fun t165 => (if a0_0.size + 8 + t163.size + 7 + t164.size + 8 + t165.size ≤ 9223372036854775807 then (some ((((((a0_0 ++ (⟨#[32, 102, 105, 116, 116, 101, 100, 32]⟩ : ByteArray)) ++ t163) ++ (⟨#[32, 119, 101, 97, 114, 115, 32]⟩ : ByteArray)) ++ t164) ++ (⟨#[32, 115, 116, 97, 110, 100, 115, 32]⟩ : ByteArray)) ++ t165)) else (none))) else (none)) else (none))) else (none)) else (none)) = some r := H
   have A5 := Aside0.mk A50
   clear A50
   by_cases c6 : a0_0.size + 8 + t163.size ≤ 9223372036854775807
   ·rw [if_pos c6] at H
    have c6b0 := eq_true c6
    have c6b1 : decide (a0_0.size + 8 + t163.size ≤ 9223372036854775807) = true := decide_eq_true c6
    try have c6b2 : (9223372036854775807 < a0_0.size + 8 + t163.size) = False := eq_false (Nat.not_lt.2 c6)
    by_cases c7 : a0_0.size + 8 + t163.size + 7 ≤ 9223372036854775807
    ·rw [if_pos c7] at H
     have c7b0 := eq_true c7
     have c7b1 : decide (a0_0.size + 8 + t163.size + 7 ≤ 9223372036854775807) = true := decide_eq_true c7
     try have c7b2 : (9223372036854775807 < a0_0.size + 8 + t163.size + 7) = False := eq_false (Nat.not_lt.2 c7)
     replace H := Option.bind_eq_some_iff.mp H
     obtain ⟨t164, A80, H⟩ := H
     replace H : (if a0_0.size + 8 + t163.size + 7 + t164.size ≤ 9223372036854775807 then (if a0_0.size + 8 + t163.size + 7 + t164.size + 8 ≤ 9223372036854775807 then ((impl_Decimal.f a0_3).bind fun t165 => (if a0_0.size + 8 + t163.size + 7 + t164.size + 8 + t165.size ≤ 9223372036854775807 then (some ((((((a0_0 ++ (⟨#[32, 102, 105, 116, 116, 101, 100, 32]⟩ : ByteArray)) ++ t163) ++ (⟨#[32, 119, 101, 97, 114, 115, 32]⟩ : ByteArray)) ++ t164) ++ (⟨#[32, 115, 116, 97, 110, 100, 115, 32]⟩ : ByteArray)) ++ t165)) else (none))) else (none)) else (none)) = some r := H
     have A8 := Aside0.mk A80
     clear A80
     by_cases c9 : a0_0.size + 8 + t163.size + 7 + t164.size ≤ 9223372036854775807
     ·rw [if_pos c9] at H
      have c9b0 := eq_true c9
      have c9b1 : decide (a0_0.size + 8 + t163.size + 7 + t164.size ≤ 9223372036854775807) = true := decide_eq_true c9
      try have c9b2 : (9223372036854775807 < a0_0.size + 8 + t163.size + 7 + t164.size) = False := eq_false (Nat.not_lt.2 c9)
      by_cases c10 : a0_0.size + 8 + t163.size + 7 + t164.size + 8 ≤ 9223372036854775807
      ·rw [if_pos c10] at H
       have c10b0 := eq_true c10
       have c10b1 : decide (a0_0.size + 8 + t163.size + 7 + t164.size + 8 ≤ 9223372036854775807) = true := decide_eq_true c10
       try have c10b2 : (9223372036854775807 < a0_0.size + 8 + t163.size + 7 + t164.size + 8) = False := eq_false (Nat.not_lt.2 c10)
       replace H := Option.bind_eq_some_iff.mp H
       obtain ⟨t165, A110, H⟩ := H
       replace H : (if a0_0.size + 8 + t163.size + 7 + t164.size + 8 + t165.size ≤ 9223372036854775807 then (some ((((((a0_0 ++ (⟨#[32, 102, 105, 116, 116, 101, 100, 32]⟩ : ByteArray)) ++ t163) ++ (⟨#[32, 119, 101, 97, 114, 115, 32]⟩ : ByteArray)) ++ t164) ++ (⟨#[32, 115, 116, 97, 110, 100, 115, 32]⟩ : ByteArray)) ++ t165)) else (none)) = some r := H
       have A11 := Aside0.mk A110
       clear A110
       by_cases c12 : a0_0.size + 8 + t163.size + 7 + t164.size + 8 + t165.size ≤ 9223372036854775807
       ·rw [if_pos c12] at H
        have c12b0 := eq_true c12
        have c12b1 : decide (a0_0.size + 8 + t163.size + 7 + t164.size + 8 + t165.size ≤ 9223372036854775807) = true := decide_eq_true c12
        try have c12b2 : (9223372036854775807 < a0_0.size + 8 + t163.size + 7 + t164.size + 8 + t165.size) = False := eq_false (Nat.not_lt.2 c12)
        obtain rfl := Option.some.inj H
        go_enter Tryd.func38, Tryd.ntmps38
        try go_wp2_with (first | ((with_reducible refine gate_dst (N := 1) rfl ?_); refine box_event ?hg (N := 1) ?hd (cs := #[.string a0_0, .int .i64 a0_1, .int .i64 a0_2, .int .i64 a0_3]) (t := 59) ?hr ?_; (case hd => rfl); (case hg => rfl); (case hr => first | (go_simp; done) | (go_simp; rfl)); intro gb161 hg w13 hbox hb; have n0_ := Aside0.mk (below_step hb_ hb); have n1_ := Aside0.mk (hbox); have n2_ := Aside0.mk ((by rw [hg]; exact (below_size hb_) : w.heap.size ≤ gb161)); have n3_ := Aside0.mk ((by rw [hg]; exact (below_size hb_) : w.heap.size ≤ gb161)); clear HB; have HB := n0_; have BK161 := n1_; have GW161 := n2_; have GE161 := n3_; clear n0_ n1_ n2_ n3_; clear hb hbox hg; have hcz14_0 : w13.cell? ⟨gb161, 0, none⟩ = some (.string a0_0) := (blk_cell BK161.out 0).trans rfl; have hcz14_1 : w13.cell? ⟨gb161, 1, none⟩ = some (.int .i64 a0_1) := (blk_cell BK161.out 1).trans rfl; have hcz14_2 : w13.cell? ⟨gb161, 2, none⟩ = some (.int .i64 a0_2) := (blk_cell BK161.out 2).trans rfl; have hcz14_3 : w13.cell? ⟨gb161, 3, none⟩ = some (.int .i64 a0_3) := (blk_cell BK161.out 3).trans rfl; have hfz14_0 := blk_frozen BK161.out 0; have hfz14_1 := blk_frozen BK161.out 1; have hfz14_2 := blk_frozen BK161.out 2; have hfz14_3 := blk_frozen BK161.out 3) | ((with_reducible refine gate_callee (f := 97) rfl ?_); refine goesL_ (some 4) rfl rfl Tryd.func97 (by kernel_rfl) rfl #[.agg #[.string a0_0, .int .i64 a0_1, .int .i64 a0_2, .int .i64 a0_3]] rfl ln_ ?_; (with_reducible refine (impl_validGear.calls k a0_0 a0_1 a0_2 a0_3 true _ A2.out).mono ?_); rintro e w15 ⟨rfl, hb⟩; refine ⟨_, rfl, ?_⟩; have n0_ := Aside0.mk (blk_below (g := gb161) (o := .cells #[.string a0_0, .int .i64 a0_1, .int .i64 a0_2, .int .i64 a0_3] 59 (0, 0)) (bk_ BK161) hb); have n1_ := Aside0.mk (below_step (hg_ GE161) hb); clear BK161; clear HB; have BK161 := n0_; have HB := n1_; clear n0_ n1_; (try clear hb); (try clear hb2); (try clear hk); (try clear hi)))
        have n0_ := Aside0.mk (blk_drew BK161.out)
        have n1_ := Aside0.mk (below_drew1 HB.out)
        clear BK161
        clear HB
        have BK161 := n0_
        have HB := n1_
        clear n0_ n1_
        refine start_ (n := 18) (S := fun w' => w'.cell? ⟨gb161, 0, none⟩ = some (.string a0_0) ∧ w'.cell? ⟨gb161, 1, none⟩ = some (.int .i64 a0_1) ∧ w'.cell? ⟨gb161, 2, none⟩ = some (.int .i64 a0_2) ∧ w'.cell? ⟨gb161, 3, none⟩ = some (.int .i64 a0_3)) (ds := []) #[F_,F_,F_,F_,F_,F_,F_,F_,F_,F_,F_,F_,F_,F_,F_,F_,F_,F_] (by kernel_rfl) rfl rfl ⟨(blk_cell BK161.out 0).trans rfl, (blk_cell BK161.out 1).trans rfl, (blk_cell BK161.out 2).trans rfl, (blk_cell BK161.out 3).trans rfl⟩ (fun hHeld => ?_); refine with_tabW impl_GearText.tab3 impl_GearText.bits3 (fun HT_ HW_ => ?_)
        generalize w15.drew = w16 at BK161 HB hHeld ⊢
        refine pu (i := 0) (N := some 6) #[T_,F_,F_,F_,F_,F_,F_,F_,F_,F_,F_,F_,F_,F_,F_,F_,F_,F_] HT_ ?_
        refine pu (i := 3) (N := some 9) #[T_,F_,F_,T_,F_,F_,F_,F_,F_,F_,F_,F_,F_,F_,F_,F_,F_,F_] HT_ ?_
        refine pu (i := 8) (N := some 14) #[T_,F_,F_,T_,F_,F_,F_,F_,T_,F_,F_,F_,F_,F_,F_,F_,F_,F_] HT_ ?_
        refine pu (i := 13) (N := some 19) #[T_,F_,F_,T_,F_,F_,F_,F_,T_,F_,F_,F_,F_,T_,F_,F_,F_,F_] HT_ ?_
        refine take_ (i := 1) (N := some 7) (v := ?_) (a' := ?_) #[T_,T_,F_,T_,F_,F_,F_,F_,T_,F_,F_,F_,F_,T_,F_,F_,F_,F_] rfl rfl (take_ofW HT_.out HW_.out (by kernel_rfl)) (fun _ _ _ h => h) (Or.inl ⟨by rfl, ?_⟩) hHeld ?_ ?_
        rotate_left
        ·rintro w' ⟨s0, s1, s2, s3⟩
         go_simp
         with_reducible rfl
        rotate_left
        ·simp only [Act.put, sT_, s0_, sS_, i64_w, i32_w]
         rfl
        refine pu (i := 2) (N := some 8) #[T_,T_,T_,T_,F_,F_,F_,F_,T_,F_,F_,F_,F_,T_,F_,F_,F_,F_] HT_ ?_
        refine take_ (i := 4) (N := some 10) (v := ?_) (a' := ?_) #[T_,T_,T_,T_,T_,F_,F_,F_,T_,F_,F_,F_,F_,T_,F_,F_,F_,F_] rfl rfl (take_ofW HT_.out HW_.out (by kernel_rfl)) (fun _ _ _ h => h) (Or.inl ⟨by rfl, ?_⟩) hHeld ?_ ?_
        rotate_left
        ·rintro w' ⟨s0, s1, s2, s3⟩
         go_simp
         with_reducible rfl
        rotate_left
        ·simp only [Act.put, sT_, s0_, sS_, i64_w, i32_w]
         rfl
        refine take_ (i := 9) (N := some 15) (v := ?_) (a' := ?_) #[T_,T_,T_,T_,T_,F_,F_,F_,T_,T_,F_,F_,F_,T_,F_,F_,F_,F_] rfl rfl (take_ofW HT_.out HW_.out (by kernel_rfl)) (fun _ _ _ h => h) (Or.inl ⟨by rfl, ?_⟩) hHeld ?_ ?_
        rotate_left
        ·rintro w' ⟨s0, s1, s2, s3⟩
         go_simp
         with_reducible rfl
        rotate_left
        ·simp only [Act.put, sT_, s0_, sS_, i64_w, i32_w]
         rfl
        refine take_ (i := 14) (N := some 20) (v := ?_) (a' := ?_) #[T_,T_,T_,T_,T_,F_,F_,F_,T_,T_,F_,F_,F_,T_,T_,F_,F_,F_] rfl rfl (take_ofW HT_.out HW_.out (by kernel_rfl)) (fun _ _ _ h => h) (Or.inl ⟨by rfl, ?_⟩) hHeld ?_ ?_
        rotate_left
        ·rintro w' ⟨s0, s1, s2, s3⟩
         go_simp
         with_reducible rfl
        rotate_left
        ·simp only [Act.put, sT_, s0_, sS_, i64_w, i32_w]
         rfl
        refine one_ (i := 5) (N := some 11) #[T_,T_,T_,T_,T_,T_,F_,F_,T_,T_,F_,F_,F_,T_,T_,F_,F_,F_] rfl rfl (one_of HT_.out (by kernel_rfl)) (by decide) (fun K hK => ?_)
        refine goes_ Tryd.func90 (by kernel_rfl) rfl #[.int .i64 a0_1] (by rfl) rfl rfl ln_ ?_
        with_reducible refine (impl_Decimal.calls a0_1 t163 _ ?side1 A5.out).mono ?_
        (case side1 => first | exact HT.out | exact TB.below HT.out HB.out | (repeat (first | exact HT.out | exact TB.below HT.out HB.out | apply TB.drewN | apply TB.drew)))
        rintro e w17 ⟨rfl, hb⟩
        refine ⟨_, rfl, ?_⟩
        have n0_ := Aside0.mk (blk_below (g := gb161) (o := .cells #[.string a0_0, .int .i64 a0_1, .int .i64 a0_2, .int .i64 a0_3] 59 (0, 0)) (bk_ BK161) hb)
        have n1_ := Aside0.mk (below_step (hg_ GE161) hb)
        clear BK161
        clear HB
        have BK161 := n0_
        have HB := n1_
        clear n0_ n1_
        (try clear hb)
        (try clear hb2)
        (try clear hk)
        (try clear hi)
        refine hK.out _ _ ⟨(blk_cell BK161.out 0).trans rfl, (blk_cell BK161.out 1).trans rfl, (blk_cell BK161.out 2).trans rfl, (blk_cell BK161.out 3).trans rfl⟩ (fun hHeld => ?_)
        clear hK K
        refine norm_ (a' := ?_) ?_ ?_
        rotate_left
        ·show Act.put _ (some 11) _ = _
         simp only [Act.put, sT_, s0_, sS_, i64_w, i32_w]
         rfl
        refine pu (i := 6) (N := some 12) #[T_,T_,T_,T_,T_,T_,T_,F_,T_,T_,F_,F_,F_,T_,T_,F_,F_,F_] HT_ ?_
        refine pu (i := 7) (N := some 13) #[T_,T_,T_,T_,T_,T_,T_,T_,T_,T_,F_,F_,F_,T_,T_,F_,F_,F_] HT_ ?_
        refine one_ (i := 10) (N := some 16) #[T_,T_,T_,T_,T_,T_,T_,T_,T_,T_,T_,F_,F_,T_,T_,F_,F_,F_] rfl rfl (one_of HT_.out (by kernel_rfl)) (by decide) (fun K hK => ?_)
        refine goes_ Tryd.func90 (by kernel_rfl) rfl #[.int .i64 a0_2] (by rfl) rfl rfl ln_ ?_
        with_reducible refine (impl_Decimal.calls a0_2 t164 _ ?side1 A8.out).mono ?_
        (case side1 => first | exact HT.out | exact TB.below HT.out HB.out | (repeat (first | exact HT.out | exact TB.below HT.out HB.out | apply TB.drewN | apply TB.drew)))
        rintro e w18 ⟨rfl, hb⟩
        refine ⟨_, rfl, ?_⟩
        have n0_ := Aside0.mk (blk_below (g := gb161) (o := .cells #[.string a0_0, .int .i64 a0_1, .int .i64 a0_2, .int .i64 a0_3] 59 (0, 0)) (bk_ BK161) hb)
        have n1_ := Aside0.mk (below_step (hg_ GE161) hb)
        clear BK161
        clear HB
        have BK161 := n0_
        have HB := n1_
        clear n0_ n1_
        (try clear hb)
        (try clear hb2)
        (try clear hk)
        (try clear hi)
        refine hK.out _ _ ⟨(blk_cell BK161.out 0).trans rfl, (blk_cell BK161.out 1).trans rfl, (blk_cell BK161.out 2).trans rfl, (blk_cell BK161.out 3).trans rfl⟩ (fun hHeld => ?_)
        clear hK K
        refine norm_ (a' := ?_) ?_ ?_
        rotate_left
        ·show Act.put _ (some 16) _ = _
         simp only [Act.put, sT_, s0_, sS_, i64_w, i32_w]
         rfl
        refine pu (i := 11) (N := some 17) #[T_,T_,T_,T_,T_,T_,T_,T_,T_,T_,T_,T_,F_,T_,T_,F_,F_,F_] HT_ ?_
        refine pu (i := 12) (N := some 18) #[T_,T_,T_,T_,T_,T_,T_,T_,T_,T_,T_,T_,T_,T_,T_,F_,F_,F_] HT_ ?_
        refine one_ (i := 15) (N := some 21) #[T_,T_,T_,T_,T_,T_,T_,T_,T_,T_,T_,T_,T_,T_,T_,T_,F_,F_] rfl rfl (one_of HT_.out (by kernel_rfl)) (by decide) (fun K hK => ?_)
        refine goes_ Tryd.func90 (by kernel_rfl) rfl #[.int .i64 a0_3] (by rfl) rfl rfl ln_ ?_
        with_reducible refine (impl_Decimal.calls a0_3 t165 _ ?side1 A11.out).mono ?_
        (case side1 => first | exact HT.out | exact TB.below HT.out HB.out | (repeat (first | exact HT.out | exact TB.below HT.out HB.out | apply TB.drewN | apply TB.drew)))
        rintro e w19 ⟨rfl, hb⟩
        refine ⟨_, rfl, ?_⟩
        have n0_ := Aside0.mk (blk_below (g := gb161) (o := .cells #[.string a0_0, .int .i64 a0_1, .int .i64 a0_2, .int .i64 a0_3] 59 (0, 0)) (bk_ BK161) hb)
        have n1_ := Aside0.mk (below_step (hg_ GE161) hb)
        clear BK161
        clear HB
        have BK161 := n0_
        have HB := n1_
        clear n0_ n1_
        (try clear hb)
        (try clear hb2)
        (try clear hk)
        (try clear hi)
        refine hK.out _ _ ⟨(blk_cell BK161.out 0).trans rfl, (blk_cell BK161.out 1).trans rfl, (blk_cell BK161.out 2).trans rfl, (blk_cell BK161.out 3).trans rfl⟩ (fun hHeld => ?_)
        clear hK K
        refine norm_ (a' := ?_) ?_ ?_
        rotate_left
        ·show Act.put _ (some 21) _ = _
         simp only [Act.put, sT_, s0_, sS_, i64_w, i32_w]
         rfl
        refine pu (i := 16) (N := some 22) #[T_,T_,T_,T_,T_,T_,T_,T_,T_,T_,T_,T_,T_,T_,T_,T_,T_,F_] HT_ ?_
        refine pu (i := 17) (N := some 2) #[T_,T_,T_,T_,T_,T_,T_,T_,T_,T_,T_,T_,T_,T_,T_,T_,T_,T_] HT_ ?_
        refine done_ (done_of HT_.out (by kernel_rfl)) ?_
        try go_wp2
        go_ret
        exact ⟨ew_, (hg_ GE161)⟩
       ·rw [if_neg c12] at H
        exact absurd H (by simp)
      ·rw [if_neg c10] at H
       exact absurd H (by simp)
     ·rw [if_neg c9] at H
      exact absurd H (by simp)
    ·rw [if_neg c7] at H
     exact absurd H (by simp)
   ·rw [if_neg c6] at H
    exact absurd H (by simp)
  ·rw [if_neg c4] at H
   exact absurd H (by simp)
 ·replace c3 := Bool.eq_false_iff.mpr c3
  subst c3
  have H1 : (some (⟨#[]⟩ : ByteArray)) = some r := by rw [if_neg (show ¬ (false = true) by decide)] at H; exact H
  clear H
  have H := H1
  clear H1
  obtain rfl := Option.some.inj H
  go_enter Tryd.func38, Tryd.ntmps38
  go_wp2_with (first | ((with_reducible refine gate_dst (N := 1) rfl ?_); refine box_event ?hg (N := 1) ?hd (cs := #[.string a0_0, .int .i64 a0_1, .int .i64 a0_2, .int .i64 a0_3]) (t := 59) ?hr ?_; (case hd => rfl); (case hg => rfl); (case hr => first | (go_simp; done) | (go_simp; rfl)); intro gb161 hg w20 hbox hb; have n0_ := Aside0.mk (below_step hb_ hb); have n1_ := Aside0.mk (hbox); have n2_ := Aside0.mk ((by rw [hg]; exact (below_size hb_) : w.heap.size ≤ gb161)); have n3_ := Aside0.mk ((by rw [hg]; exact (below_size hb_) : w.heap.size ≤ gb161)); clear HB; have HB := n0_; have BK161 := n1_; have GW161 := n2_; have GE161 := n3_; clear n0_ n1_ n2_ n3_; clear hb hbox hg; have hcz21_0 : w20.cell? ⟨gb161, 0, none⟩ = some (.string a0_0) := (blk_cell BK161.out 0).trans rfl; have hcz21_1 : w20.cell? ⟨gb161, 1, none⟩ = some (.int .i64 a0_1) := (blk_cell BK161.out 1).trans rfl; have hcz21_2 : w20.cell? ⟨gb161, 2, none⟩ = some (.int .i64 a0_2) := (blk_cell BK161.out 2).trans rfl; have hcz21_3 : w20.cell? ⟨gb161, 3, none⟩ = some (.int .i64 a0_3) := (blk_cell BK161.out 3).trans rfl; have hfz21_0 := blk_frozen BK161.out 0; have hfz21_1 := blk_frozen BK161.out 1; have hfz21_2 := blk_frozen BK161.out 2; have hfz21_3 := blk_frozen BK161.out 3) | ((with_reducible refine gate_callee (f := 97) rfl ?_); refine goesL_ (some 4) rfl rfl Tryd.func97 (by kernel_rfl) rfl #[.agg #[.string a0_0, .int .i64 a0_1, .int .i64 a0_2, .int .i64 a0_3]] rfl ln_ ?_; (with_reducible refine (impl_validGear.calls k a0_0 a0_1 a0_2 a0_3 false _ A2.out).mono ?_); rintro e w22 ⟨rfl, hb⟩; refine ⟨_, rfl, ?_⟩; have n0_ := Aside0.mk (blk_below (g := gb161) (o := .cells #[.string a0_0, .int .i64 a0_1, .int .i64 a0_2, .int .i64 a0_3] 59 (0, 0)) (bk_ BK161) hb); have n1_ := Aside0.mk (below_step (hg_ GE161) hb); clear BK161; clear HB; have BK161 := n0_; have HB := n1_; clear n0_ n1_; (try clear hb); (try clear hb2); (try clear hk); (try clear hi)))
  go_ret
  exact ⟨ew_, (hg_ GE161)⟩

end Go.Proofs.YtfenjlkopofopaaDoor.P
end
