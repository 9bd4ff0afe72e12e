/- Texts of this claim, packed: Px6. -/
import Derived.Test.YtfenjlkopofopaaZFnWear7
section
-- Written by gprint.py (own program, over the printer of the kit) out of the translation. Lean checks it.
namespace Go.Proofs.Ytfenjlkopofopaa.P
open Go.RowKit Go.Proofs.YtfenjlkopofopaaW.PrintWords Go.Proofs.YtfenjlkopofopaaW.PrintLast Go.Proofs.YtfenjlkopofopaaW.PrintMore Go.Proofs.YtfenjlkopofopaaW.Pk
open Bool renaming true → T_, false → F_
open List renaming setIfInBounds_toArray → sT_, set_cons_zero → s0_, set_cons_succ → sS_
attribute [local go_sem] max2_int min2_int max_two min_two max_three min_three max_four min_four   -- for this text's walks alone
set_option linter.unusedVariables false
set_option linter.unusedSimpArgs false

/-! ### laws_FnWear: function 5 -/
mutual
def laws_FnWear.j0 : Nat → List (S72) → List (S75) → ByteArray → Int → Int → Int → List (S72) → List (S75) → ByteArray → Int → Int → List (S72) → List (S75) → Int → Int → List ByteArray → Int → Int → Bool → Option (Bool)
 | 0, _, _, _, _, _, _, _, _, _, _, _, _, _, _, _, _, _, _, _ => none
 | k + 1, x3, x4, x5, x6, x8, x9, x11, x12, x13, x15, x16, x18, x19, x20, x22, x23, x27, x29, x170 => if x170 = true then (some false) else (if x22 = 0 then (laws_FnWear.l0 k x3 x4 x5 x6 x8 x9 x11 x12 x13 x15 x16 x18 x19 x20 x23 x27 x29 0) else (laws_FnWear.j2 k x3 x4 x5 x6 x8 x9 x11 x12 x13 x15 x16 x27 x29))
def laws_FnWear.j2 : Nat → List (S72) → List (S75) → ByteArray → Int → Int → Int → List (S72) → List (S75) → ByteArray → Int → Int → Int → Int → Option (Bool)
 | 0, _, _, _, _, _, _, _, _, _, _, _, _, _ => none
 | k + 1, x3, x4, x5, x6, x8, x9, x11, x12, x13, x15, x16, x27, x29 => if x15 = 0 then ((impl_WearOn.f k x11 x12 x13 x16).bind fun bt616 => (laws_FnWear.l1 k x3 x4 x5 x6 x8 x9 x11 x13 x16 x27 x29 bt616.1 bt616.2 0 0)) else (laws_FnWear.j4 k x3 x4 x5 x6 x8 x9)
def laws_FnWear.j4 : Nat → List (S72) → List (S75) → ByteArray → Int → Int → Int → Option (Bool)
 | 0, _, _, _, _, _, _ => none
 | k + 1, x3, x4, x5, x6, x8, x9 => if x8 = 0 then (laws_FnWear.j5 k x3 x4 x5 x6 x9 (x6 == 20000)) else (laws_FnWear.j5 k x3 x4 x5 x6 x9 true)
def laws_FnWear.j5 : Nat → List (S72) → List (S75) → ByteArray → Int → Int → Bool → Option (Bool)
 | 0, _, _, _, _, _, _ => none
 | k + 1, x3, x4, x5, x6, x9, x259 => if x259 = true then (some true) else ((impl_WearOn.f k x3 x4 x5 (wrap64 (x6 + 1))).bind fun bt620 => (if bt620.2 = 0 then (laws_FnWear.l2 k x4 x5 x6 x9 bt620.1 0) else (some false)))
def laws_FnWear.l2 : Nat → List (S75) → ByteArray → Int → Int → Int → Int → Option (Bool)
 | 0, _, _, _, _, _, _ => none
 | k + 1, x4, x5, x6, x9, x38, x40 => if x40 < (x4.length : Int) then (if 0 ≤ x40 then (if ((rd_T75 x4 x40).f0).toList = x5.toList then (if ((rd_T75 x4 x40).f1) = (wrap64 (x6 + 1)) then (some (x38 == ((rd_T75 x4 x40).f2))) else (laws_FnWear.l2 k x4 x5 x6 x9 x38 (wrap64 (x40 + 1)))) else (laws_FnWear.l2 k x4 x5 x6 x9 x38 (wrap64 (x40 + 1)))) else (none)) else (some (decide (x38 ≥ x9)))
def laws_FnWear.l1 : Nat → List (S72) → List (S75) → ByteArray → Int → Int → Int → List (S72) → ByteArray → Int → Int → Int → Int → Int → Int → Int → Option (Bool)
 | 0, _, _, _, _, _, _, _, _, _, _, _, _, _, _, _ => none
 | k + 1, x3, x4, x5, x6, x8, x9, x11, x13, x16, x27, x29, x34, x35, x36, x37 => if x37 < (x11.length : Int) then (if 0 ≤ x37 then (if ((rd_T72 x11 x37).f0).toList = x13.toList then (laws_FnWear.l1 k x3 x4 x5 x6 x8 x9 x11 x13 x16 x27 x29 x34 x35 ((rd_T72 x11 x37).f3) (wrap64 (x37 + 1))) else (laws_FnWear.l1 k x3 x4 x5 x6 x8 x9 x11 x13 x16 x27 x29 x34 x35 x36 (wrap64 (x37 + 1)))) else (none)) else (if x35 = 0 then (if x34 ≤ x36 then (some false) else (if x27 = 0 then (if x29 > x16 then (some false) else (laws_FnWear.j4 k x3 x4 x5 x6 x8 x9)) else (some false))) else (some false))
def laws_FnWear.l0 : Nat → List (S72) → List (S75) → ByteArray → Int → Int → Int → List (S72) → List (S75) → ByteArray → Int → Int → List (S72) → List (S75) → Int → List ByteArray → Int → Int → Int → Option (Bool)
 | 0, _, _, _, _, _, _, _, _, _, _, _, _, _, _, _, _, _, _ => none
 | k + 1, x3, x4, x5, x6, x8, x9, x11, x12, x13, x15, x16, x18, x19, x20, x23, x27, x29, x31 => if x31 < (x18.length : Int) then (if 0 ≤ x31 then ((impl_WearOn.f k x18 x19 ((rd_T72 x18 x31).f0) x20).bind fun bt611 => (if bt611.2 = 0 then ((laws_f6word.f k x23 ((rd_T72 x18 x31).f0)).bind fun t615 => (if ((decide (bt611.1 > ((rd_T72 x18 x31).f3))) != t615) = true then (some false) else (laws_FnWear.l0 k x3 x4 x5 x6 x8 x9 x11 x12 x13 x15 x16 x18 x19 x20 x23 x27 x29 (wrap64 (x31 + 1))))) else (some false))) else (none)) else (laws_FnWear.j2 k x3 x4 x5 x6 x8 x9 x11 x12 x13 x15 x16 x27 x29)
end
def laws_FnWear.f (k : Nat) (l0 : List Int) : Option (Bool) := (laws_f6big.f l0).bind fun t562 => (if t562 = true then (some true) else ((spec_DrawWearOn.f k l0).bind fun bt563 => ((impl_WearOn.f k bt563.1 bt563.2.1 bt563.2.2.1 bt563.2.2.2).bind fun bt571 => ((spec_WearOn.f k bt563.1 bt563.2.1 bt563.2.2.1 bt563.2.2.2).bind fun bt573 => ((spec_DrawDayOfEnd.f k l0).bind fun bt575 => ((impl_DayOfEnd.f k bt575.1 bt575.2.1 bt575.2.2).bind fun bt582 => ((spec_DayOfEnd.f k bt575.1 bt575.2.1 bt575.2.2).bind fun bt584 => ((spec_DrawWornOn.f k l0).bind fun bt586 => ((impl_WornOn.f k bt586.1 bt586.2.1 bt586.2.2).bind fun bt593 => ((spec_WornOn.f k bt586.1 bt586.2.1 bt586.2.2).bind fun bt597 => ((impl_NextToFail.f k bt575.1 bt575.2.1).bind fun bt601 => ((spec_NextToFail.f k bt575.1 bt575.2.1).bind fun bt604 => (if bt571.2 = bt573.2 then (if bt571.1 = bt573.1 then (if bt582.2 = bt584.2 then (if bt582.1 = bt584.1 then (if bt593.2 = bt597.2 then ((laws_f6texts.f k bt593.1 bt597.1).bind fun t607 => (if t607 = true then (if bt601.2.2 = bt604.2.2 then (if bt601.1.toList = bt604.1.toList then (if bt601.2.1 = bt604.2.1 then ((impl_ValidGear.f k bt563.1).bind fun t608 => ((spec_ValidGear.f k bt563.1).bind fun t609 => (laws_FnWear.j0 k bt563.1 bt563.2.1 bt563.2.2.1 bt563.2.2.2 bt571.2 bt573.1 bt575.1 bt575.2.1 bt575.2.2 bt582.2 bt584.1 bt586.1 bt586.2.1 bt586.2.2 bt593.2 bt597.1 bt601.2.2 bt604.2.1 (t608 != t609)))) else (laws_FnWear.j0 k bt563.1 bt563.2.1 bt563.2.2.1 bt563.2.2.2 bt571.2 bt573.1 bt575.1 bt575.2.1 bt575.2.2 bt582.2 bt584.1 bt586.1 bt586.2.1 bt586.2.2 bt593.2 bt597.1 bt601.2.2 bt604.2.1 true)) else (laws_FnWear.j0 k bt563.1 bt563.2.1 bt563.2.2.1 bt563.2.2.2 bt571.2 bt573.1 bt575.1 bt575.2.1 bt575.2.2 bt582.2 bt584.1 bt586.1 bt586.2.1 bt586.2.2 bt593.2 bt597.1 bt601.2.2 bt604.2.1 true)) else (laws_FnWear.j0 k bt563.1 bt563.2.1 bt563.2.2.1 bt563.2.2.2 bt571.2 bt573.1 bt575.1 bt575.2.1 bt575.2.2 bt582.2 bt584.1 bt586.1 bt586.2.1 bt586.2.2 bt593.2 bt597.1 bt601.2.2 bt604.2.1 true)) else (laws_FnWear.j0 k bt563.1 bt563.2.1 bt563.2.2.1 bt563.2.2.2 bt571.2 bt573.1 bt575.1 bt575.2.1 bt575.2.2 bt582.2 bt584.1 bt586.1 bt586.2.1 bt586.2.2 bt593.2 bt597.1 bt601.2.2 bt604.2.1 true))) else (laws_FnWear.j0 k bt563.1 bt563.2.1 bt563.2.2.1 bt563.2.2.2 bt571.2 bt573.1 bt575.1 bt575.2.1 bt575.2.2 bt582.2 bt584.1 bt586.1 bt586.2.1 bt586.2.2 bt593.2 bt597.1 bt601.2.2 bt604.2.1 true)) else (laws_FnWear.j0 k bt563.1 bt563.2.1 bt563.2.2.1 bt563.2.2.2 bt571.2 bt573.1 bt575.1 bt575.2.1 bt575.2.2 bt582.2 bt584.1 bt586.1 bt586.2.1 bt586.2.2 bt593.2 bt597.1 bt601.2.2 bt604.2.1 true)) else (laws_FnWear.j0 k bt563.1 bt563.2.1 bt563.2.2.1 bt563.2.2.2 bt571.2 bt573.1 bt575.1 bt575.2.1 bt575.2.2 bt582.2 bt584.1 bt586.1 bt586.2.1 bt586.2.2 bt593.2 bt597.1 bt601.2.2 bt604.2.1 true)) else (laws_FnWear.j0 k bt563.1 bt563.2.1 bt563.2.2.1 bt563.2.2.2 bt571.2 bt573.1 bt575.1 bt575.2.1 bt575.2.2 bt582.2 bt584.1 bt586.1 bt586.2.1 bt586.2.2 bt593.2 bt597.1 bt601.2.2 bt604.2.1 true)) else (laws_FnWear.j0 k bt563.1 bt563.2.1 bt563.2.2.1 bt563.2.2.2 bt571.2 bt573.1 bt575.1 bt575.2.1 bt575.2.2 bt582.2 bt584.1 bt586.1 bt586.2.1 bt586.2.2 bt593.2 bt597.1 bt601.2.2 bt604.2.1 true))))))))))))))
set_option maxHeartbeats 8000000 in
set_option maxRecDepth 100000 in
theorem laws_FnWear.calls (k : Nat) (A0 : Option Addr) (c0 : Nat) (l0 : List Int) (r : Bool) (w : World) (hr0 : Kd.C (Kd.int .u8) w A0 l0.length l0) (hc0 : l0.length ≤ c0) (h : laws_FnWear.f k l0 = some r) :
  Calls Try.prog 5 #[.slice A0 l0.length c0] w fun e w' => e = .returned (.bool r) ∧ Below w.heap.size w w' := by
 have HR0 := ak_ hr0
 have HC0 := ak_ hc0
 clear hr0 hc0
 have HB := ak_ (Below.refl w.heap.size w)
 have H : ((laws_f6big.f l0).bind fun t562 => (if t562 = true then (some true) else ((spec_DrawWearOn.f k l0).bind fun bt563 => ((impl_WearOn.f k bt563.1 bt563.2.1 bt563.2.2.1 bt563.2.2.2).bind fun bt571 => ((spec_WearOn.f k bt563.1 bt563.2.1 bt563.2.2.1 bt563.2.2.2).bind fun bt573 => ((spec_DrawDayOfEnd.f k l0).bind fun bt575 => ((impl_DayOfEnd.f k bt575.1 bt575.2.1 bt575.2.2).bind fun bt582 => ((spec_DayOfEnd.f k bt575.1 bt575.2.1 bt575.2.2).bind fun bt584 => ((spec_DrawWornOn.f k l0).bind fun bt586 => ((impl_WornOn.f k bt586.1 bt586.2.1 bt586.2.2).bind fun bt593 => ((spec_WornOn.f k bt586.1 bt586.2.1 bt586.2.2).bind fun bt597 => ((impl_NextToFail.f k bt575.1 bt575.2.1).bind fun bt601 => ((spec_NextToFail.f k bt575.1 bt575.2.1).bind fun bt604 => (if bt571.2 = bt573.2 then (if bt571.1 = bt573.1 then (if bt582.2 = bt584.2 then (if bt582.1 = bt584.1 then (if bt593.2 = bt597.2 then ((laws_f6texts.f k bt593.1 bt597.1).bind fun t607 => (if t607 = true then (if bt601.2.2 = bt604.2.2 then (if bt601.1.toList = bt604.1.toList then (if bt601.2.1 = bt604.2.1 then ((impl_ValidGear.f k bt563.1).bind fun t608 => ((spec_ValidGear.f k bt563.1).bind fun t609 => (laws_FnWear.j0 k bt563.1 bt563.2.1 bt563.2.2.1 bt563.2.2.2 bt571.2 bt573.1 bt575.1 bt575.2.1 bt575.2.2 bt582.2 bt584.1 bt586.1 bt586.2.1 bt586.2.2 bt593.2 bt597.1 bt601.2.2 bt604.2.1 (t608 != t609)))) else (laws_FnWear.j0 k bt563.1 bt563.2.1 bt563.2.2.1 bt563.2.2.2 bt571.2 bt573.1 bt575.1 bt575.2.1 bt575.2.2 bt582.2 bt584.1 bt586.1 bt586.2.1 bt586.2.2 bt593.2 bt597.1 bt601.2.2 bt604.2.1 true)) else (laws_FnWear.j0 k bt563.1 bt563.2.1 bt563.2.2.1 bt563.2.2.2 bt571.2 bt573.1 bt575.1 bt575.2.1 bt575.2.2 bt582.2 bt584.1 bt586.1 bt586.2.1 bt586.2.2 bt593.2 bt597.1 bt601.2.2 bt604.2.1 true)) else (laws_FnWear.j0 k bt563.1 bt563.2.1 bt563.2.2.1 bt563.2.2.2 bt571.2 bt573.1 bt575.1 bt575.2.1 bt575.2.2 bt582.2 bt584.1 bt586.1 bt586.2.1 bt586.2.2 bt593.2 bt597.1 bt601.2.2 bt604.2.1 true)) else (laws_FnWear.j0 k bt563.1 bt563.2.1 bt563.2.2.1 bt563.2.2.2 bt571.2 bt573.1 bt575.1 bt575.2.1 bt575.2.2 bt582.2 bt584.1 bt586.1 bt586.2.1 bt586.2.2 bt593.2 bt597.1 bt601.2.2 bt604.2.1 true))) else (laws_FnWear.j0 k bt563.1 bt563.2.1 bt563.2.2.1 bt563.2.2.2 bt571.2 bt573.1 bt575.1 bt575.2.1 bt575.2.2 bt582.2 bt584.1 bt586.1 bt586.2.1 bt586.2.2 bt593.2 bt597.1 bt601.2.2 bt604.2.1 true)) else (laws_FnWear.j0 k bt563.1 bt563.2.1 bt563.2.2.1 bt563.2.2.2 bt571.2 bt573.1 bt575.1 bt575.2.1 bt575.2.2 bt582.2 bt584.1 bt586.1 bt586.2.1 bt586.2.2 bt593.2 bt597.1 bt601.2.2 bt604.2.1 true)) else (laws_FnWear.j0 k bt563.1 bt563.2.1 bt563.2.2.1 bt563.2.2.2 bt571.2 bt573.1 bt575.1 bt575.2.1 bt575.2.2 bt582.2 bt584.1 bt586.1 bt586.2.1 bt586.2.2 bt593.2 bt597.1 bt601.2.2 bt604.2.1 true)) else (laws_FnWear.j0 k bt563.1 bt563.2.1 bt563.2.2.1 bt563.2.2.2 bt571.2 bt573.1 bt575.1 bt575.2.1 bt575.2.2 bt582.2 bt584.1 bt586.1 bt586.2.1 bt586.2.2 bt593.2 bt597.1 bt601.2.2 bt604.2.1 true)) else (laws_FnWear.j0 k bt563.1 bt563.2.1 bt563.2.2.1 bt563.2.2.2 bt571.2 bt573.1 bt575.1 bt575.2.1 bt575.2.2 bt582.2 bt584.1 bt586.1 bt586.2.1 bt586.2.2 bt593.2 bt597.1 bt601.2.2 bt604.2.1 true))))))))))))))) = some r := h
 clear h
 replace H := ob_ H
 obtain ⟨t562, A20, H⟩ := H
 replace H : (if t562 = true then (some true) else ((spec_DrawWearOn.f k l0).bind fun bt563 => ((impl_WearOn.f k bt563.1 bt563.2.1 bt563.2.2.1 bt563.2.2.2).bind fun bt571 => ((spec_WearOn.f k bt563.1 bt563.2.1 bt563.2.2.1 bt563.2.2.2).bind fun bt573 => ((spec_DrawDayOfEnd.f k l0).bind fun bt575 => ((impl_DayOfEnd.f k bt575.1 bt575.2.1 bt575.2.2).bind fun bt582 => ((spec_DayOfEnd.f k bt575.1 bt575.2.1 bt575.2.2).bind fun bt584 => ((spec_DrawWornOn.f k l0).bind fun bt586 => ((impl_WornOn.f k bt586.1 bt586.2.1 bt586.2.2).bind fun bt593 => ((spec_WornOn.f k bt586.1 bt586.2.1 bt586.2.2).bind fun bt597 => ((impl_NextToFail.f k bt575.1 bt575.2.1).bind fun bt601 => ((spec_NextToFail.f k bt575.1 bt575.2.1).bind fun bt604 => (if bt571.2 = bt573.2 then (if bt571.1 = bt573.1 then (if bt582.2 = bt584.2 then (if bt582.1 = bt584.1 then (if bt593.2 = bt597.2 then ((laws_f6texts.f k bt593.1 bt597.1).bind fun t607 => (if t607 = true then (if bt601.2.2 = bt604.2.2 then (if bt601.1.toList = bt604.1.toList then (if bt601.2.1 = bt604.2.1 then ((impl_ValidGear.f k bt563.1).bind fun t608 => ((spec_ValidGear.f k bt563.1).bind fun t609 => (laws_FnWear.j0 k bt563.1 bt563.2.1 bt563.2.2.1 bt563.2.2.2 bt571.2 bt573.1 bt575.1 bt575.2.1 bt575.2.2 bt582.2 bt584.1 bt586.1 bt586.2.1 bt586.2.2 bt593.2 bt597.1 bt601.2.2 bt604.2.1 (t608 != t609)))) else (laws_FnWear.j0 k bt563.1 bt563.2.1 bt563.2.2.1 bt563.2.2.2 bt571.2 bt573.1 bt575.1 bt575.2.1 bt575.2.2 bt582.2 bt584.1 bt586.1 bt586.2.1 bt586.2.2 bt593.2 bt597.1 bt601.2.2 bt604.2.1 true)) else (laws_FnWear.j0 k bt563.1 bt563.2.1 bt563.2.2.1 bt563.2.2.2 bt571.2 bt573.1 bt575.1 bt575.2.1 bt575.2.2 bt582.2 bt584.1 bt586.1 bt586.2.1 bt586.2.2 bt593.2 bt597.1 bt601.2.2 bt604.2.1 true)) else (laws_FnWear.j0 k bt563.1 bt563.2.1 bt563.2.2.1 bt563.2.2.2 bt571.2 bt573.1 bt575.1 bt575.2.1 bt575.2.2 bt582.2 bt584.1 bt586.1 bt586.2.1 bt586.2.2 bt593.2 bt597.1 bt601.2.2 bt604.2.1 true)) else (laws_FnWear.j0 k bt563.1 bt563.2.1 bt563.2.2.1 bt563.2.2.2 bt571.2 bt573.1 bt575.1 bt575.2.1 bt575.2.2 bt582.2 bt584.1 bt586.1 bt586.2.1 bt586.2.2 bt593.2 bt597.1 bt601.2.2 bt604.2.1 true))) else (laws_FnWear.j0 k bt563.1 bt563.2.1 bt563.2.2.1 bt563.2.2.2 bt571.2 bt573.1 bt575.1 bt575.2.1 bt575.2.2 bt582.2 bt584.1 bt586.1 bt586.2.1 bt586.2.2 bt593.2 bt597.1 bt601.2.2 bt604.2.1 true)) else (laws_FnWear.j0 k bt563.1 bt563.2.1 bt563.2.2.1 bt563.2.2.2 bt571.2 bt573.1 bt575.1 bt575.2.1 bt575.2.2 bt582.2 bt584.1 bt586.1 bt586.2.1 bt586.2.2 bt593.2 bt597.1 bt601.2.2 bt604.2.1 true)) else (laws_FnWear.j0 k bt563.1 bt563.2.1 bt563.2.2.1 bt563.2.2.2 bt571.2 bt573.1 bt575.1 bt575.2.1 bt575.2.2 bt582.2 bt584.1 bt586.1 bt586.2.1 bt586.2.2 bt593.2 bt597.1 bt601.2.2 bt604.2.1 true)) else (laws_FnWear.j0 k bt563.1 bt563.2.1 bt563.2.2.1 bt563.2.2.2 bt571.2 bt573.1 bt575.1 bt575.2.1 bt575.2.2 bt582.2 bt584.1 bt586.1 bt586.2.1 bt586.2.2 bt593.2 bt597.1 bt601.2.2 bt604.2.1 true)) else (laws_FnWear.j0 k bt563.1 bt563.2.1 bt563.2.2.1 bt563.2.2.2 bt571.2 bt573.1 bt575.1 bt575.2.1 bt575.2.2 bt582.2 bt584.1 bt586.1 bt586.2.1 bt586.2.2 bt593.2 bt597.1 bt601.2.2 bt604.2.1 true)))))))))))))) = some r := H
 have A2 := ak_ A20
 clear A20
 by_cases c3 : t562 = true
 ·subst c3
  have H1 : (some true) = some r := by rw [if_pos rfl] at H; exact H
  clear H
  have H := H1
  clear H1
  obtain rfl := Option.some.inj H
  go_enter Try.func5, Try.ntmps5
  go_wp2_with (first | (go_at_call 6; (with_reducible refine (laws_f6big.calls _ _ l0 true _ ?side1 ?side2 A2.out).mono ?_); (case side1 => exact kc_ HR0.out); (case side2 => exact HC0.out); rintro e w' ⟨rfl, ⟨nd, rfl⟩⟩; (try first | exact ⟨rfl, _, World.drewN_drewN _ _ _⟩ | exact ⟨rfl, _, Eq.trans (World.drewN_drewN _ _ _) (congrArg (World.drewN _) (Nat.add_assoc _ _ _))⟩)))
  go_ret
  exact ⟨ew_, hb_⟩
 ·as_aux_lemma =>
   replace c3 := Bool.eq_false_iff.mpr c3
   subst c3
   have H1 : ((spec_DrawWearOn.f k l0).bind fun bt563 => ((impl_WearOn.f k bt563.1 bt563.2.1 bt563.2.2.1 bt563.2.2.2).bind fun bt571 => ((spec_WearOn.f k bt563.1 bt563.2.1 bt563.2.2.1 bt563.2.2.2).bind fun bt573 => ((spec_DrawDayOfEnd.f k l0).bind fun bt575 => ((impl_DayOfEnd.f k bt575.1 bt575.2.1 bt575.2.2).bind fun bt582 => ((spec_DayOfEnd.f k bt575.1 bt575.2.1 bt575.2.2).bind fun bt584 => ((spec_DrawWornOn.f k l0).bind fun bt586 => ((impl_WornOn.f k bt586.1 bt586.2.1 bt586.2.2).bind fun bt593 => ((spec_WornOn.f k bt586.1 bt586.2.1 bt586.2.2).bind fun bt597 => ((impl_NextToFail.f k bt575.1 bt575.2.1).bind fun bt601 => ((spec_NextToFail.f k bt575.1 bt575.2.1).bind fun bt604 => (if bt571.2 = bt573.2 then (if bt571.1 = bt573.1 then (if bt582.2 = bt584.2 then (if bt582.1 = bt584.1 then (if bt593.2 = bt597.2 then ((laws_f6texts.f k bt593.1 bt597.1).bind fun t607 => (if t607 = true then (if bt601.2.2 = bt604.2.2 then (if bt601.1.toList = bt604.1.toList then (if bt601.2.1 = bt604.2.1 then ((impl_ValidGear.f k bt563.1).bind fun t608 => ((spec_ValidGear.f k bt563.1).bind fun t609 => (laws_FnWear.j0 k bt563.1 bt563.2.1 bt563.2.2.1 bt563.2.2.2 bt571.2 bt573.1 bt575.1 bt575.2.1 bt575.2.2 bt582.2 bt584.1 bt586.1 bt586.2.1 bt586.2.2 bt593.2 bt597.1 bt601.2.2 bt604.2.1 (t608 != t609)))) else (laws_FnWear.j0 k bt563.1 bt563.2.1 bt563.2.2.1 bt563.2.2.2 bt571.2 bt573.1 bt575.1 bt575.2.1 bt575.2.2 bt582.2 bt584.1 bt586.1 bt586.2.1 bt586.2.2 bt593.2 bt597.1 bt601.2.2 bt604.2.1 true)) else (laws_FnWear.j0 k bt563.1 bt563.2.1 bt563.2.2.1 bt563.2.2.2 bt571.2 bt573.1 bt575.1 bt575.2.1 bt575.2.2 bt582.2 bt584.1 bt586.1 bt586.2.1 bt586.2.2 bt593.2 bt597.1 bt601.2.2 bt604.2.1 true)) else (laws_FnWear.j0 k bt563.1 bt563.2.1 bt563.2.2.1 bt563.2.2.2 bt571.2 bt573.1 bt575.1 bt575.2.1 bt575.2.2 bt582.2 bt584.1 bt586.1 bt586.2.1 bt586.2.2 bt593.2 bt597.1 bt601.2.2 bt604.2.1 true)) else (laws_FnWear.j0 k bt563.1 bt563.2.1 bt563.2.2.1 bt563.2.2.2 bt571.2 bt573.1 bt575.1 bt575.2.1 bt575.2.2 bt582.2 bt584.1 bt586.1 bt586.2.1 bt586.2.2 bt593.2 bt597.1 bt601.2.2 bt604.2.1 true))) else (laws_FnWear.j0 k bt563.1 bt563.2.1 bt563.2.2.1 bt563.2.2.2 bt571.2 bt573.1 bt575.1 bt575.2.1 bt575.2.2 bt582.2 bt584.1 bt586.1 bt586.2.1 bt586.2.2 bt593.2 bt597.1 bt601.2.2 bt604.2.1 true)) else (laws_FnWear.j0 k bt563.1 bt563.2.1 bt563.2.2.1 bt563.2.2.2 bt571.2 bt573.1 bt575.1 bt575.2.1 bt575.2.2 bt582.2 bt584.1 bt586.1 bt586.2.1 bt586.2.2 bt593.2 bt597.1 bt601.2.2 bt604.2.1 true)) else (laws_FnWear.j0 k bt563.1 bt563.2.1 bt563.2.2.1 bt563.2.2.2 bt571.2 bt573.1 bt575.1 bt575.2.1 bt575.2.2 bt582.2 bt584.1 bt586.1 bt586.2.1 bt586.2.2 bt593.2 bt597.1 bt601.2.2 bt604.2.1 true)) else (laws_FnWear.j0 k bt563.1 bt563.2.1 bt563.2.2.1 bt563.2.2.2 bt571.2 bt573.1 bt575.1 bt575.2.1 bt575.2.2 bt582.2 bt584.1 bt586.1 bt586.2.1 bt586.2.2 bt593.2 bt597.1 bt601.2.2 bt604.2.1 true)) else (laws_FnWear.j0 k bt563.1 bt563.2.1 bt563.2.2.1 bt563.2.2.2 bt571.2 bt573.1 bt575.1 bt575.2.1 bt575.2.2 bt582.2 bt584.1 bt586.1 bt586.2.1 bt586.2.2 bt593.2 bt597.1 bt601.2.2 bt604.2.1 true))))))))))))) = some r := by rw [if_neg (show ¬ (false = true) by decide)] at H; exact H
   clear H
   have H := H1
   clear H1
   replace H := ob_ H
   obtain ⟨⟨t563, t564, t565, t566⟩, A40, H⟩ := H
   replace H : ((impl_WearOn.f k t563 t564 t565 t566).bind fun bt571 => ((spec_WearOn.f k t563 t564 t565 t566).bind fun bt573 => ((spec_DrawDayOfEnd.f k l0).bind fun bt575 => ((impl_DayOfEnd.f k bt575.1 bt575.2.1 bt575.2.2).bind fun bt582 => ((spec_DayOfEnd.f k bt575.1 bt575.2.1 bt575.2.2).bind fun bt584 => ((spec_DrawWornOn.f k l0).bind fun bt586 => ((impl_WornOn.f k bt586.1 bt586.2.1 bt586.2.2).bind fun bt593 => ((spec_WornOn.f k bt586.1 bt586.2.1 bt586.2.2).bind fun bt597 => ((impl_NextToFail.f k bt575.1 bt575.2.1).bind fun bt601 => ((spec_NextToFail.f k bt575.1 bt575.2.1).bind fun bt604 => (if bt571.2 = bt573.2 then (if bt571.1 = bt573.1 then (if bt582.2 = bt584.2 then (if bt582.1 = bt584.1 then (if bt593.2 = bt597.2 then ((laws_f6texts.f k bt593.1 bt597.1).bind fun t607 => (if t607 = true then (if bt601.2.2 = bt604.2.2 then (if bt601.1.toList = bt604.1.toList then (if bt601.2.1 = bt604.2.1 then ((impl_ValidGear.f k t563).bind fun t608 => ((spec_ValidGear.f k t563).bind fun t609 => (laws_FnWear.j0 k t563 t564 t565 t566 bt571.2 bt573.1 bt575.1 bt575.2.1 bt575.2.2 bt582.2 bt584.1 bt586.1 bt586.2.1 bt586.2.2 bt593.2 bt597.1 bt601.2.2 bt604.2.1 (t608 != t609)))) else (laws_FnWear.j0 k t563 t564 t565 t566 bt571.2 bt573.1 bt575.1 bt575.2.1 bt575.2.2 bt582.2 bt584.1 bt586.1 bt586.2.1 bt586.2.2 bt593.2 bt597.1 bt601.2.2 bt604.2.1 true)) else (laws_FnWear.j0 k t563 t564 t565 t566 bt571.2 bt573.1 bt575.1 bt575.2.1 bt575.2.2 bt582.2 bt584.1 bt586.1 bt586.2.1 bt586.2.2 bt593.2 bt597.1 bt601.2.2 bt604.2.1 true)) else (laws_FnWear.j0 k t563 t564 t565 t566 bt571.2 bt573.1 bt575.1 bt575.2.1 bt575.2.2 bt582.2 bt584.1 bt586.1 bt586.2.1 bt586.2.2 bt593.2 bt597.1 bt601.2.2 bt604.2.1 true)) else (laws_FnWear.j0 k t563 t564 t565 t566 bt571.2 bt573.1 bt575.1 bt575.2.1 bt575.2.2 bt582.2 bt584.1 bt586.1 bt586.2.1 bt586.2.2 bt593.2 bt597.1 bt601.2.2 bt604.2.1 true))) else (laws_FnWear.j0 k t563 t564 t565 t566 bt571.2 bt573.1 bt575.1 bt575.2.1 bt575.2.2 bt582.2 bt584.1 bt586.1 bt586.2.1 bt586.2.2 bt593.2 bt597.1 bt601.2.2 bt604.2.1 true)) else (laws_FnWear.j0 k t563 t564 t565 t566 bt571.2 bt573.1 bt575.1 bt575.2.1 bt575.2.2 bt582.2 bt584.1 bt586.1 bt586.2.1 bt586.2.2 bt593.2 bt597.1 bt601.2.2 bt604.2.1 true)) else (laws_FnWear.j0 k t563 t564 t565 t566 bt571.2 bt573.1 bt575.1 bt575.2.1 bt575.2.2 bt582.2 bt584.1 bt586.1 bt586.2.1 bt586.2.2 bt593.2 bt597.1 bt601.2.2 bt604.2.1 true)) else (laws_FnWear.j0 k t563 t564 t565 t566 bt571.2 bt573.1 bt575.1 bt575.2.1 bt575.2.2 bt582.2 bt584.1 bt586.1 bt586.2.1 bt586.2.2 bt593.2 bt597.1 bt601.2.2 bt604.2.1 true)) else (laws_FnWear.j0 k t563 t564 t565 t566 bt571.2 bt573.1 bt575.1 bt575.2.1 bt575.2.2 bt582.2 bt584.1 bt586.1 bt586.2.1 bt586.2.2 bt593.2 bt597.1 bt601.2.2 bt604.2.1 true)))))))))))) = some r := H
   have A4 := ak_ A40
   clear A40
   replace H := ob_ H
   obtain ⟨⟨t571, t572⟩, A50, H⟩ := H
   replace H : ((spec_WearOn.f k t563 t564 t565 t566).bind fun bt573 => ((spec_DrawDayOfEnd.f k l0).bind fun bt575 => ((impl_DayOfEnd.f k bt575.1 bt575.2.1 bt575.2.2).bind fun bt582 => ((spec_DayOfEnd.f k bt575.1 bt575.2.1 bt575.2.2).bind fun bt584 => ((spec_DrawWornOn.f k l0).bind fun bt586 => ((impl_WornOn.f k bt586.1 bt586.2.1 bt586.2.2).bind fun bt593 => ((spec_WornOn.f k bt586.1 bt586.2.1 bt586.2.2).bind fun bt597 => ((impl_NextToFail.f k bt575.1 bt575.2.1).bind fun bt601 => ((spec_NextToFail.f k bt575.1 bt575.2.1).bind fun bt604 => (if t572 = bt573.2 then (if t571 = bt573.1 then (if bt582.2 = bt584.2 then (if bt582.1 = bt584.1 then (if bt593.2 = bt597.2 then ((laws_f6texts.f k bt593.1 bt597.1).bind fun t607 => (if t607 = true then (if bt601.2.2 = bt604.2.2 then (if bt601.1.toList = bt604.1.toList then (if bt601.2.1 = bt604.2.1 then ((impl_ValidGear.f k t563).bind fun t608 => ((spec_ValidGear.f k t563).bind fun t609 => (laws_FnWear.j0 k t563 t564 t565 t566 t572 bt573.1 bt575.1 bt575.2.1 bt575.2.2 bt582.2 bt584.1 bt586.1 bt586.2.1 bt586.2.2 bt593.2 bt597.1 bt601.2.2 bt604.2.1 (t608 != t609)))) else (laws_FnWear.j0 k t563 t564 t565 t566 t572 bt573.1 bt575.1 bt575.2.1 bt575.2.2 bt582.2 bt584.1 bt586.1 bt586.2.1 bt586.2.2 bt593.2 bt597.1 bt601.2.2 bt604.2.1 true)) else (laws_FnWear.j0 k t563 t564 t565 t566 t572 bt573.1 bt575.1 bt575.2.1 bt575.2.2 bt582.2 bt584.1 bt586.1 bt586.2.1 bt586.2.2 bt593.2 bt597.1 bt601.2.2 bt604.2.1 true)) else (laws_FnWear.j0 k t563 t564 t565 t566 t572 bt573.1 bt575.1 bt575.2.1 bt575.2.2 bt582.2 bt584.1 bt586.1 bt586.2.1 bt586.2.2 bt593.2 bt597.1 bt601.2.2 bt604.2.1 true)) else (laws_FnWear.j0 k t563 t564 t565 t566 t572 bt573.1 bt575.1 bt575.2.1 bt575.2.2 bt582.2 bt584.1 bt586.1 bt586.2.1 bt586.2.2 bt593.2 bt597.1 bt601.2.2 bt604.2.1 true))) else (laws_FnWear.j0 k t563 t564 t565 t566 t572 bt573.1 bt575.1 bt575.2.1 bt575.2.2 bt582.2 bt584.1 bt586.1 bt586.2.1 bt586.2.2 bt593.2 bt597.1 bt601.2.2 bt604.2.1 true)) else (laws_FnWear.j0 k t563 t564 t565 t566 t572 bt573.1 bt575.1 bt575.2.1 bt575.2.2 bt582.2 bt584.1 bt586.1 bt586.2.1 bt586.2.2 bt593.2 bt597.1 bt601.2.2 bt604.2.1 true)) else (laws_FnWear.j0 k t563 t564 t565 t566 t572 bt573.1 bt575.1 bt575.2.1 bt575.2.2 bt582.2 bt584.1 bt586.1 bt586.2.1 bt586.2.2 bt593.2 bt597.1 bt601.2.2 bt604.2.1 true)) else (laws_FnWear.j0 k t563 t564 t565 t566 t572 bt573.1 bt575.1 bt575.2.1 bt575.2.2 bt582.2 bt584.1 bt586.1 bt586.2.1 bt586.2.2 bt593.2 bt597.1 bt601.2.2 bt604.2.1 true)) else (laws_FnWear.j0 k t563 t564 t565 t566 t572 bt573.1 bt575.1 bt575.2.1 bt575.2.2 bt582.2 bt584.1 bt586.1 bt586.2.1 bt586.2.2 bt593.2 bt597.1 bt601.2.2 bt604.2.1 true))))))))))) = some r := H
   have A5 := ak_ A50
   clear A50
   replace H := ob_ H
   obtain ⟨⟨t573, t574⟩, A60, H⟩ := H
   replace H : ((spec_DrawDayOfEnd.f k l0).bind fun bt575 => ((impl_DayOfEnd.f k bt575.1 bt575.2.1 bt575.2.2).bind fun bt582 => ((spec_DayOfEnd.f k bt575.1 bt575.2.1 bt575.2.2).bind fun bt584 => ((spec_DrawWornOn.f k l0).bind fun bt586 => ((impl_WornOn.f k bt586.1 bt586.2.1 bt586.2.2).bind fun bt593 => ((spec_WornOn.f k bt586.1 bt586.2.1 bt586.2.2).bind fun bt597 => ((impl_NextToFail.f k bt575.1 bt575.2.1).bind fun bt601 => ((spec_NextToFail.f k bt575.1 bt575.2.1).bind fun bt604 => (if t572 = t574 then (if t571 = t573 then (if bt582.2 = bt584.2 then (if bt582.1 = bt584.1 then (if bt593.2 = bt597.2 then ((laws_f6texts.f k bt593.1 bt597.1).bind fun t607 => (if t607 = true then (if bt601.2.2 = bt604.2.2 then (if bt601.1.toList = bt604.1.toList then (if bt601.2.1 = bt604.2.1 then ((impl_ValidGear.f k t563).bind fun t608 => ((spec_ValidGear.f k t563).bind fun t609 => (laws_FnWear.j0 k t563 t564 t565 t566 t572 t573 bt575.1 bt575.2.1 bt575.2.2 bt582.2 bt584.1 bt586.1 bt586.2.1 bt586.2.2 bt593.2 bt597.1 bt601.2.2 bt604.2.1 (t608 != t609)))) else (laws_FnWear.j0 k t563 t564 t565 t566 t572 t573 bt575.1 bt575.2.1 bt575.2.2 bt582.2 bt584.1 bt586.1 bt586.2.1 bt586.2.2 bt593.2 bt597.1 bt601.2.2 bt604.2.1 true)) else (laws_FnWear.j0 k t563 t564 t565 t566 t572 t573 bt575.1 bt575.2.1 bt575.2.2 bt582.2 bt584.1 bt586.1 bt586.2.1 bt586.2.2 bt593.2 bt597.1 bt601.2.2 bt604.2.1 true)) else (laws_FnWear.j0 k t563 t564 t565 t566 t572 t573 bt575.1 bt575.2.1 bt575.2.2 bt582.2 bt584.1 bt586.1 bt586.2.1 bt586.2.2 bt593.2 bt597.1 bt601.2.2 bt604.2.1 true)) else (laws_FnWear.j0 k t563 t564 t565 t566 t572 t573 bt575.1 bt575.2.1 bt575.2.2 bt582.2 bt584.1 bt586.1 bt586.2.1 bt586.2.2 bt593.2 bt597.1 bt601.2.2 bt604.2.1 true))) else (laws_FnWear.j0 k t563 t564 t565 t566 t572 t573 bt575.1 bt575.2.1 bt575.2.2 bt582.2 bt584.1 bt586.1 bt586.2.1 bt586.2.2 bt593.2 bt597.1 bt601.2.2 bt604.2.1 true)) else (laws_FnWear.j0 k t563 t564 t565 t566 t572 t573 bt575.1 bt575.2.1 bt575.2.2 bt582.2 bt584.1 bt586.1 bt586.2.1 bt586.2.2 bt593.2 bt597.1 bt601.2.2 bt604.2.1 true)) else (laws_FnWear.j0 k t563 t564 t565 t566 t572 t573 bt575.1 bt575.2.1 bt575.2.2 bt582.2 bt584.1 bt586.1 bt586.2.1 bt586.2.2 bt593.2 bt597.1 bt601.2.2 bt604.2.1 true)) else (laws_FnWear.j0 k t563 t564 t565 t566 t572 t573 bt575.1 bt575.2.1 bt575.2.2 bt582.2 bt584.1 bt586.1 bt586.2.1 bt586.2.2 bt593.2 bt597.1 bt601.2.2 bt604.2.1 true)) else (laws_FnWear.j0 k t563 t564 t565 t566 t572 t573 bt575.1 bt575.2.1 bt575.2.2 bt582.2 bt584.1 bt586.1 bt586.2.1 bt586.2.2 bt593.2 bt597.1 bt601.2.2 bt604.2.1 true)))))))))) = some r := H
   have A6 := ak_ A60
   clear A60
   replace H := ob_ H
   obtain ⟨⟨t575, t576, t577⟩, A70, H⟩ := H
   replace H : ((impl_DayOfEnd.f k t575 t576 t577).bind fun bt582 => ((spec_DayOfEnd.f k t575 t576 t577).bind fun bt584 => ((spec_DrawWornOn.f k l0).bind fun bt586 => ((impl_WornOn.f k bt586.1 bt586.2.1 bt586.2.2).bind fun bt593 => ((spec_WornOn.f k bt586.1 bt586.2.1 bt586.2.2).bind fun bt597 => ((impl_NextToFail.f k t575 t576).bind fun bt601 => ((spec_NextToFail.f k t575 t576).bind fun bt604 => (if t572 = t574 then (if t571 = t573 then (if bt582.2 = bt584.2 then (if bt582.1 = bt584.1 then (if bt593.2 = bt597.2 then ((laws_f6texts.f k bt593.1 bt597.1).bind fun t607 => (if t607 = true then (if bt601.2.2 = bt604.2.2 then (if bt601.1.toList = bt604.1.toList then (if bt601.2.1 = bt604.2.1 then ((impl_ValidGear.f k t563).bind fun t608 => ((spec_ValidGear.f k t563).bind fun t609 => (laws_FnWear.j0 k t563 t564 t565 t566 t572 t573 t575 t576 t577 bt582.2 bt584.1 bt586.1 bt586.2.1 bt586.2.2 bt593.2 bt597.1 bt601.2.2 bt604.2.1 (t608 != t609)))) else (laws_FnWear.j0 k t563 t564 t565 t566 t572 t573 t575 t576 t577 bt582.2 bt584.1 bt586.1 bt586.2.1 bt586.2.2 bt593.2 bt597.1 bt601.2.2 bt604.2.1 true)) else (laws_FnWear.j0 k t563 t564 t565 t566 t572 t573 t575 t576 t577 bt582.2 bt584.1 bt586.1 bt586.2.1 bt586.2.2 bt593.2 bt597.1 bt601.2.2 bt604.2.1 true)) else (laws_FnWear.j0 k t563 t564 t565 t566 t572 t573 t575 t576 t577 bt582.2 bt584.1 bt586.1 bt586.2.1 bt586.2.2 bt593.2 bt597.1 bt601.2.2 bt604.2.1 true)) else (laws_FnWear.j0 k t563 t564 t565 t566 t572 t573 t575 t576 t577 bt582.2 bt584.1 bt586.1 bt586.2.1 bt586.2.2 bt593.2 bt597.1 bt601.2.2 bt604.2.1 true))) else (laws_FnWear.j0 k t563 t564 t565 t566 t572 t573 t575 t576 t577 bt582.2 bt584.1 bt586.1 bt586.2.1 bt586.2.2 bt593.2 bt597.1 bt601.2.2 bt604.2.1 true)) else (laws_FnWear.j0 k t563 t564 t565 t566 t572 t573 t575 t576 t577 bt582.2 bt584.1 bt586.1 bt586.2.1 bt586.2.2 bt593.2 bt597.1 bt601.2.2 bt604.2.1 true)) else (laws_FnWear.j0 k t563 t564 t565 t566 t572 t573 t575 t576 t577 bt582.2 bt584.1 bt586.1 bt586.2.1 bt586.2.2 bt593.2 bt597.1 bt601.2.2 bt604.2.1 true)) else (laws_FnWear.j0 k t563 t564 t565 t566 t572 t573 t575 t576 t577 bt582.2 bt584.1 bt586.1 bt586.2.1 bt586.2.2 bt593.2 bt597.1 bt601.2.2 bt604.2.1 true)) else (laws_FnWear.j0 k t563 t564 t565 t566 t572 t573 t575 t576 t577 bt582.2 bt584.1 bt586.1 bt586.2.1 bt586.2.2 bt593.2 bt597.1 bt601.2.2 bt604.2.1 true))))))))) = some r := H
   have A7 := ak_ A70
   clear A70
   replace H := ob_ H
   obtain ⟨⟨t582, t583⟩, A80, H⟩ := H
   replace H : ((spec_DayOfEnd.f k t575 t576 t577).bind fun bt584 => ((spec_DrawWornOn.f k l0).bind fun bt586 => ((impl_WornOn.f k bt586.1 bt586.2.1 bt586.2.2).bind fun bt593 => ((spec_WornOn.f k bt586.1 bt586.2.1 bt586.2.2).bind fun bt597 => ((impl_NextToFail.f k t575 t576).bind fun bt601 => ((spec_NextToFail.f k t575 t576).bind fun bt604 => (if t572 = t574 then (if t571 = t573 then (if t583 = bt584.2 then (if t582 = bt584.1 then (if bt593.2 = bt597.2 then ((laws_f6texts.f k bt593.1 bt597.1).bind fun t607 => (if t607 = true then (if bt601.2.2 = bt604.2.2 then (if bt601.1.toList = bt604.1.toList then (if bt601.2.1 = bt604.2.1 then ((impl_ValidGear.f k t563).bind fun t608 => ((spec_ValidGear.f k t563).bind fun t609 => (laws_FnWear.j0 k t563 t564 t565 t566 t572 t573 t575 t576 t577 t583 bt584.1 bt586.1 bt586.2.1 bt586.2.2 bt593.2 bt597.1 bt601.2.2 bt604.2.1 (t608 != t609)))) else (laws_FnWear.j0 k t563 t564 t565 t566 t572 t573 t575 t576 t577 t583 bt584.1 bt586.1 bt586.2.1 bt586.2.2 bt593.2 bt597.1 bt601.2.2 bt604.2.1 true)) else (laws_FnWear.j0 k t563 t564 t565 t566 t572 t573 t575 t576 t577 t583 bt584.1 bt586.1 bt586.2.1 bt586.2.2 bt593.2 bt597.1 bt601.2.2 bt604.2.1 true)) else (laws_FnWear.j0 k t563 t564 t565 t566 t572 t573 t575 t576 t577 t583 bt584.1 bt586.1 bt586.2.1 bt586.2.2 bt593.2 bt597.1 bt601.2.2 bt604.2.1 true)) else (laws_FnWear.j0 k t563 t564 t565 t566 t572 t573 t575 t576 t577 t583 bt584.1 bt586.1 bt586.2.1 bt586.2.2 bt593.2 bt597.1 bt601.2.2 bt604.2.1 true))) else (laws_FnWear.j0 k t563 t564 t565 t566 t572 t573 t575 t576 t577 t583 bt584.1 bt586.1 bt586.2.1 bt586.2.2 bt593.2 bt597.1 bt601.2.2 bt604.2.1 true)) else (laws_FnWear.j0 k t563 t564 t565 t566 t572 t573 t575 t576 t577 t583 bt584.1 bt586.1 bt586.2.1 bt586.2.2 bt593.2 bt597.1 bt601.2.2 bt604.2.1 true)) else (laws_FnWear.j0 k t563 t564 t565 t566 t572 t573 t575 t576 t577 t583 bt584.1 bt586.1 bt586.2.1 bt586.2.2 bt593.2 bt597.1 bt601.2.2 bt604.2.1 true)) else (laws_FnWear.j0 k t563 t564 t565 t566 t572 t573 t575 t576 t577 t583 bt584.1 bt586.1 bt586.2.1 bt586.2.2 bt593.2 bt597.1 bt601.2.2 bt604.2.1 true)) else (laws_FnWear.j0 k t563 t564 t565 t566 t572 t573 t575 t576 t577 t583 bt584.1 bt586.1 bt586.2.1 bt586.2.2 bt593.2 bt597.1 bt601.2.2 bt604.2.1 true)))))))) = some r := H
   have A8 := ak_ A80
   clear A80
   replace H := ob_ H
   obtain ⟨⟨t584, t585⟩, A90, H⟩ := H
   replace H : ((spec_DrawWornOn.f k l0).bind fun bt586 => ((impl_WornOn.f k bt586.1 bt586.2.1 bt586.2.2).bind fun bt593 => ((spec_WornOn.f k bt586.1 bt586.2.1 bt586.2.2).bind fun bt597 => ((impl_NextToFail.f k t575 t576).bind fun bt601 => ((spec_NextToFail.f k t575 t576).bind fun bt604 => (if t572 = t574 then (if t571 = t573 then (if t583 = t585 then (if t582 = t584 then (if bt593.2 = bt597.2 then ((laws_f6texts.f k bt593.1 bt597.1).bind fun t607 => (if t607 = true then (if bt601.2.2 = bt604.2.2 then (if bt601.1.toList = bt604.1.toList then (if bt601.2.1 = bt604.2.1 then ((impl_ValidGear.f k t563).bind fun t608 => ((spec_ValidGear.f k t563).bind fun t609 => (laws_FnWear.j0 k t563 t564 t565 t566 t572 t573 t575 t576 t577 t583 t584 bt586.1 bt586.2.1 bt586.2.2 bt593.2 bt597.1 bt601.2.2 bt604.2.1 (t608 != t609)))) else (laws_FnWear.j0 k t563 t564 t565 t566 t572 t573 t575 t576 t577 t583 t584 bt586.1 bt586.2.1 bt586.2.2 bt593.2 bt597.1 bt601.2.2 bt604.2.1 true)) else (laws_FnWear.j0 k t563 t564 t565 t566 t572 t573 t575 t576 t577 t583 t584 bt586.1 bt586.2.1 bt586.2.2 bt593.2 bt597.1 bt601.2.2 bt604.2.1 true)) else (laws_FnWear.j0 k t563 t564 t565 t566 t572 t573 t575 t576 t577 t583 t584 bt586.1 bt586.2.1 bt586.2.2 bt593.2 bt597.1 bt601.2.2 bt604.2.1 true)) else (laws_FnWear.j0 k t563 t564 t565 t566 t572 t573 t575 t576 t577 t583 t584 bt586.1 bt586.2.1 bt586.2.2 bt593.2 bt597.1 bt601.2.2 bt604.2.1 true))) else (laws_FnWear.j0 k t563 t564 t565 t566 t572 t573 t575 t576 t577 t583 t584 bt586.1 bt586.2.1 bt586.2.2 bt593.2 bt597.1 bt601.2.2 bt604.2.1 true)) else (laws_FnWear.j0 k t563 t564 t565 t566 t572 t573 t575 t576 t577 t583 t584 bt586.1 bt586.2.1 bt586.2.2 bt593.2 bt597.1 bt601.2.2 bt604.2.1 true)) else (laws_FnWear.j0 k t563 t564 t565 t566 t572 t573 t575 t576 t577 t583 t584 bt586.1 bt586.2.1 bt586.2.2 bt593.2 bt597.1 bt601.2.2 bt604.2.1 true)) else (laws_FnWear.j0 k t563 t564 t565 t566 t572 t573 t575 t576 t577 t583 t584 bt586.1 bt586.2.1 bt586.2.2 bt593.2 bt597.1 bt601.2.2 bt604.2.1 true)) else (laws_FnWear.j0 k t563 t564 t565 t566 t572 t573 t575 t576 t577 t583 t584 bt586.1 bt586.2.1 bt586.2.2 bt593.2 bt597.1 bt601.2.2 bt604.2.1 true))))))) = some r := H
   have A9 := ak_ A90
   clear A90
   replace H := ob_ H
   obtain ⟨⟨t586, t587, t588⟩, A100, H⟩ := H
   replace H : ((impl_WornOn.f k t586 t587 t588).bind fun bt593 => ((spec_WornOn.f k t586 t587 t588).bind fun bt597 => ((impl_NextToFail.f k t575 t576).bind fun bt601 => ((spec_NextToFail.f k t575 t576).bind fun bt604 => (if t572 = t574 then (if t571 = t573 then (if t583 = t585 then (if t582 = t584 then (if bt593.2 = bt597.2 then ((laws_f6texts.f k bt593.1 bt597.1).bind fun t607 => (if t607 = true then (if bt601.2.2 = bt604.2.2 then (if bt601.1.toList = bt604.1.toList then (if bt601.2.1 = bt604.2.1 then ((impl_ValidGear.f k t563).bind fun t608 => ((spec_ValidGear.f k t563).bind fun t609 => (laws_FnWear.j0 k t563 t564 t565 t566 t572 t573 t575 t576 t577 t583 t584 t586 t587 t588 bt593.2 bt597.1 bt601.2.2 bt604.2.1 (t608 != t609)))) else (laws_FnWear.j0 k t563 t564 t565 t566 t572 t573 t575 t576 t577 t583 t584 t586 t587 t588 bt593.2 bt597.1 bt601.2.2 bt604.2.1 true)) else (laws_FnWear.j0 k t563 t564 t565 t566 t572 t573 t575 t576 t577 t583 t584 t586 t587 t588 bt593.2 bt597.1 bt601.2.2 bt604.2.1 true)) else (laws_FnWear.j0 k t563 t564 t565 t566 t572 t573 t575 t576 t577 t583 t584 t586 t587 t588 bt593.2 bt597.1 bt601.2.2 bt604.2.1 true)) else (laws_FnWear.j0 k t563 t564 t565 t566 t572 t573 t575 t576 t577 t583 t584 t586 t587 t588 bt593.2 bt597.1 bt601.2.2 bt604.2.1 true))) else (laws_FnWear.j0 k t563 t564 t565 t566 t572 t573 t575 t576 t577 t583 t584 t586 t587 t588 bt593.2 bt597.1 bt601.2.2 bt604.2.1 true)) else (laws_FnWear.j0 k t563 t564 t565 t566 t572 t573 t575 t576 t577 t583 t584 t586 t587 t588 bt593.2 bt597.1 bt601.2.2 bt604.2.1 true)) else (laws_FnWear.j0 k t563 t564 t565 t566 t572 t573 t575 t576 t577 t583 t584 t586 t587 t588 bt593.2 bt597.1 bt601.2.2 bt604.2.1 true)) else (laws_FnWear.j0 k t563 t564 t565 t566 t572 t573 t575 t576 t577 t583 t584 t586 t587 t588 bt593.2 bt597.1 bt601.2.2 bt604.2.1 true)) else (laws_FnWear.j0 k t563 t564 t565 t566 t572 t573 t575 t576 t577 t583 t584 t586 t587 t588 bt593.2 bt597.1 bt601.2.2 bt604.2.1 true)))))) = some r := H
   have A10 := ak_ A100
   clear A100
   replace H := ob_ H
   obtain ⟨⟨t593, t594⟩, A110, H⟩ := H
   replace H : ((spec_WornOn.f k t586 t587 t588).bind fun bt597 => ((impl_NextToFail.f k t575 t576).bind fun bt601 => ((spec_NextToFail.f k t575 t576).bind fun bt604 => (if t572 = t574 then (if t571 = t573 then (if t583 = t585 then (if t582 = t584 then (if t594 = bt597.2 then ((laws_f6texts.f k t593 bt597.1).bind fun t607 => (if t607 = true then (if bt601.2.2 = bt604.2.2 then (if bt601.1.toList = bt604.1.toList then (if bt601.2.1 = bt604.2.1 then ((impl_ValidGear.f k t563).bind fun t608 => ((spec_ValidGear.f k t563).bind fun t609 => (laws_FnWear.j0 k t563 t564 t565 t566 t572 t573 t575 t576 t577 t583 t584 t586 t587 t588 t594 bt597.1 bt601.2.2 bt604.2.1 (t608 != t609)))) else (laws_FnWear.j0 k t563 t564 t565 t566 t572 t573 t575 t576 t577 t583 t584 t586 t587 t588 t594 bt597.1 bt601.2.2 bt604.2.1 true)) else (laws_FnWear.j0 k t563 t564 t565 t566 t572 t573 t575 t576 t577 t583 t584 t586 t587 t588 t594 bt597.1 bt601.2.2 bt604.2.1 true)) else (laws_FnWear.j0 k t563 t564 t565 t566 t572 t573 t575 t576 t577 t583 t584 t586 t587 t588 t594 bt597.1 bt601.2.2 bt604.2.1 true)) else (laws_FnWear.j0 k t563 t564 t565 t566 t572 t573 t575 t576 t577 t583 t584 t586 t587 t588 t594 bt597.1 bt601.2.2 bt604.2.1 true))) else (laws_FnWear.j0 k t563 t564 t565 t566 t572 t573 t575 t576 t577 t583 t584 t586 t587 t588 t594 bt597.1 bt601.2.2 bt604.2.1 true)) else (laws_FnWear.j0 k t563 t564 t565 t566 t572 t573 t575 t576 t577 t583 t584 t586 t587 t588 t594 bt597.1 bt601.2.2 bt604.2.1 true)) else (laws_FnWear.j0 k t563 t564 t565 t566 t572 t573 t575 t576 t577 t583 t584 t586 t587 t588 t594 bt597.1 bt601.2.2 bt604.2.1 true)) else (laws_FnWear.j0 k t563 t564 t565 t566 t572 t573 t575 t576 t577 t583 t584 t586 t587 t588 t594 bt597.1 bt601.2.2 bt604.2.1 true)) else (laws_FnWear.j0 k t563 t564 t565 t566 t572 t573 t575 t576 t577 t583 t584 t586 t587 t588 t594 bt597.1 bt601.2.2 bt604.2.1 true))))) = some r := H
   have A11 := ak_ A110
   clear A110
   replace H := ob_ H
   obtain ⟨⟨t597, t598⟩, A120, H⟩ := H
   replace H : ((impl_NextToFail.f k t575 t576).bind fun bt601 => ((spec_NextToFail.f k t575 t576).bind fun bt604 => (if t572 = t574 then (if t571 = t573 then (if t583 = t585 then (if t582 = t584 then (if t594 = t598 then ((laws_f6texts.f k t593 t597).bind fun t607 => (if t607 = true then (if bt601.2.2 = bt604.2.2 then (if bt601.1.toList = bt604.1.toList then (if bt601.2.1 = bt604.2.1 then ((impl_ValidGear.f k t563).bind fun t608 => ((spec_ValidGear.f k t563).bind fun t609 => (laws_FnWear.j0 k t563 t564 t565 t566 t572 t573 t575 t576 t577 t583 t584 t586 t587 t588 t594 t597 bt601.2.2 bt604.2.1 (t608 != t609)))) else (laws_FnWear.j0 k t563 t564 t565 t566 t572 t573 t575 t576 t577 t583 t584 t586 t587 t588 t594 t597 bt601.2.2 bt604.2.1 true)) else (laws_FnWear.j0 k t563 t564 t565 t566 t572 t573 t575 t576 t577 t583 t584 t586 t587 t588 t594 t597 bt601.2.2 bt604.2.1 true)) else (laws_FnWear.j0 k t563 t564 t565 t566 t572 t573 t575 t576 t577 t583 t584 t586 t587 t588 t594 t597 bt601.2.2 bt604.2.1 true)) else (laws_FnWear.j0 k t563 t564 t565 t566 t572 t573 t575 t576 t577 t583 t584 t586 t587 t588 t594 t597 bt601.2.2 bt604.2.1 true))) else (laws_FnWear.j0 k t563 t564 t565 t566 t572 t573 t575 t576 t577 t583 t584 t586 t587 t588 t594 t597 bt601.2.2 bt604.2.1 true)) else (laws_FnWear.j0 k t563 t564 t565 t566 t572 t573 t575 t576 t577 t583 t584 t586 t587 t588 t594 t597 bt601.2.2 bt604.2.1 true)) else (laws_FnWear.j0 k t563 t564 t565 t566 t572 t573 t575 t576 t577 t583 t584 t586 t587 t588 t594 t597 bt601.2.2 bt604.2.1 true)) else (laws_FnWear.j0 k t563 t564 t565 t566 t572 t573 t575 t576 t577 t583 t584 t586 t587 t588 t594 t597 bt601.2.2 bt604.2.1 true)) else (laws_FnWear.j0 k t563 t564 t565 t566 t572 t573 t575 t576 t577 t583 t584 t586 t587 t588 t594 t597 bt601.2.2 bt604.2.1 true)))) = some r := H
   have A12 := ak_ A120
   clear A120
   replace H := ob_ H
   obtain ⟨⟨t601, t602, t603⟩, A130, H⟩ := H
   replace H : ((spec_NextToFail.f k t575 t576).bind fun bt604 => (if t572 = t574 then (if t571 = t573 then (if t583 = t585 then (if t582 = t584 then (if t594 = t598 then ((laws_f6texts.f k t593 t597).bind fun t607 => (if t607 = true then (if t603 = bt604.2.2 then (if t601.toList = bt604.1.toList then (if t602 = bt604.2.1 then ((impl_ValidGear.f k t563).bind fun t608 => ((spec_ValidGear.f k t563).bind fun t609 => (laws_FnWear.j0 k t563 t564 t565 t566 t572 t573 t575 t576 t577 t583 t584 t586 t587 t588 t594 t597 t603 bt604.2.1 (t608 != t609)))) else (laws_FnWear.j0 k t563 t564 t565 t566 t572 t573 t575 t576 t577 t583 t584 t586 t587 t588 t594 t597 t603 bt604.2.1 true)) else (laws_FnWear.j0 k t563 t564 t565 t566 t572 t573 t575 t576 t577 t583 t584 t586 t587 t588 t594 t597 t603 bt604.2.1 true)) else (laws_FnWear.j0 k t563 t564 t565 t566 t572 t573 t575 t576 t577 t583 t584 t586 t587 t588 t594 t597 t603 bt604.2.1 true)) else (laws_FnWear.j0 k t563 t564 t565 t566 t572 t573 t575 t576 t577 t583 t584 t586 t587 t588 t594 t597 t603 bt604.2.1 true))) else (laws_FnWear.j0 k t563 t564 t565 t566 t572 t573 t575 t576 t577 t583 t584 t586 t587 t588 t594 t597 t603 bt604.2.1 true)) else (laws_FnWear.j0 k t563 t564 t565 t566 t572 t573 t575 t576 t577 t583 t584 t586 t587 t588 t594 t597 t603 bt604.2.1 true)) else (laws_FnWear.j0 k t563 t564 t565 t566 t572 t573 t575 t576 t577 t583 t584 t586 t587 t588 t594 t597 t603 bt604.2.1 true)) else (laws_FnWear.j0 k t563 t564 t565 t566 t572 t573 t575 t576 t577 t583 t584 t586 t587 t588 t594 t597 t603 bt604.2.1 true)) else (laws_FnWear.j0 k t563 t564 t565 t566 t572 t573 t575 t576 t577 t583 t584 t586 t587 t588 t594 t597 t603 bt604.2.1 true))) = some r := H
   have A13 := ak_ A130
   clear A130
   replace H := ob_ H
   obtain ⟨⟨t604, t605, t606⟩, A140, H⟩ := H
   replace H : (if t572 = t574 then (if t571 = t573 then (if t583 = t585 then (if t582 = t584 then (if t594 = t598 then ((laws_f6texts.f k t593 t597).bind fun t607 => (if t607 = true then (if t603 = t606 then (if t601.toList = t604.toList then (if t602 = t605 then ((impl_ValidGear.f k t563).bind fun t608 => ((spec_ValidGear.f k t563).bind fun t609 => (laws_FnWear.j0 k t563 t564 t565 t566 t572 t573 t575 t576 t577 t583 t584 t586 t587 t588 t594 t597 t603 t605 (t608 != t609)))) else (laws_FnWear.j0 k t563 t564 t565 t566 t572 t573 t575 t576 t577 t583 t584 t586 t587 t588 t594 t597 t603 t605 true)) else (laws_FnWear.j0 k t563 t564 t565 t566 t572 t573 t575 t576 t577 t583 t584 t586 t587 t588 t594 t597 t603 t605 true)) else (laws_FnWear.j0 k t563 t564 t565 t566 t572 t573 t575 t576 t577 t583 t584 t586 t587 t588 t594 t597 t603 t605 true)) else (laws_FnWear.j0 k t563 t564 t565 t566 t572 t573 t575 t576 t577 t583 t584 t586 t587 t588 t594 t597 t603 t605 true))) else (laws_FnWear.j0 k t563 t564 t565 t566 t572 t573 t575 t576 t577 t583 t584 t586 t587 t588 t594 t597 t603 t605 true)) else (laws_FnWear.j0 k t563 t564 t565 t566 t572 t573 t575 t576 t577 t583 t584 t586 t587 t588 t594 t597 t603 t605 true)) else (laws_FnWear.j0 k t563 t564 t565 t566 t572 t573 t575 t576 t577 t583 t584 t586 t587 t588 t594 t597 t603 t605 true)) else (laws_FnWear.j0 k t563 t564 t565 t566 t572 t573 t575 t576 t577 t583 t584 t586 t587 t588 t594 t597 t603 t605 true)) else (laws_FnWear.j0 k t563 t564 t565 t566 t572 t573 t575 t576 t577 t583 t584 t586 t587 t588 t594 t597 t603 t605 true)) = some r := H
   have A14 := ak_ A140
   clear A140
   have HC15 := ak_ H
   clear H
   go_enter Try.func5, Try.ntmps5
   go_upto_region 14 with (first | (go_at_call 6; (with_reducible refine (laws_f6big.calls _ _ l0 false _ ?side1 ?side2 A2.out).mono ?_); (case side1 => exact kc_ HR0.out); (case side2 => exact HC0.out); rintro e w' ⟨rfl, ⟨nd, rfl⟩⟩; (try first | exact ⟨rfl, _, World.drewN_drewN _ _ _⟩ | exact ⟨rfl, _, Eq.trans (World.drewN_drewN _ _ _) (congrArg (World.drewN _) (Nat.add_assoc _ _ _))⟩)) | (go_at_call 32; (with_reducible refine (spec_DrawWearOn.calls k _ _ l0 t563 t564 t565 t566 _ ?side1 ?side2 A4.out).mono ?_); (case side1 => exact kc_ HR0.out); (case side2 => exact HC0.out); rintro e w16 ⟨v567, v569, rfl, ho0, ho1, hb⟩; have n0_ := ak_ (Kd.R_lower ho0 (below_size hb_)); have n1_ := ak_ (Kd.R_lower ho1 (below_size hb_)); have n2_ := ak_ (below_step hb_ hb); clear HB; have HO568 := n0_; have HO570 := n1_; have HB := n2_; clear n0_ n1_ n2_; (try clear hb); (try clear hb2); (try clear hk); (try clear hi); (try clear ho0); (try clear ho1); obtain ⟨Ao17, co17, eo17⟩ := Kd.R_slice HO568.out; subst eo17; obtain ⟨Ao18, co18, eo18⟩ := Kd.R_slice HO570.out; subst eo18) | (go_at_call 33; (with_reducible refine (impl_WearOn.calls k _ _ t563 _ _ t564 t565 t566 t571 t572 _ ?side1 ?side2 ?side3 ?side4 A5.out).mono ?_); (case side1 => repeat (first | exact (Kd.R_reads' HO568.out).2.2 | (with_reducible refine Kd.C_alloc ?_ _) | (with_reducible refine Kd.C_drewN ?_ _) | (with_reducible refine Kd.C_drew ?_))); (case side2 => exact (Kd.R_reads' HO568.out).2.1); (case side3 => repeat (first | exact (Kd.R_reads' HO570.out).2.2 | (with_reducible refine Kd.C_alloc ?_ _) | (with_reducible refine Kd.C_drewN ?_ _) | (with_reducible refine Kd.C_drew ?_))); (case side4 => exact (Kd.R_reads' HO570.out).2.1); rintro e w19 ⟨rfl, hb⟩; have n0_ := ak_ (Kd.R_below (kr_ HO568) hb); have n1_ := ak_ (Kd.R_below (kr_ HO570) hb); have n2_ := ak_ (below_step hb_ hb); clear HO568 HO570 HB; have HO568 := n0_; have HO570 := n1_; have HB := n2_; clear n0_ n1_ n2_; clear hb) | (go_at_call 34; (with_reducible refine (spec_WearOn.calls k _ _ t563 _ _ t564 t565 t566 t573 t574 _ ?side1 ?side2 ?side3 ?side4 A6.out).mono ?_); (case side1 => repeat (first | exact (Kd.R_reads' HO568.out).2.2 | (with_reducible refine Kd.C_alloc ?_ _) | (with_reducible refine Kd.C_drewN ?_ _) | (with_reducible refine Kd.C_drew ?_))); (case side2 => exact (Kd.R_reads' HO568.out).2.1); (case side3 => repeat (first | exact (Kd.R_reads' HO570.out).2.2 | (with_reducible refine Kd.C_alloc ?_ _) | (with_reducible refine Kd.C_drewN ?_ _) | (with_reducible refine Kd.C_drew ?_))); (case side4 => exact (Kd.R_reads' HO570.out).2.1); rintro e w20 ⟨rfl, hb⟩; have n0_ := ak_ (Kd.R_below (kr_ HO568) hb); have n1_ := ak_ (Kd.R_below (kr_ HO570) hb); have n2_ := ak_ (below_step hb_ hb); clear HO568 HO570 HB; have HO568 := n0_; have HO570 := n1_; have HB := n2_; clear n0_ n1_ n2_; clear hb) | (go_at_call 35; (with_reducible refine (spec_DrawDayOfEnd.calls k _ _ l0 t575 t576 t577 _ ?side1 ?side2 A7.out).mono ?_); (case side1 => exact kc_ (Kd.C_below HR0.out HB.out)); (case side2 => exact HC0.out); rintro e w21 ⟨v578, v580, rfl, ho0, ho1, hb⟩; have n0_ := ak_ (Kd.R_elder' (kr_ HO568) (Kd.R_base ho0) hb); have n1_ := ak_ (Kd.R_elder' (kr_ HO570) (Kd.R_base ho1) hb); have n2_ := ak_ (Kd.R_lower (Kd.R_new' ho0 (Kd.R_lt (kr_ HO568))) (below_size hb_)); have n3_ := ak_ (Kd.R_lower (Kd.R_new' ho1 (Kd.R_lt (kr_ HO570))) (below_size hb_)); have n4_ := ak_ (below_step hb_ hb); clear HO568 HO570 HB; have HO568 := n0_; have HO570 := n1_; have HO579 := n2_; have HO581 := n3_; have HB := n4_; clear n0_ n1_ n2_ n3_ n4_; (try clear hb); (try clear hb2); (try clear hk); (try clear hi); (try clear ho0); (try clear ho1); obtain ⟨Ao22, co22, eo22⟩ := Kd.R_slice HO579.out; subst eo22; obtain ⟨Ao23, co23, eo23⟩ := Kd.R_slice HO581.out; subst eo23) | (go_at_call 36; (with_reducible refine (impl_DayOfEnd.calls k _ _ t575 _ _ t576 t577 t582 t583 _ ?side1 ?side2 ?side3 ?side4 A8.out).mono ?_); (case side1 => repeat (first | exact (Kd.R_reads' HO579.out).2.2 | (with_reducible refine Kd.C_alloc ?_ _) | (with_reducible refine Kd.C_drewN ?_ _) | (with_reducible refine Kd.C_drew ?_))); (case side2 => exact (Kd.R_reads' HO579.out).2.1); (case side3 => repeat (first | exact (Kd.R_reads' HO581.out).2.2 | (with_reducible refine Kd.C_alloc ?_ _) | (with_reducible refine Kd.C_drewN ?_ _) | (with_reducible refine Kd.C_drew ?_))); (case side4 => exact (Kd.R_reads' HO581.out).2.1); rintro e w24 ⟨rfl, hb⟩; have n0_ := ak_ (Kd.R_below (kr_ HO568) hb); have n1_ := ak_ (Kd.R_below (kr_ HO570) hb); have n2_ := ak_ (Kd.R_below (kr_ HO579) hb); have n3_ := ak_ (Kd.R_below (kr_ HO581) hb); have n4_ := ak_ (below_step hb_ hb); clear HO568 HO570 HO579 HO581 HB; have HO568 := n0_; have HO570 := n1_; have HO579 := n2_; have HO581 := n3_; have HB := n4_; clear n0_ n1_ n2_ n3_ n4_; clear hb) | (go_at_call 37; (with_reducible refine (spec_DayOfEnd.calls k _ _ t575 _ _ t576 t577 t584 t585 _ ?side1 ?side2 ?side3 ?side4 A9.out).mono ?_); (case side1 => repeat (first | exact (Kd.R_reads' HO579.out).2.2 | (with_reducible refine Kd.C_alloc ?_ _) | (with_reducible refine Kd.C_drewN ?_ _) | (with_reducible refine Kd.C_drew ?_))); (case side2 => exact (Kd.R_reads' HO579.out).2.1); (case side3 => repeat (first | exact (Kd.R_reads' HO581.out).2.2 | (with_reducible refine Kd.C_alloc ?_ _) | (with_reducible refine Kd.C_drewN ?_ _) | (with_reducible refine Kd.C_drew ?_))); (case side4 => exact (Kd.R_reads' HO581.out).2.1); rintro e w25 ⟨rfl, hb⟩; have n0_ := ak_ (Kd.R_below (kr_ HO568) hb); have n1_ := ak_ (Kd.R_below (kr_ HO570) hb); have n2_ := ak_ (Kd.R_below (kr_ HO579) hb); have n3_ := ak_ (Kd.R_below (kr_ HO581) hb); have n4_ := ak_ (below_step hb_ hb); clear HO568 HO570 HO579 HO581 HB; have HO568 := n0_; have HO570 := n1_; have HO579 := n2_; have HO581 := n3_; have HB := n4_; clear n0_ n1_ n2_ n3_ n4_; clear hb) | (go_at_call 38; (with_reducible refine (spec_DrawWornOn.calls k _ _ l0 t586 t587 t588 _ ?side1 ?side2 A10.out).mono ?_); (case side1 => exact kc_ (Kd.C_below HR0.out HB.out)); (case side2 => exact HC0.out); rintro e w26 ⟨v589, v591, rfl, ho0, ho1, hb⟩; have n0_ := ak_ (Kd.R_elder' (kr_ HO568) (Kd.R_base ho0) hb); have n1_ := ak_ (Kd.R_elder' (kr_ HO570) (Kd.R_base ho1) hb); have n2_ := ak_ (Kd.R_elder' (kr_ HO579) (Kd.R_base ho0) hb); have n3_ := ak_ (Kd.R_elder' (kr_ HO581) (Kd.R_base ho1) hb); have n4_ := ak_ (Kd.R_lower (Kd.R_new' (Kd.R_new' ho0 (Kd.R_lt (kr_ HO568))) (Kd.R_lt (kr_ HO579))) (below_size hb_)); have n5_ := ak_ (Kd.R_lower (Kd.R_new' (Kd.R_new' ho1 (Kd.R_lt (kr_ HO570))) (Kd.R_lt (kr_ HO581))) (below_size hb_)); have n6_ := ak_ (below_step hb_ hb); clear HO568 HO570 HO579 HO581 HB; have HO568 := n0_; have HO570 := n1_; have HO579 := n2_; have HO581 := n3_; have HO590 := n4_; have HO592 := n5_; have HB := n6_; clear n0_ n1_ n2_ n3_ n4_ n5_ n6_; (try clear hb); (try clear hb2); (try clear hk); (try clear hi); (try clear ho0); (try clear ho1); obtain ⟨Ao27, co27, eo27⟩ := Kd.R_slice HO590.out; subst eo27; obtain ⟨Ao28, co28, eo28⟩ := Kd.R_slice HO592.out; subst eo28) | (go_at_call 39; (with_reducible refine (impl_WornOn.calls k _ _ t586 _ _ t587 t588 t593 t594 _ ?side1 ?side2 ?side3 ?side4 A11.out).mono ?_); (case side1 => repeat (first | exact (Kd.R_reads' HO590.out).2.2 | (with_reducible refine Kd.C_alloc ?_ _) | (with_reducible refine Kd.C_drewN ?_ _) | (with_reducible refine Kd.C_drew ?_))); (case side2 => exact (Kd.R_reads' HO590.out).2.1); (case side3 => repeat (first | exact (Kd.R_reads' HO592.out).2.2 | (with_reducible refine Kd.C_alloc ?_ _) | (with_reducible refine Kd.C_drewN ?_ _) | (with_reducible refine Kd.C_drew ?_))); (case side4 => exact (Kd.R_reads' HO592.out).2.1); rintro e w29 ⟨v595, rfl, ho0, hb⟩; have n0_ := ak_ (Kd.R_below (kr_ HO568) hb); have n1_ := ak_ (Kd.R_below (kr_ HO570) hb); have n2_ := ak_ (Kd.R_below (kr_ HO579) hb); have n3_ := ak_ (Kd.R_below (kr_ HO581) hb); have n4_ := ak_ (Kd.R_below (kr_ HO590) hb); have n5_ := ak_ (Kd.R_below (kr_ HO592) hb); have n6_ := ak_ (Kd.R_lower ho0 (below_size hb_)); have n7_ := ak_ (below_step hb_ hb); clear HO568 HO570 HO579 HO581 HO590 HO592 HB; have HO568 := n0_; have HO570 := n1_; have HO579 := n2_; have HO581 := n3_; have HO590 := n4_; have HO592 := n5_; have HO596 := n6_; have HB := n7_; clear n0_ n1_ n2_ n3_ n4_ n5_ n6_ n7_; clear hb ho0) | (go_at_call 40; (with_reducible refine (spec_WornOn.calls k _ _ t586 _ _ t587 t588 t597 t598 _ ?side1 ?side2 ?side3 ?side4 A12.out).mono ?_); (case side1 => repeat (first | exact (Kd.R_reads' HO590.out).2.2 | (with_reducible refine Kd.C_alloc ?_ _) | (with_reducible refine Kd.C_drewN ?_ _) | (with_reducible refine Kd.C_drew ?_))); (case side2 => exact (Kd.R_reads' HO590.out).2.1); (case side3 => repeat (first | exact (Kd.R_reads' HO592.out).2.2 | (with_reducible refine Kd.C_alloc ?_ _) | (with_reducible refine Kd.C_drewN ?_ _) | (with_reducible refine Kd.C_drew ?_))); (case side4 => exact (Kd.R_reads' HO592.out).2.1); rintro e w30 ⟨v599, rfl, ho0, hb⟩; have n0_ := ak_ (Kd.R_below (kr_ HO568) hb); have n1_ := ak_ (Kd.R_below (kr_ HO570) hb); have n2_ := ak_ (Kd.R_below (kr_ HO579) hb); have n3_ := ak_ (Kd.R_below (kr_ HO581) hb); have n4_ := ak_ (Kd.R_below (kr_ HO590) hb); have n5_ := ak_ (Kd.R_below (kr_ HO592) hb); have n6_ := ak_ (Kd.R_elder' (kr_ HO596) (Kd.R_base ho0) hb); have n7_ := ak_ (Kd.R_lower (Kd.R_new' ho0 (Kd.R_lt (kr_ HO596))) (below_size hb_)); have n8_ := ak_ (below_step hb_ hb); clear HO568 HO570 HO579 HO581 HO590 HO592 HO596 HB; have HO568 := n0_; have HO570 := n1_; have HO579 := n2_; have HO581 := n3_; have HO590 := n4_; have HO592 := n5_; have HO596 := n6_; have HO600 := n7_; have HB := n8_; clear n0_ n1_ n2_ n3_ n4_ n5_ n6_ n7_ n8_; clear hb ho0) | (go_at_call 41; (with_reducible refine (impl_NextToFail.calls k _ _ t575 _ _ t576 t601 t602 t603 _ ?side1 ?side2 ?side3 ?side4 A13.out).mono ?_); (case side1 => repeat (first | exact (Kd.R_reads' HO579.out).2.2 | (with_reducible refine Kd.C_alloc ?_ _) | (with_reducible refine Kd.C_drewN ?_ _) | (with_reducible refine Kd.C_drew ?_))); (case side2 => exact (Kd.R_reads' HO579.out).2.1); (case side3 => repeat (first | exact (Kd.R_reads' HO581.out).2.2 | (with_reducible refine Kd.C_alloc ?_ _) | (with_reducible refine Kd.C_drewN ?_ _) | (with_reducible refine Kd.C_drew ?_))); (case side4 => exact (Kd.R_reads' HO581.out).2.1); rintro e w31 ⟨rfl, hb⟩; have n0_ := ak_ (Kd.R_below (kr_ HO568) hb); have n1_ := ak_ (Kd.R_below (kr_ HO570) hb); have n2_ := ak_ (Kd.R_below (kr_ HO579) hb); have n3_ := ak_ (Kd.R_below (kr_ HO581) hb); have n4_ := ak_ (Kd.R_below (kr_ HO590) hb); have n5_ := ak_ (Kd.R_below (kr_ HO592) hb); have n6_ := ak_ (Kd.R_below (kr_ HO596) hb); have n7_ := ak_ (Kd.R_below (kr_ HO600) hb); have n8_ := ak_ (below_step hb_ hb); clear HO568 HO570 HO579 HO581 HO590 HO592 HO596 HO600 HB; have HO568 := n0_; have HO570 := n1_; have HO579 := n2_; have HO581 := n3_; have HO590 := n4_; have HO592 := n5_; have HO596 := n6_; have HO600 := n7_; have HB := n8_; clear n0_ n1_ n2_ n3_ n4_ n5_ n6_ n7_ n8_; clear hb) | (go_at_call 42; (with_reducible refine (spec_NextToFail.calls k _ _ t575 _ _ t576 t604 t605 t606 _ ?side1 ?side2 ?side3 ?side4 A14.out).mono ?_); (case side1 => repeat (first | exact (Kd.R_reads' HO579.out).2.2 | (with_reducible refine Kd.C_alloc ?_ _) | (with_reducible refine Kd.C_drewN ?_ _) | (with_reducible refine Kd.C_drew ?_))); (case side2 => exact (Kd.R_reads' HO579.out).2.1); (case side3 => repeat (first | exact (Kd.R_reads' HO581.out).2.2 | (with_reducible refine Kd.C_alloc ?_ _) | (with_reducible refine Kd.C_drewN ?_ _) | (with_reducible refine Kd.C_drew ?_))); (case side4 => exact (Kd.R_reads' HO581.out).2.1); rintro e w32 ⟨rfl, hb⟩; have n0_ := ak_ (Kd.R_below (kr_ HO568) hb); have n1_ := ak_ (Kd.R_below (kr_ HO570) hb); have n2_ := ak_ (Kd.R_below (kr_ HO579) hb); have n3_ := ak_ (Kd.R_below (kr_ HO581) hb); have n4_ := ak_ (Kd.R_below (kr_ HO590) hb); have n5_ := ak_ (Kd.R_below (kr_ HO592) hb); have n6_ := ak_ (Kd.R_below (kr_ HO596) hb); have n7_ := ak_ (Kd.R_below (kr_ HO600) hb); have n8_ := ak_ (below_step hb_ hb); clear HO568 HO570 HO579 HO581 HO590 HO592 HO596 HO600 HB; have HO568 := n0_; have HO570 := n1_; have HO579 := n2_; have HO581 := n3_; have HO590 := n4_; have HO592 := n5_; have HO596 := n6_; have HO600 := n7_; have HB := n8_; clear n0_ n1_ n2_ n3_ n4_ n5_ n6_ n7_ n8_; clear hb))
   (try simp only [Act.put, List.setIfInBounds_toArray, List.set_cons_zero, List.set_cons_succ])
   go_cut [170] (fun v170 wc => ∃ (kq : Nat) (x170_14 : Bool), v170 = .bool x170_14 ∧ Aside0 (laws_FnWear.j0 kq t563 t564 t565 t566 t572 t573 t575 t576 t577 t583 t584 t586 t587 t588 t594 t597 t603 t605 x170_14 = some r) ∧ Aside0 (kq ≤ k) ∧ Aside0 (Kd.R k72 72 wc w.heap.size (fun k_ => some k_ ≠ ((.slice Ao22 t575.length co22) : Value).ownBlock ∧ some k_ ≠ ((.slice Ao27 t586.length co27) : Value).ownBlock) (.slice Ao17 t563.length co17) t563) ∧ Aside0 (Kd.R k75 75 wc w.heap.size (fun k_ => some k_ ≠ ((.slice Ao23 t576.length co23) : Value).ownBlock ∧ some k_ ≠ ((.slice Ao28 t587.length co28) : Value).ownBlock) (.slice Ao18 t564.length co18) t564) ∧ Aside0 (Kd.R k72 72 wc w.heap.size (fun k_ => some k_ ≠ ((.slice Ao17 t563.length co17) : Value).ownBlock ∧ some k_ ≠ ((.slice Ao27 t586.length co27) : Value).ownBlock) (.slice Ao22 t575.length co22) t575) ∧ Aside0 (Kd.R k75 75 wc w.heap.size (fun k_ => some k_ ≠ ((.slice Ao18 t564.length co18) : Value).ownBlock ∧ some k_ ≠ ((.slice Ao28 t587.length co28) : Value).ownBlock) (.slice Ao23 t576.length co23) t576) ∧ Aside0 (Kd.R k72 72 wc w.heap.size (fun k_ => some k_ ≠ ((.slice Ao17 t563.length co17) : Value).ownBlock ∧ some k_ ≠ ((.slice Ao22 t575.length co22) : Value).ownBlock) (.slice Ao27 t586.length co27) t586) ∧ Aside0 (Kd.R k75 75 wc w.heap.size (fun k_ => some k_ ≠ ((.slice Ao18 t564.length co18) : Value).ownBlock ∧ some k_ ≠ ((.slice Ao23 t576.length co23) : Value).ownBlock) (.slice Ao28 t587.length co28) t587) ∧ Aside0 (Kd.R Kd.string 9 wc w.heap.size (fun _ => True) v599 t597) ∧ Aside0 (Below w.heap.size w wc))
   case first =>
    as_aux_lemma =>
     have H := HC15.out
     clear HC15
     by_cases c33 : t572 = t574
     ·rw [if_pos c33] at H
      have c33b0 : (t572 == t574) = true := beq_iff_eq.mpr c33
      have c33b1 : (t572 != t574) = false := bne_eq_false_iff_eq.mpr c33
      clear c33
      (first | rw [c33b0] | (simp only [i64_w, i32_w]; rw [c33b0]) | skip)
      by_cases c34 : t571 = t573
      ·rw [if_pos c34] at H
       have c34b0 : (t571 == t573) = true := beq_iff_eq.mpr c34
       have c34b1 : (t571 != t573) = false := bne_eq_false_iff_eq.mpr c34
       clear c34
       by_cases c35 : t583 = t585
       ·rw [if_pos c35] at H
        have c35b0 : (t583 == t585) = true := beq_iff_eq.mpr c35
        have c35b1 : (t583 != t585) = false := bne_eq_false_iff_eq.mpr c35
        clear c35
        by_cases c36 : t582 = t584
        ·rw [if_pos c36] at H
         have c36b0 : (t582 == t584) = true := beq_iff_eq.mpr c36
         have c36b1 : (t582 != t584) = false := bne_eq_false_iff_eq.mpr c36
         clear c36
         by_cases c37 : t594 = t598
         ·as_aux_lemma =>
           rw [if_pos c37] at H
           have c37b0 : (t594 == t598) = true := beq_iff_eq.mpr c37
           have c37b1 : (t594 != t598) = false := bne_eq_false_iff_eq.mpr c37
           clear c37
           replace H := ob_ H
           obtain ⟨t607, A380, H⟩ := H
           replace H : (if t607 = true then (if t603 = t606 then (if t601.toList = t604.toList then (if t602 = t605 then ((impl_ValidGear.f k t563).bind fun t608 => ((spec_ValidGear.f k t563).bind fun t609 => (laws_FnWear.j0 k t563 t564 t565 t566 t572 t573 t575 t576 t577 t583 t584 t586 t587 t588 t594 t597 t603 t605 (t608 != t609)))) else (laws_FnWear.j0 k t563 t564 t565 t566 t572 t573 t575 t576 t577 t583 t584 t586 t587 t588 t594 t597 t603 t605 true)) else (laws_FnWear.j0 k t563 t564 t565 t566 t572 t573 t575 t576 t577 t583 t584 t586 t587 t588 t594 t597 t603 t605 true)) else (laws_FnWear.j0 k t563 t564 t565 t566 t572 t573 t575 t576 t577 t583 t584 t586 t587 t588 t594 t597 t603 t605 true)) else (laws_FnWear.j0 k t563 t564 t565 t566 t572 t573 t575 t576 t577 t583 t584 t586 t587 t588 t594 t597 t603 t605 true)) = some r := H
           have A38 := ak_ A380
           clear A380
           by_cases c39 : t607 = true
           ·subst c39
            have H1 : (if t603 = t606 then (if t601.toList = t604.toList then (if t602 = t605 then ((impl_ValidGear.f k t563).bind fun t608 => ((spec_ValidGear.f k t563).bind fun t609 => (laws_FnWear.j0 k t563 t564 t565 t566 t572 t573 t575 t576 t577 t583 t584 t586 t587 t588 t594 t597 t603 t605 (t608 != t609)))) else (laws_FnWear.j0 k t563 t564 t565 t566 t572 t573 t575 t576 t577 t583 t584 t586 t587 t588 t594 t597 t603 t605 true)) else (laws_FnWear.j0 k t563 t564 t565 t566 t572 t573 t575 t576 t577 t583 t584 t586 t587 t588 t594 t597 t603 t605 true)) else (laws_FnWear.j0 k t563 t564 t565 t566 t572 t573 t575 t576 t577 t583 t584 t586 t587 t588 t594 t597 t603 t605 true)) = some r := by rw [if_pos rfl] at H; exact H
            clear H
            have H := H1
            clear H1
            by_cases c40 : t603 = t606
            ·as_aux_lemma =>
              rw [if_pos c40] at H
              have c40b0 : (t603 == t606) = true := beq_iff_eq.mpr c40
              have c40b1 : (t603 != t606) = false := bne_eq_false_iff_eq.mpr c40
              clear c40
              by_cases c41 : t601.toList = t604.toList
              ·rw [if_pos c41] at H
               have c41b0 : (t601.toList == t604.toList) = true := beq_iff_eq.mpr c41
               have c41b1 : (t601.toList != t604.toList) = false := bne_eq_false_iff_eq.mpr c41
               clear c41
               by_cases c42 : t602 = t605
               ·as_aux_lemma =>
                 rw [if_pos c42] at H
                 have c42b0 : (t602 == t605) = true := beq_iff_eq.mpr c42
                 have c42b1 : (t602 != t605) = false := bne_eq_false_iff_eq.mpr c42
                 clear c42
                 replace H := ob_ H
                 obtain ⟨t608, A430, H⟩ := H
                 replace H : ((spec_ValidGear.f k t563).bind fun t609 => (laws_FnWear.j0 k t563 t564 t565 t566 t572 t573 t575 t576 t577 t583 t584 t586 t587 t588 t594 t597 t603 t605 (t608 != t609))) = some r := H
                 have A43 := ak_ A430
                 clear A430
                 replace H := ob_ H
                 obtain ⟨t609, A440, H⟩ := H
                 replace H : (laws_FnWear.j0 k t563 t564 t565 t566 t572 t573 t575 t576 t577 t583 t584 t586 t587 t588 t594 t597 t603 t605 (t608 != t609)) = some r := H
                 have A44 := ak_ A440
                 clear A440
                 have H' := ak_ H
                 clear H
                 obtain ⟨Ao45, co45, eo45⟩ := Kd.R_slice HO596.out
                 subst eo45
                 obtain ⟨Ao46, co46, eo46⟩ := Kd.R_slice HO600.out
                 subst eo46
                 go_wp2_with (first | (go_at_call 43; (with_reducible refine (laws_f6texts.calls k _ _ t593 _ _ t597 true _ ?side1 ?side2 ?side3 ?side4 A38.out).mono ?_); (case side1 => repeat (first | exact (Kd.R_reads' HO596.out).2.2 | (with_reducible refine Kd.C_alloc ?_ _) | (with_reducible refine Kd.C_drewN ?_ _) | (with_reducible refine Kd.C_drew ?_))); (case side2 => exact (Kd.R_reads' HO596.out).2.1); (case side3 => repeat (first | exact (Kd.R_reads' HO600.out).2.2 | (with_reducible refine Kd.C_alloc ?_ _) | (with_reducible refine Kd.C_drewN ?_ _) | (with_reducible refine Kd.C_drew ?_))); (case side4 => exact (Kd.R_reads' HO600.out).2.1); rintro e w' ⟨rfl, ⟨nd, rfl⟩⟩; (try first | exact ⟨rfl, _, World.drewN_drewN _ _ _⟩ | exact ⟨rfl, _, Eq.trans (World.drewN_drewN _ _ _) (congrArg (World.drewN _) (Nat.add_assoc _ _ _))⟩)) | (go_at_call 44; (with_reducible refine (impl_ValidGear.calls k _ _ t563 t608 _ ?side1 ?side2 A43.out).mono ?_); (case side1 => repeat (first | exact (Kd.R_reads' HO568.out).2.2 | (with_reducible refine Kd.C_alloc ?_ _) | (with_reducible refine Kd.C_drewN ?_ _) | (with_reducible refine Kd.C_drew ?_))); (case side2 => exact (Kd.R_reads' HO568.out).2.1); rintro e w47 ⟨rfl, hb⟩; have n0_ := ak_ (Kd.R_below (kr_ HO568) hb); have n1_ := ak_ (Kd.R_below (kr_ HO570) hb); have n2_ := ak_ (Kd.R_below (kr_ HO579) hb); have n3_ := ak_ (Kd.R_below (kr_ HO581) hb); have n4_ := ak_ (Kd.R_below (kr_ HO590) hb); have n5_ := ak_ (Kd.R_below (kr_ HO592) hb); have n6_ := ak_ (Kd.R_below (kr_ HO596) hb); have n7_ := ak_ (Kd.R_below (kr_ HO600) hb); have n8_ := ak_ (below_step hb_ hb); clear HO568 HO570 HO579 HO581 HO590 HO592 HO596 HO600 HB; have HO568 := n0_; have HO570 := n1_; have HO579 := n2_; have HO581 := n3_; have HO590 := n4_; have HO592 := n5_; have HO596 := n6_; have HO600 := n7_; have HB := n8_; clear n0_ n1_ n2_ n3_ n4_ n5_ n6_ n7_ n8_; clear hb) | (go_at_call 45; (with_reducible refine (spec_ValidGear.calls k _ _ t563 t609 _ ?side1 ?side2 A44.out).mono ?_); (case side1 => repeat (first | exact (Kd.R_reads' HO568.out).2.2 | (with_reducible refine Kd.C_alloc ?_ _) | (with_reducible refine Kd.C_drewN ?_ _) | (with_reducible refine Kd.C_drew ?_))); (case side2 => exact (Kd.R_reads' HO568.out).2.1); rintro e w48 ⟨rfl, hb⟩; have n0_ := ak_ (Kd.R_below (kr_ HO568) hb); have n1_ := ak_ (Kd.R_below (kr_ HO570) hb); have n2_ := ak_ (Kd.R_below (kr_ HO579) hb); have n3_ := ak_ (Kd.R_below (kr_ HO581) hb); have n4_ := ak_ (Kd.R_below (kr_ HO590) hb); have n5_ := ak_ (Kd.R_below (kr_ HO592) hb); have n6_ := ak_ (Kd.R_below (kr_ HO596) hb); have n7_ := ak_ (Kd.R_below (kr_ HO600) hb); have n8_ := ak_ (below_step hb_ hb); clear HO568 HO570 HO579 HO581 HO590 HO592 HO596 HO600 HB; have HO568 := n0_; have HO570 := n1_; have HO579 := n2_; have HO581 := n3_; have HO590 := n4_; have HO592 := n5_; have HO596 := n6_; have HO600 := n7_; have HB := n8_; clear n0_ n1_ n2_ n3_ n4_ n5_ n6_ n7_ n8_; clear hb))
                 go_meet
                 case rel => exact ⟨_, ((t608 != t609)), fr_, H', ⟨by first | omega | exact Nat.le_refl _⟩, ⟨by (with_reducible repeat (first | apply Kd.R_alloc | apply Kd.R_drewN | apply Kd.R_drew)); exact Kd.R_mono HO568.out (fun _ hk => ⟨hk.1.2, hk.2⟩)⟩, ⟨by (with_reducible repeat (first | apply Kd.R_alloc | apply Kd.R_drewN | apply Kd.R_drew)); exact Kd.R_mono HO570.out (fun _ hk => ⟨hk.1.2, hk.2⟩)⟩, ⟨by (with_reducible repeat (first | apply Kd.R_alloc | apply Kd.R_drewN | apply Kd.R_drew)); exact Kd.R_mono HO579.out (fun _ hk => ⟨hk.1.2, hk.2⟩)⟩, ⟨by (with_reducible repeat (first | apply Kd.R_alloc | apply Kd.R_drewN | apply Kd.R_drew)); exact Kd.R_mono HO581.out (fun _ hk => ⟨hk.1.2, hk.2⟩)⟩, ⟨by (with_reducible repeat (first | apply Kd.R_alloc | apply Kd.R_drewN | apply Kd.R_drew)); exact Kd.R_mono HO590.out (fun _ hk => ⟨hk.1.2, hk.2⟩)⟩, ⟨by (with_reducible repeat (first | apply Kd.R_alloc | apply Kd.R_drewN | apply Kd.R_drew)); exact Kd.R_mono HO592.out (fun _ hk => ⟨hk.1.2, hk.2⟩)⟩, ⟨by (with_reducible repeat (first | apply Kd.R_alloc | apply Kd.R_drewN | apply Kd.R_drew)); exact Kd.R_mono HO600.out (fun _ hk => trivial)⟩, ⟨hb_⟩⟩
               ·rw [if_neg c42] at H
                have c42b0 : (t602 == t605) = false := beq_eq_false_iff_ne.mpr c42
                have c42b1 : (t602 != t605) = true := bne_iff_ne.mpr c42
                have H' := ak_ H
                clear H
                obtain ⟨Ao49, co49, eo49⟩ := Kd.R_slice HO596.out
                subst eo49
                obtain ⟨Ao50, co50, eo50⟩ := Kd.R_slice HO600.out
                subst eo50
                go_wp2_with (first | (go_at_call 43; (with_reducible refine (laws_f6texts.calls k _ _ t593 _ _ t597 true _ ?side1 ?side2 ?side3 ?side4 A38.out).mono ?_); (case side1 => repeat (first | exact (Kd.R_reads' HO596.out).2.2 | (with_reducible refine Kd.C_alloc ?_ _) | (with_reducible refine Kd.C_drewN ?_ _) | (with_reducible refine Kd.C_drew ?_))); (case side2 => exact (Kd.R_reads' HO596.out).2.1); (case side3 => repeat (first | exact (Kd.R_reads' HO600.out).2.2 | (with_reducible refine Kd.C_alloc ?_ _) | (with_reducible refine Kd.C_drewN ?_ _) | (with_reducible refine Kd.C_drew ?_))); (case side4 => exact (Kd.R_reads' HO600.out).2.1); rintro e w' ⟨rfl, ⟨nd, rfl⟩⟩; (try first | exact ⟨rfl, _, World.drewN_drewN _ _ _⟩ | exact ⟨rfl, _, Eq.trans (World.drewN_drewN _ _ _) (congrArg (World.drewN _) (Nat.add_assoc _ _ _))⟩)))
                go_meet
                case rel => exact ⟨_, (true), fr_, H', ⟨by first | omega | exact Nat.le_refl _⟩, ⟨by (with_reducible repeat (first | apply Kd.R_alloc | apply Kd.R_drewN | apply Kd.R_drew)); exact Kd.R_mono HO568.out (fun _ hk => ⟨hk.1.2, hk.2⟩)⟩, ⟨by (with_reducible repeat (first | apply Kd.R_alloc | apply Kd.R_drewN | apply Kd.R_drew)); exact Kd.R_mono HO570.out (fun _ hk => ⟨hk.1.2, hk.2⟩)⟩, ⟨by (with_reducible repeat (first | apply Kd.R_alloc | apply Kd.R_drewN | apply Kd.R_drew)); exact Kd.R_mono HO579.out (fun _ hk => ⟨hk.1.2, hk.2⟩)⟩, ⟨by (with_reducible repeat (first | apply Kd.R_alloc | apply Kd.R_drewN | apply Kd.R_drew)); exact Kd.R_mono HO581.out (fun _ hk => ⟨hk.1.2, hk.2⟩)⟩, ⟨by (with_reducible repeat (first | apply Kd.R_alloc | apply Kd.R_drewN | apply Kd.R_drew)); exact Kd.R_mono HO590.out (fun _ hk => ⟨hk.1.2, hk.2⟩)⟩, ⟨by (with_reducible repeat (first | apply Kd.R_alloc | apply Kd.R_drewN | apply Kd.R_drew)); exact Kd.R_mono HO592.out (fun _ hk => ⟨hk.1.2, hk.2⟩)⟩, ⟨by (with_reducible repeat (first | apply Kd.R_alloc | apply Kd.R_drewN | apply Kd.R_drew)); exact Kd.R_mono HO600.out (fun _ hk => trivial)⟩, ⟨hb_⟩⟩
              ·rw [if_neg c41] at H
               have c41b0 : (t601.toList == t604.toList) = false := beq_eq_false_iff_ne.mpr c41
               have c41b1 : (t601.toList != t604.toList) = true := bne_iff_ne.mpr c41
               have H' := ak_ H
               clear H
               obtain ⟨Ao51, co51, eo51⟩ := Kd.R_slice HO596.out
               subst eo51
               obtain ⟨Ao52, co52, eo52⟩ := Kd.R_slice HO600.out
               subst eo52
               go_wp2_with (first | (go_at_call 43; (with_reducible refine (laws_f6texts.calls k _ _ t593 _ _ t597 true _ ?side1 ?side2 ?side3 ?side4 A38.out).mono ?_); (case side1 => repeat (first | exact (Kd.R_reads' HO596.out).2.2 | (with_reducible refine Kd.C_alloc ?_ _) | (with_reducible refine Kd.C_drewN ?_ _) | (with_reducible refine Kd.C_drew ?_))); (case side2 => exact (Kd.R_reads' HO596.out).2.1); (case side3 => repeat (first | exact (Kd.R_reads' HO600.out).2.2 | (with_reducible refine Kd.C_alloc ?_ _) | (with_reducible refine Kd.C_drewN ?_ _) | (with_reducible refine Kd.C_drew ?_))); (case side4 => exact (Kd.R_reads' HO600.out).2.1); rintro e w' ⟨rfl, ⟨nd, rfl⟩⟩; (try first | exact ⟨rfl, _, World.drewN_drewN _ _ _⟩ | exact ⟨rfl, _, Eq.trans (World.drewN_drewN _ _ _) (congrArg (World.drewN _) (Nat.add_assoc _ _ _))⟩)))
               go_meet
               case rel => exact ⟨_, (true), fr_, H', ⟨by first | omega | exact Nat.le_refl _⟩, ⟨by (with_reducible repeat (first | apply Kd.R_alloc | apply Kd.R_drewN | apply Kd.R_drew)); exact Kd.R_mono HO568.out (fun _ hk => ⟨hk.1.2, hk.2⟩)⟩, ⟨by (with_reducible repeat (first | apply Kd.R_alloc | apply Kd.R_drewN | apply Kd.R_drew)); exact Kd.R_mono HO570.out (fun _ hk => ⟨hk.1.2, hk.2⟩)⟩, ⟨by (with_reducible repeat (first | apply Kd.R_alloc | apply Kd.R_drewN | apply Kd.R_drew)); exact Kd.R_mono HO579.out (fun _ hk => ⟨hk.1.2, hk.2⟩)⟩, ⟨by (with_reducible repeat (first | apply Kd.R_alloc | apply Kd.R_drewN | apply Kd.R_drew)); exact Kd.R_mono HO581.out (fun _ hk => ⟨hk.1.2, hk.2⟩)⟩, ⟨by (with_reducible repeat (first | apply Kd.R_alloc | apply Kd.R_drewN | apply Kd.R_drew)); exact Kd.R_mono HO590.out (fun _ hk => ⟨hk.1.2, hk.2⟩)⟩, ⟨by (with_reducible repeat (first | apply Kd.R_alloc | apply Kd.R_drewN | apply Kd.R_drew)); exact Kd.R_mono HO592.out (fun _ hk => ⟨hk.1.2, hk.2⟩)⟩, ⟨by (with_reducible repeat (first | apply Kd.R_alloc | apply Kd.R_drewN | apply Kd.R_drew)); exact Kd.R_mono HO600.out (fun _ hk => trivial)⟩, ⟨hb_⟩⟩
            ·rw [if_neg c40] at H
             have c40b0 : (t603 == t606) = false := beq_eq_false_iff_ne.mpr c40
             have c40b1 : (t603 != t606) = true := bne_iff_ne.mpr c40
             have H' := ak_ H
             clear H
             obtain ⟨Ao53, co53, eo53⟩ := Kd.R_slice HO596.out
             subst eo53
             obtain ⟨Ao54, co54, eo54⟩ := Kd.R_slice HO600.out
             subst eo54
             go_wp2_with (first | (go_at_call 43; (with_reducible refine (laws_f6texts.calls k _ _ t593 _ _ t597 true _ ?side1 ?side2 ?side3 ?side4 A38.out).mono ?_); (case side1 => repeat (first | exact (Kd.R_reads' HO596.out).2.2 | (with_reducible refine Kd.C_alloc ?_ _) | (with_reducible refine Kd.C_drewN ?_ _) | (with_reducible refine Kd.C_drew ?_))); (case side2 => exact (Kd.R_reads' HO596.out).2.1); (case side3 => repeat (first | exact (Kd.R_reads' HO600.out).2.2 | (with_reducible refine Kd.C_alloc ?_ _) | (with_reducible refine Kd.C_drewN ?_ _) | (with_reducible refine Kd.C_drew ?_))); (case side4 => exact (Kd.R_reads' HO600.out).2.1); rintro e w' ⟨rfl, ⟨nd, rfl⟩⟩; (try first | exact ⟨rfl, _, World.drewN_drewN _ _ _⟩ | exact ⟨rfl, _, Eq.trans (World.drewN_drewN _ _ _) (congrArg (World.drewN _) (Nat.add_assoc _ _ _))⟩)))
             go_meet
             case rel => exact ⟨_, (true), fr_, H', ⟨by first | omega | exact Nat.le_refl _⟩, ⟨by (with_reducible repeat (first | apply Kd.R_alloc | apply Kd.R_drewN | apply Kd.R_drew)); exact Kd.R_mono HO568.out (fun _ hk => ⟨hk.1.2, hk.2⟩)⟩, ⟨by (with_reducible repeat (first | apply Kd.R_alloc | apply Kd.R_drewN | apply Kd.R_drew)); exact Kd.R_mono HO570.out (fun _ hk => ⟨hk.1.2, hk.2⟩)⟩, ⟨by (with_reducible repeat (first | apply Kd.R_alloc | apply Kd.R_drewN | apply Kd.R_drew)); exact Kd.R_mono HO579.out (fun _ hk => ⟨hk.1.2, hk.2⟩)⟩, ⟨by (with_reducible repeat (first | apply Kd.R_alloc | apply Kd.R_drewN | apply Kd.R_drew)); exact Kd.R_mono HO581.out (fun _ hk => ⟨hk.1.2, hk.2⟩)⟩, ⟨by (with_reducible repeat (first | apply Kd.R_alloc | apply Kd.R_drewN | apply Kd.R_drew)); exact Kd.R_mono HO590.out (fun _ hk => ⟨hk.1.2, hk.2⟩)⟩, ⟨by (with_reducible repeat (first | apply Kd.R_alloc | apply Kd.R_drewN | apply Kd.R_drew)); exact Kd.R_mono HO592.out (fun _ hk => ⟨hk.1.2, hk.2⟩)⟩, ⟨by (with_reducible repeat (first | apply Kd.R_alloc | apply Kd.R_drewN | apply Kd.R_drew)); exact Kd.R_mono HO600.out (fun _ hk => trivial)⟩, ⟨hb_⟩⟩
           ·replace c39 := Bool.eq_false_iff.mpr c39
            subst c39
            have H1 : (laws_FnWear.j0 k t563 t564 t565 t566 t572 t573 t575 t576 t577 t583 t584 t586 t587 t588 t594 t597 t603 t605 true) = some r := by rw [if_neg (show ¬ (false = true) by decide)] at H; exact H
            clear H
            have H := H1
            clear H1
            have H' := ak_ H
            clear H
            obtain ⟨Ao55, co55, eo55⟩ := Kd.R_slice HO596.out
            subst eo55
            obtain ⟨Ao56, co56, eo56⟩ := Kd.R_slice HO600.out
            subst eo56
            go_wp2_with (first | (go_at_call 43; (with_reducible refine (laws_f6texts.calls k _ _ t593 _ _ t597 false _ ?side1 ?side2 ?side3 ?side4 A38.out).mono ?_); (case side1 => repeat (first | exact (Kd.R_reads' HO596.out).2.2 | (with_reducible refine Kd.C_alloc ?_ _) | (with_reducible refine Kd.C_drewN ?_ _) | (with_reducible refine Kd.C_drew ?_))); (case side2 => exact (Kd.R_reads' HO596.out).2.1); (case side3 => repeat (first | exact (Kd.R_reads' HO600.out).2.2 | (with_reducible refine Kd.C_alloc ?_ _) | (with_reducible refine Kd.C_drewN ?_ _) | (with_reducible refine Kd.C_drew ?_))); (case side4 => exact (Kd.R_reads' HO600.out).2.1); rintro e w' ⟨rfl, ⟨nd, rfl⟩⟩; (try first | exact ⟨rfl, _, World.drewN_drewN _ _ _⟩ | exact ⟨rfl, _, Eq.trans (World.drewN_drewN _ _ _) (congrArg (World.drewN _) (Nat.add_assoc _ _ _))⟩)))
            go_meet
            case rel => exact ⟨_, (true), fr_, H', ⟨by first | omega | exact Nat.le_refl _⟩, ⟨by (with_reducible repeat (first | apply Kd.R_alloc | apply Kd.R_drewN | apply Kd.R_drew)); exact Kd.R_mono HO568.out (fun _ hk => ⟨hk.1.2, hk.2⟩)⟩, ⟨by (with_reducible repeat (first | apply Kd.R_alloc | apply Kd.R_drewN | apply Kd.R_drew)); exact Kd.R_mono HO570.out (fun _ hk => ⟨hk.1.2, hk.2⟩)⟩, ⟨by (with_reducible repeat (first | apply Kd.R_alloc | apply Kd.R_drewN | apply Kd.R_drew)); exact Kd.R_mono HO579.out (fun _ hk => ⟨hk.1.2, hk.2⟩)⟩, ⟨by (with_reducible repeat (first | apply Kd.R_alloc | apply Kd.R_drewN | apply Kd.R_drew)); exact Kd.R_mono HO581.out (fun _ hk => ⟨hk.1.2, hk.2⟩)⟩, ⟨by (with_reducible repeat (first | apply Kd.R_alloc | apply Kd.R_drewN | apply Kd.R_drew)); exact Kd.R_mono HO590.out (fun _ hk => ⟨hk.1.2, hk.2⟩)⟩, ⟨by (with_reducible repeat (first | apply Kd.R_alloc | apply Kd.R_drewN | apply Kd.R_drew)); exact Kd.R_mono HO592.out (fun _ hk => ⟨hk.1.2, hk.2⟩)⟩, ⟨by (with_reducible repeat (first | apply Kd.R_alloc | apply Kd.R_drewN | apply Kd.R_drew)); exact Kd.R_mono HO600.out (fun _ hk => trivial)⟩, ⟨hb_⟩⟩
         ·rw [if_neg c37] at H
          have c37b0 : (t594 == t598) = false := beq_eq_false_iff_ne.mpr c37
          have c37b1 : (t594 != t598) = true := bne_iff_ne.mpr c37
          have H' := ak_ H
          clear H
          go_wp2
          repeat (go_quiet (fail); try go_wp2)
          go_meet
          case rel => exact ⟨_, (true), fr_, H', ⟨by first | omega | exact Nat.le_refl _⟩, ⟨by (with_reducible repeat (first | apply Kd.R_alloc | apply Kd.R_drewN | apply Kd.R_drew)); exact Kd.R_mono HO568.out (fun _ hk => ⟨hk.1.2, hk.2⟩)⟩, ⟨by (with_reducible repeat (first | apply Kd.R_alloc | apply Kd.R_drewN | apply Kd.R_drew)); exact Kd.R_mono HO570.out (fun _ hk => ⟨hk.1.2, hk.2⟩)⟩, ⟨by (with_reducible repeat (first | apply Kd.R_alloc | apply Kd.R_drewN | apply Kd.R_drew)); exact Kd.R_mono HO579.out (fun _ hk => ⟨hk.1.2, hk.2⟩)⟩, ⟨by (with_reducible repeat (first | apply Kd.R_alloc | apply Kd.R_drewN | apply Kd.R_drew)); exact Kd.R_mono HO581.out (fun _ hk => ⟨hk.1.2, hk.2⟩)⟩, ⟨by (with_reducible repeat (first | apply Kd.R_alloc | apply Kd.R_drewN | apply Kd.R_drew)); exact Kd.R_mono HO590.out (fun _ hk => ⟨hk.1.2, hk.2⟩)⟩, ⟨by (with_reducible repeat (first | apply Kd.R_alloc | apply Kd.R_drewN | apply Kd.R_drew)); exact Kd.R_mono HO592.out (fun _ hk => ⟨hk.1.2, hk.2⟩)⟩, ⟨by (with_reducible repeat (first | apply Kd.R_alloc | apply Kd.R_drewN | apply Kd.R_drew)); exact Kd.R_mono HO600.out (fun _ hk => trivial)⟩, ⟨hb_⟩⟩
        ·rw [if_neg c36] at H
         have c36b0 : (t582 == t584) = false := beq_eq_false_iff_ne.mpr c36
         have c36b1 : (t582 != t584) = true := bne_iff_ne.mpr c36
         have H' := ak_ H
         clear H
         go_wp2
         repeat (go_quiet (fail); try go_wp2)
         go_meet
         case rel => exact ⟨_, (true), fr_, H', ⟨by first | omega | exact Nat.le_refl _⟩, ⟨by (with_reducible repeat (first | apply Kd.R_alloc | apply Kd.R_drewN | apply Kd.R_drew)); exact Kd.R_mono HO568.out (fun _ hk => ⟨hk.1.2, hk.2⟩)⟩, ⟨by (with_reducible repeat (first | apply Kd.R_alloc | apply Kd.R_drewN | apply Kd.R_drew)); exact Kd.R_mono HO570.out (fun _ hk => ⟨hk.1.2, hk.2⟩)⟩, ⟨by (with_reducible repeat (first | apply Kd.R_alloc | apply Kd.R_drewN | apply Kd.R_drew)); exact Kd.R_mono HO579.out (fun _ hk => ⟨hk.1.2, hk.2⟩)⟩, ⟨by (with_reducible repeat (first | apply Kd.R_alloc | apply Kd.R_drewN | apply Kd.R_drew)); exact Kd.R_mono HO581.out (fun _ hk => ⟨hk.1.2, hk.2⟩)⟩, ⟨by (with_reducible repeat (first | apply Kd.R_alloc | apply Kd.R_drewN | apply Kd.R_drew)); exact Kd.R_mono HO590.out (fun _ hk => ⟨hk.1.2, hk.2⟩)⟩, ⟨by (with_reducible repeat (first | apply Kd.R_alloc | apply Kd.R_drewN | apply Kd.R_drew)); exact Kd.R_mono HO592.out (fun _ hk => ⟨hk.1.2, hk.2⟩)⟩, ⟨by (with_reducible repeat (first | apply Kd.R_alloc | apply Kd.R_drewN | apply Kd.R_drew)); exact Kd.R_mono HO600.out (fun _ hk => trivial)⟩, ⟨hb_⟩⟩
       ·rw [if_neg c35] at H
        have c35b0 : (t583 == t585) = false := beq_eq_false_iff_ne.mpr c35
        have c35b1 : (t583 != t585) = true := bne_iff_ne.mpr c35
        have H' := ak_ H
        clear H
        go_wp2
        repeat (go_quiet (fail); try go_wp2)
        go_meet
        case rel => exact ⟨_, (true), fr_, H', ⟨by first | omega | exact Nat.le_refl _⟩, ⟨by (with_reducible repeat (first | apply Kd.R_alloc | apply Kd.R_drewN | apply Kd.R_drew)); exact Kd.R_mono HO568.out (fun _ hk => ⟨hk.1.2, hk.2⟩)⟩, ⟨by (with_reducible repeat (first | apply Kd.R_alloc | apply Kd.R_drewN | apply Kd.R_drew)); exact Kd.R_mono HO570.out (fun _ hk => ⟨hk.1.2, hk.2⟩)⟩, ⟨by (with_reducible repeat (first | apply Kd.R_alloc | apply Kd.R_drewN | apply Kd.R_drew)); exact Kd.R_mono HO579.out (fun _ hk => ⟨hk.1.2, hk.2⟩)⟩, ⟨by (with_reducible repeat (first | apply Kd.R_alloc | apply Kd.R_drewN | apply Kd.R_drew)); exact Kd.R_mono HO581.out (fun _ hk => ⟨hk.1.2, hk.2⟩)⟩, ⟨by (with_reducible repeat (first | apply Kd.R_alloc | apply Kd.R_drewN | apply Kd.R_drew)); exact Kd.R_mono HO590.out (fun _ hk => ⟨hk.1.2, hk.2⟩)⟩, ⟨by (with_reducible repeat (first | apply Kd.R_alloc | apply Kd.R_drewN | apply Kd.R_drew)); exact Kd.R_mono HO592.out (fun _ hk => ⟨hk.1.2, hk.2⟩)⟩, ⟨by (with_reducible repeat (first | apply Kd.R_alloc | apply Kd.R_drewN | apply Kd.R_drew)); exact Kd.R_mono HO600.out (fun _ hk => trivial)⟩, ⟨hb_⟩⟩
      ·rw [if_neg c34] at H
       have c34b0 : (t571 == t573) = false := beq_eq_false_iff_ne.mpr c34
       have c34b1 : (t571 != t573) = true := bne_iff_ne.mpr c34
       have H' := ak_ H
       clear H
       go_wp2
       repeat (go_quiet (fail); try go_wp2)
       go_meet
       case rel => exact ⟨_, (true), fr_, H', ⟨by first | omega | exact Nat.le_refl _⟩, ⟨by (with_reducible repeat (first | apply Kd.R_alloc | apply Kd.R_drewN | apply Kd.R_drew)); exact Kd.R_mono HO568.out (fun _ hk => ⟨hk.1.2, hk.2⟩)⟩, ⟨by (with_reducible repeat (first | apply Kd.R_alloc | apply Kd.R_drewN | apply Kd.R_drew)); exact Kd.R_mono HO570.out (fun _ hk => ⟨hk.1.2, hk.2⟩)⟩, ⟨by (with_reducible repeat (first | apply Kd.R_alloc | apply Kd.R_drewN | apply Kd.R_drew)); exact Kd.R_mono HO579.out (fun _ hk => ⟨hk.1.2, hk.2⟩)⟩, ⟨by (with_reducible repeat (first | apply Kd.R_alloc | apply Kd.R_drewN | apply Kd.R_drew)); exact Kd.R_mono HO581.out (fun _ hk => ⟨hk.1.2, hk.2⟩)⟩, ⟨by (with_reducible repeat (first | apply Kd.R_alloc | apply Kd.R_drewN | apply Kd.R_drew)); exact Kd.R_mono HO590.out (fun _ hk => ⟨hk.1.2, hk.2⟩)⟩, ⟨by (with_reducible repeat (first | apply Kd.R_alloc | apply Kd.R_drewN | apply Kd.R_drew)); exact Kd.R_mono HO592.out (fun _ hk => ⟨hk.1.2, hk.2⟩)⟩, ⟨by (with_reducible repeat (first | apply Kd.R_alloc | apply Kd.R_drewN | apply Kd.R_drew)); exact Kd.R_mono HO600.out (fun _ hk => trivial)⟩, ⟨hb_⟩⟩
     ·rw [if_neg c33] at H
      have c33b0 : (t572 == t574) = false := beq_eq_false_iff_ne.mpr c33
      have c33b1 : (t572 != t574) = true := bne_iff_ne.mpr c33
      (first | rw [c33b0] | (simp only [i64_w, i32_w]; rw [c33b0]) | skip)
      have H' := ak_ H
      clear H
      go_wp2
      repeat (go_quiet (fail); try go_wp2)
      go_meet
      case rel => exact ⟨_, (true), fr_, H', ⟨by first | omega | exact Nat.le_refl _⟩, ⟨by (with_reducible repeat (first | apply Kd.R_alloc | apply Kd.R_drewN | apply Kd.R_drew)); exact Kd.R_mono HO568.out (fun _ hk => ⟨hk.1.2, hk.2⟩)⟩, ⟨by (with_reducible repeat (first | apply Kd.R_alloc | apply Kd.R_drewN | apply Kd.R_drew)); exact Kd.R_mono HO570.out (fun _ hk => ⟨hk.1.2, hk.2⟩)⟩, ⟨by (with_reducible repeat (first | apply Kd.R_alloc | apply Kd.R_drewN | apply Kd.R_drew)); exact Kd.R_mono HO579.out (fun _ hk => ⟨hk.1.2, hk.2⟩)⟩, ⟨by (with_reducible repeat (first | apply Kd.R_alloc | apply Kd.R_drewN | apply Kd.R_drew)); exact Kd.R_mono HO581.out (fun _ hk => ⟨hk.1.2, hk.2⟩)⟩, ⟨by (with_reducible repeat (first | apply Kd.R_alloc | apply Kd.R_drewN | apply Kd.R_drew)); exact Kd.R_mono HO590.out (fun _ hk => ⟨hk.1.2, hk.2⟩)⟩, ⟨by (with_reducible repeat (first | apply Kd.R_alloc | apply Kd.R_drewN | apply Kd.R_drew)); exact Kd.R_mono HO592.out (fun _ hk => ⟨hk.1.2, hk.2⟩)⟩, ⟨by (with_reducible repeat (first | apply Kd.R_alloc | apply Kd.R_drewN | apply Kd.R_drew)); exact Kd.R_mono HO600.out (fun _ hk => trivial)⟩, ⟨hb_⟩⟩
   case rest =>
    clear HC15
    try clear p2
    try clear c3
    try clear c4
    try clear c5
    try clear c33
    try clear c33b0
    try clear c33b1
    try clear c34
    try clear c34b0
    try clear c34b1
    try clear c35
    try clear c35b0
    try clear c35b1
    try clear c36
    try clear c36b0
    try clear c36b1
    try clear c37
    try clear c37b0
    try clear c37b1
    try clear c39
    try clear c40
    try clear c40b0
    try clear c40b1
    try clear c41
    try clear c41b0
    try clear c41b1
    try clear c42
    try clear c42b0
    try clear c42b1
    obtain ⟨kq, x170_14, rfl, HA, HJ14, HO_3, HO_4, HO_11, HO_12, HO_18, HO_19, HO_23, HB⟩ := hcut
    cases kq with
    | zero => exact absurd HA.out (by simp [laws_FnWear.j0])
    | succ kj14 =>
     have H := HA.out
     clear HA
     simp only [laws_FnWear.j0] at H
     by_cases c57 : x170_14 = true
     ·subst c57
      have H1 : (some false) = some r := by rw [if_pos rfl] at H; exact H
      clear H
      have H := H1
      clear H1
      obtain rfl := Option.some.inj H
      go_wp2
      repeat (go_quiet (fail); try go_wp2)
      go_ret
      exact ⟨ew_, hb_⟩
     ·replace c57 := Bool.eq_false_iff.mpr c57
      subst c57
      have H1 : (if t594 = 0 then (laws_FnWear.l0 kj14 t563 t564 t565 t566 t572 t573 t575 t576 t577 t583 t584 t586 t587 t588 t597 t603 t605 0) else (laws_FnWear.j2 kj14 t563 t564 t565 t566 t572 t573 t575 t576 t577 t583 t584 t603 t605)) = some r := by rw [if_neg (show ¬ (false = true) by decide)] at H; exact H
      clear H
      have H := H1
      clear H1
      have HC58 := ak_ H
      clear H
      go_upto_if 172 with (fail)
      repeat (go_quiet (fail); go_upto_if 172 with (fail))
      go_cut [] (fun wc => ∃ (kq : Nat), Aside0 (laws_FnWear.j2 kq t563 t564 t565 t566 t572 t573 t575 t576 t577 t583 t584 t603 t605 = some r) ∧ Aside0 (kq ≤ kj14) ∧ Aside0 (Kd.R k72 72 wc w.heap.size (fun k_ => some k_ ≠ ((.slice Ao22 t575.length co22) : Value).ownBlock) (.slice Ao17 t563.length co17) t563) ∧ Aside0 (Kd.R k75 75 wc w.heap.size (fun k_ => some k_ ≠ ((.slice Ao23 t576.length co23) : Value).ownBlock) (.slice Ao18 t564.length co18) t564) ∧ Aside0 (Kd.R k72 72 wc w.heap.size (fun k_ => some k_ ≠ ((.slice Ao17 t563.length co17) : Value).ownBlock) (.slice Ao22 t575.length co22) t575) ∧ Aside0 (Kd.R k75 75 wc w.heap.size (fun k_ => some k_ ≠ ((.slice Ao18 t564.length co18) : Value).ownBlock) (.slice Ao23 t576.length co23) t576) ∧ Aside0 (Below w.heap.size w wc))
      case first =>
       have H := HC58.out
       clear HC58
       by_cases c59 : t594 = 0
       ·rw [if_pos c59] at H
        have c59b0 : (t594 == 0) = true := beq_iff_eq.mpr c59
        have c59b1 : (t594 != 0) = false := bne_eq_false_iff_eq.mpr c59
        clear c59
        (first | rw [c59b0] | (simp only [i64_w, i32_w]; rw [c59b0]) | skip)
        have H' := ak_ H
        clear H
        go_wp2
        repeat (go_quiet (fail); try go_wp2)
        go_loopg [31] kj14 (fun kq v31 w' => ∃ (x31_2 : Int), v31 = .int .i64 x31_2 ∧ Aside0 (laws_FnWear.l0 kq t563 t564 t565 t566 t572 t573 t575 t576 t577 t583 t584 t586 t587 t588 t597 t603 t605 x31_2 = some r) ∧ Aside0 (kq ≤ kj14) ∧ Aside0 (Kd.R k72 72 w' w.heap.size (fun k_ => some k_ ≠ ((.slice Ao22 t575.length co22) : Value).ownBlock ∧ some k_ ≠ ((.slice Ao27 t586.length co27) : Value).ownBlock) (.slice Ao17 t563.length co17) t563) ∧ Aside0 (Kd.R k75 75 w' w.heap.size (fun k_ => some k_ ≠ ((.slice Ao23 t576.length co23) : Value).ownBlock ∧ some k_ ≠ ((.slice Ao28 t587.length co28) : Value).ownBlock) (.slice Ao18 t564.length co18) t564) ∧ Aside0 (Kd.R k72 72 w' w.heap.size (fun k_ => some k_ ≠ ((.slice Ao17 t563.length co17) : Value).ownBlock ∧ some k_ ≠ ((.slice Ao27 t586.length co27) : Value).ownBlock) (.slice Ao22 t575.length co22) t575) ∧ Aside0 (Kd.R k75 75 w' w.heap.size (fun k_ => some k_ ≠ ((.slice Ao18 t564.length co18) : Value).ownBlock ∧ some k_ ≠ ((.slice Ao28 t587.length co28) : Value).ownBlock) (.slice Ao23 t576.length co23) t576) ∧ Aside0 (Kd.R k72 72 w' w.heap.size (fun k_ => some k_ ≠ ((.slice Ao17 t563.length co17) : Value).ownBlock ∧ some k_ ≠ ((.slice Ao22 t575.length co22) : Value).ownBlock) (.slice Ao27 t586.length co27) t586) ∧ Aside0 (Kd.R k75 75 w' w.heap.size (fun k_ => some k_ ≠ ((.slice Ao18 t564.length co18) : Value).ownBlock ∧ some k_ ≠ ((.slice Ao23 t576.length co23) : Value).ownBlock) (.slice Ao28 t587.length co28) t587) ∧ Aside0 (Kd.R Kd.string 9 w' w.heap.size (fun _ => True) v599 t597) ∧ Aside0 (Below w.heap.size w w'))
        case atStart => exact ⟨(0), fr_, H', ⟨Nat.le_refl _⟩, ⟨kr_ HO_3⟩, ⟨kr_ HO_4⟩, ⟨kr_ HO_11⟩, ⟨kr_ HO_12⟩, ⟨kr_ HO_18⟩, ⟨kr_ HO_19⟩, ⟨kr_ HO_23⟩, ⟨hb_⟩⟩
        case round =>
         as_aux_lemma =>
          clear H'
          try clear p2
          try clear c3
          try clear c4
          try clear c5
          try clear c33
          try clear c33b0
          try clear c33b1
          try clear c34
          try clear c34b0
          try clear c34b1
          try clear c35
          try clear c35b0
          try clear c35b1
          try clear c36
          try clear c36b0
          try clear c36b1
          try clear c37
          try clear c37b0
          try clear c37b1
          try clear c39
          try clear c40
          try clear c40b0
          try clear c40b1
          try clear c41
          try clear c41b0
          try clear c41b1
          try clear c42
          try clear c42b0
          try clear c42b1
          try clear c57
          try clear c59
          try clear c59b0
          try clear c59b1
          try clear p2
          obtain ⟨x31_2, rfl, HA, HK2, HO_3, HO_4, HO_11, HO_12, HO_18, HO_19, HO_23, HB⟩ := hrel
          cases gk with
          | zero => exact absurd HA.out (by simp [laws_FnWear.l0])
          | succ k2 =>
           have H := HA.out
           clear HA
           simp only [laws_FnWear.l0] at H
           by_cases c60 : x31_2 < (t586.length : Int)
           ·rw [if_pos c60] at H
            have c60b0 : decide (x31_2 < (t586.length : Int)) = true := dt_ c60
            clear c60
            by_cases c61 : 0 ≤ x31_2
            ·rw [if_pos c61] at H
             have c61b0 : decide (0 ≤ x31_2) = true := dt_ c61
             clear c61
             replace H := ob_ H
             obtain ⟨⟨t611, t612⟩, A620, H⟩ := H
             replace H : (if t612 = 0 then ((laws_f6word.f k2 t597 ((rd_T72 t586 x31_2).f0)).bind fun t615 => (if ((decide (t611 > ((rd_T72 t586 x31_2).f3))) != t615) = true then (some false) else (laws_FnWear.l0 k2 t563 t564 t565 t566 t572 t573 t575 t576 t577 t583 t584 t586 t587 t588 t597 t603 t605 (wrap64 (x31_2 + 1))))) else (some false)) = some r := H
             have A62 := ak_ A620
             clear A620
             by_cases c63 : t612 = 0
             ·rw [if_pos c63] at H
              have c63b0 : (t612 == 0) = true := beq_iff_eq.mpr c63
              have c63b1 : (t612 != 0) = false := bne_eq_false_iff_eq.mpr c63
              clear c63
              replace H := ob_ H
              obtain ⟨t615, A640, H⟩ := H
              replace H : (if ((decide (t611 > ((rd_T72 t586 x31_2).f3))) != t615) = true then (some false) else (laws_FnWear.l0 k2 t563 t564 t565 t566 t572 t573 t575 t576 t577 t583 t584 t586 t587 t588 t597 t603 t605 (wrap64 (x31_2 + 1)))) = some r := H
              have A64 := ak_ A640
              clear A640
              by_cases c65 : ((decide (t611 > ((rd_T72 t586 x31_2).f3))) != t615) = true
              ·as_aux_lemma =>
                rw [if_pos c65] at H
                have c65b0 : ((decide (t611 > ((rd_T72 t586 x31_2).f3))) != t615) = true := c65
                (try (have c65b1 : decide ((decide (t611 > ((rd_T72 t586 x31_2).f3))) = t615) = false := by simpa using c65))
                (try (have c65b2 : ((decide (t611 > ((rd_T72 t586 x31_2).f3))) == t615) = false := by simpa using c65))
                (try (have c65b3 : ¬ ((decide (t611 > ((rd_T72 t586 x31_2).f3))) = t615) := by simpa using c65))
                clear c65
                obtain rfl := Option.some.inj H
                have p610 : 0 ≤ (x31_2 : Int) := od_
                have q610 : x31_2 < (t586.length : Int) := od_
                obtain ⟨ad610, e610, hx610_0, hx610_1, hx610_2, hx610_3⟩ := at_T72 (Kd.R_reads' HO_18.out).2.2 x31_2 p610 q610
                cases e610
                replace p610 := eq_true p610
                replace q610 := eq_true q610
                go_wp2_with (first | (go_at_call 33; (with_reducible refine (impl_WearOn.calls k2 _ _ t586 _ _ t587 ((rd_T72 t586 x31_2).f0) t588 t611 t612 _ ?side1 ?side2 ?side3 ?side4 A62.out).mono ?_); (case side1 => repeat (first | exact (Kd.R_reads' HO_18.out).2.2 | (with_reducible refine Kd.C_alloc ?_ _) | (with_reducible refine Kd.C_drewN ?_ _) | (with_reducible refine Kd.C_drew ?_))); (case side2 => exact (Kd.R_reads' HO_18.out).2.1); (case side3 => repeat (first | exact (Kd.R_reads' HO_19.out).2.2 | (with_reducible refine Kd.C_alloc ?_ _) | (with_reducible refine Kd.C_drewN ?_ _) | (with_reducible refine Kd.C_drew ?_))); (case side4 => exact (Kd.R_reads' HO_19.out).2.1); rintro e w66 ⟨rfl, hb⟩; have n0_ := ak_ (Kd.R_below (kr_ HO_3) hb); have n1_ := ak_ (Kd.R_below (kr_ HO_4) hb); have n2_ := ak_ (Kd.R_below (kr_ HO_11) hb); have n3_ := ak_ (Kd.R_below (kr_ HO_12) hb); have n4_ := ak_ (Kd.R_below (kr_ HO_18) hb); have n5_ := ak_ (Kd.R_below (kr_ HO_19) hb); have n6_ := ak_ (Kd.R_below (kr_ HO_23) hb); have n7_ := ak_ (below_step hb_ hb); clear HO_3 HO_4 HO_11 HO_12 HO_18 HO_19 HO_23 HB; have HO_3 := n0_; have HO_4 := n1_; have HO_11 := n2_; have HO_12 := n3_; have HO_18 := n4_; have HO_19 := n5_; have HO_23 := n6_; have HB := n7_; clear n0_ n1_ n2_ n3_ n4_ n5_ n6_ n7_; (try clear hb); (try clear hb2); (try clear hk); (try clear hi); have p613 : 0 ≤ (x31_2 : Int) := od_; have q613 : x31_2 < (t586.length : Int) := od_; obtain ⟨ad613, e613, hx613_0, hx613_1, hx613_2, hx613_3⟩ := at_T72 (Kd.R_reads' HO_18.out).2.2 x31_2 p613 q613; obtain rfl : ad610 = ad613 := (by injection e613); replace p613 := eq_true p613; replace q613 := eq_true q613; have p614 : 0 ≤ (x31_2 : Int) := od_; have q614 : x31_2 < (t586.length : Int) := od_; obtain ⟨ad614, e614, hx614_0, hx614_1, hx614_2, hx614_3⟩ := at_T72 (Kd.R_reads' HO_18.out).2.2 x31_2 p614 q614; obtain rfl : ad610 = ad614 := (by injection e614); replace p614 := eq_true p614; replace q614 := eq_true q614; obtain ⟨Ao67, co67, eo67⟩ := Kd.R_slice HO_23.out; subst eo67) | (go_at_call 46; (with_reducible refine (laws_f6word.calls k2 _ _ t597 ((rd_T72 t586 x31_2).f0) t615 _ ?side1 ?side2 A64.out).mono ?_); (case side1 => repeat (first | exact (Kd.R_reads' HO_23.out).2.2 | (with_reducible refine Kd.C_alloc ?_ _) | (with_reducible refine Kd.C_drewN ?_ _) | (with_reducible refine Kd.C_drew ?_))); (case side2 => exact (Kd.R_reads' HO_23.out).2.1); rintro e w' ⟨rfl, ⟨nd, rfl⟩⟩; (try first | exact ⟨rfl, _, World.drewN_drewN _ _ _⟩ | exact ⟨rfl, _, Eq.trans (World.drewN_drewN _ _ _) (congrArg (World.drewN _) (Nat.add_assoc _ _ _))⟩)))
                repeat (go_quiet (first | (go_at_call 33; (with_reducible refine (impl_WearOn.calls k2 _ _ t586 _ _ t587 ((rd_T72 t586 x31_2).f0) t588 t611 t612 _ ?side1 ?side2 ?side3 ?side4 A62.out).mono ?_); (case side1 => repeat (first | exact (Kd.R_reads' HO_18.out).2.2 | (with_reducible refine Kd.C_alloc ?_ _) | (with_reducible refine Kd.C_drewN ?_ _) | (with_reducible refine Kd.C_drew ?_))); (case side2 => exact (Kd.R_reads' HO_18.out).2.1); (case side3 => repeat (first | exact (Kd.R_reads' HO_19.out).2.2 | (with_reducible refine Kd.C_alloc ?_ _) | (with_reducible refine Kd.C_drewN ?_ _) | (with_reducible refine Kd.C_drew ?_))); (case side4 => exact (Kd.R_reads' HO_19.out).2.1); rintro e w66 ⟨rfl, hb⟩; have n0_ := ak_ (Kd.R_below (kr_ HO_3) hb); have n1_ := ak_ (Kd.R_below (kr_ HO_4) hb); have n2_ := ak_ (Kd.R_below (kr_ HO_11) hb); have n3_ := ak_ (Kd.R_below (kr_ HO_12) hb); have n4_ := ak_ (Kd.R_below (kr_ HO_18) hb); have n5_ := ak_ (Kd.R_below (kr_ HO_19) hb); have n6_ := ak_ (Kd.R_below (kr_ HO_23) hb); have n7_ := ak_ (below_step hb_ hb); clear HO_3 HO_4 HO_11 HO_12 HO_18 HO_19 HO_23 HB; have HO_3 := n0_; have HO_4 := n1_; have HO_11 := n2_; have HO_12 := n3_; have HO_18 := n4_; have HO_19 := n5_; have HO_23 := n6_; have HB := n7_; clear n0_ n1_ n2_ n3_ n4_ n5_ n6_ n7_; (try clear hb); (try clear hb2); (try clear hk); (try clear hi); have p613 : 0 ≤ (x31_2 : Int) := od_; have q613 : x31_2 < (t586.length : Int) := od_; obtain ⟨ad613, e613, hx613_0, hx613_1, hx613_2, hx613_3⟩ := at_T72 (Kd.R_reads' HO_18.out).2.2 x31_2 p613 q613; obtain rfl : ad610 = ad613 := (by injection e613); replace p613 := eq_true p613; replace q613 := eq_true q613; have p614 : 0 ≤ (x31_2 : Int) := od_; have q614 : x31_2 < (t586.length : Int) := od_; obtain ⟨ad614, e614, hx614_0, hx614_1, hx614_2, hx614_3⟩ := at_T72 (Kd.R_reads' HO_18.out).2.2 x31_2 p614 q614; obtain rfl : ad610 = ad614 := (by injection e614); replace p614 := eq_true p614; replace q614 := eq_true q614; obtain ⟨Ao67, co67, eo67⟩ := Kd.R_slice HO_23.out; subst eo67) | (go_at_call 46; (with_reducible refine (laws_f6word.calls k2 _ _ t597 ((rd_T72 t586 x31_2).f0) t615 _ ?side1 ?side2 A64.out).mono ?_); (case side1 => repeat (first | exact (Kd.R_reads' HO_23.out).2.2 | (with_reducible refine Kd.C_alloc ?_ _) | (with_reducible refine Kd.C_drewN ?_ _) | (with_reducible refine Kd.C_drew ?_))); (case side2 => exact (Kd.R_reads' HO_23.out).2.1); rintro e w' ⟨rfl, ⟨nd, rfl⟩⟩; (try first | exact ⟨rfl, _, World.drewN_drewN _ _ _⟩ | exact ⟨rfl, _, Eq.trans (World.drewN_drewN _ _ _) (congrArg (World.drewN _) (Nat.add_assoc _ _ _))⟩))); try go_wp2_with (first | (go_at_call 33; (with_reducible refine (impl_WearOn.calls k2 _ _ t586 _ _ t587 ((rd_T72 t586 x31_2).f0) t588 t611 t612 _ ?side1 ?side2 ?side3 ?side4 A62.out).mono ?_); (case side1 => repeat (first | exact (Kd.R_reads' HO_18.out).2.2 | (with_reducible refine Kd.C_alloc ?_ _) | (with_reducible refine Kd.C_drewN ?_ _) | (with_reducible refine Kd.C_drew ?_))); (case side2 => exact (Kd.R_reads' HO_18.out).2.1); (case side3 => repeat (first | exact (Kd.R_reads' HO_19.out).2.2 | (with_reducible refine Kd.C_alloc ?_ _) | (with_reducible refine Kd.C_drewN ?_ _) | (with_reducible refine Kd.C_drew ?_))); (case side4 => exact (Kd.R_reads' HO_19.out).2.1); rintro e w66 ⟨rfl, hb⟩; have n0_ := ak_ (Kd.R_below (kr_ HO_3) hb); have n1_ := ak_ (Kd.R_below (kr_ HO_4) hb); have n2_ := ak_ (Kd.R_below (kr_ HO_11) hb); have n3_ := ak_ (Kd.R_below (kr_ HO_12) hb); have n4_ := ak_ (Kd.R_below (kr_ HO_18) hb); have n5_ := ak_ (Kd.R_below (kr_ HO_19) hb); have n6_ := ak_ (Kd.R_below (kr_ HO_23) hb); have n7_ := ak_ (below_step hb_ hb); clear HO_3 HO_4 HO_11 HO_12 HO_18 HO_19 HO_23 HB; have HO_3 := n0_; have HO_4 := n1_; have HO_11 := n2_; have HO_12 := n3_; have HO_18 := n4_; have HO_19 := n5_; have HO_23 := n6_; have HB := n7_; clear n0_ n1_ n2_ n3_ n4_ n5_ n6_ n7_; (try clear hb); (try clear hb2); (try clear hk); (try clear hi); have p613 : 0 ≤ (x31_2 : Int) := od_; have q613 : x31_2 < (t586.length : Int) := od_; obtain ⟨ad613, e613, hx613_0, hx613_1, hx613_2, hx613_3⟩ := at_T72 (Kd.R_reads' HO_18.out).2.2 x31_2 p613 q613; obtain rfl : ad610 = ad613 := (by injection e613); replace p613 := eq_true p613; replace q613 := eq_true q613; have p614 : 0 ≤ (x31_2 : Int) := od_; have q614 : x31_2 < (t586.length : Int) := od_; obtain ⟨ad614, e614, hx614_0, hx614_1, hx614_2, hx614_3⟩ := at_T72 (Kd.R_reads' HO_18.out).2.2 x31_2 p614 q614; obtain rfl : ad610 = ad614 := (by injection e614); replace p614 := eq_true p614; replace q614 := eq_true q614; obtain ⟨Ao67, co67, eo67⟩ := Kd.R_slice HO_23.out; subst eo67) | (go_at_call 46; (with_reducible refine (laws_f6word.calls k2 _ _ t597 ((rd_T72 t586 x31_2).f0) t615 _ ?side1 ?side2 A64.out).mono ?_); (case side1 => repeat (first | exact (Kd.R_reads' HO_23.out).2.2 | (with_reducible refine Kd.C_alloc ?_ _) | (with_reducible refine Kd.C_drewN ?_ _) | (with_reducible refine Kd.C_drew ?_))); (case side2 => exact (Kd.R_reads' HO_23.out).2.1); rintro e w' ⟨rfl, ⟨nd, rfl⟩⟩; (try first | exact ⟨rfl, _, World.drewN_drewN _ _ _⟩ | exact ⟨rfl, _, Eq.trans (World.drewN_drewN _ _ _) (congrArg (World.drewN _) (Nat.add_assoc _ _ _))⟩))))
                go_ret
                exact ⟨ew_, hb_⟩
              ·as_aux_lemma =>
                rw [if_neg c65] at H
                have c65b0 : ((decide (t611 > ((rd_T72 t586 x31_2).f3))) != t615) = false := by simpa using c65
                (try (have c65b1 : decide ((decide (t611 > ((rd_T72 t586 x31_2).f3))) = t615) = true := by simpa using c65))
                (try (have c65b2 : ((decide (t611 > ((rd_T72 t586 x31_2).f3))) == t615) = true := by simpa using c65))
                clear c65
                have H' := ak_ H
                clear H
                have p610 : 0 ≤ (x31_2 : Int) := od_
                have q610 : x31_2 < (t586.length : Int) := od_
                obtain ⟨ad610, e610, hx610_0, hx610_1, hx610_2, hx610_3⟩ := at_T72 (Kd.R_reads' HO_18.out).2.2 x31_2 p610 q610
                cases e610
                replace p610 := eq_true p610
                replace q610 := eq_true q610
                go_wp2_with (first | (go_at_call 33; (with_reducible refine (impl_WearOn.calls k2 _ _ t586 _ _ t587 ((rd_T72 t586 x31_2).f0) t588 t611 t612 _ ?side1 ?side2 ?side3 ?side4 A62.out).mono ?_); (case side1 => repeat (first | exact (Kd.R_reads' HO_18.out).2.2 | (with_reducible refine Kd.C_alloc ?_ _) | (with_reducible refine Kd.C_drewN ?_ _) | (with_reducible refine Kd.C_drew ?_))); (case side2 => exact (Kd.R_reads' HO_18.out).2.1); (case side3 => repeat (first | exact (Kd.R_reads' HO_19.out).2.2 | (with_reducible refine Kd.C_alloc ?_ _) | (with_reducible refine Kd.C_drewN ?_ _) | (with_reducible refine Kd.C_drew ?_))); (case side4 => exact (Kd.R_reads' HO_19.out).2.1); rintro e w68 ⟨rfl, hb⟩; have n0_ := ak_ (Kd.R_below (kr_ HO_3) hb); have n1_ := ak_ (Kd.R_below (kr_ HO_4) hb); have n2_ := ak_ (Kd.R_below (kr_ HO_11) hb); have n3_ := ak_ (Kd.R_below (kr_ HO_12) hb); have n4_ := ak_ (Kd.R_below (kr_ HO_18) hb); have n5_ := ak_ (Kd.R_below (kr_ HO_19) hb); have n6_ := ak_ (Kd.R_below (kr_ HO_23) hb); have n7_ := ak_ (below_step hb_ hb); clear HO_3 HO_4 HO_11 HO_12 HO_18 HO_19 HO_23 HB; have HO_3 := n0_; have HO_4 := n1_; have HO_11 := n2_; have HO_12 := n3_; have HO_18 := n4_; have HO_19 := n5_; have HO_23 := n6_; have HB := n7_; clear n0_ n1_ n2_ n3_ n4_ n5_ n6_ n7_; (try clear hb); (try clear hb2); (try clear hk); (try clear hi); have p613 : 0 ≤ (x31_2 : Int) := od_; have q613 : x31_2 < (t586.length : Int) := od_; obtain ⟨ad613, e613, hx613_0, hx613_1, hx613_2, hx613_3⟩ := at_T72 (Kd.R_reads' HO_18.out).2.2 x31_2 p613 q613; obtain rfl : ad610 = ad613 := (by injection e613); replace p613 := eq_true p613; replace q613 := eq_true q613; have p614 : 0 ≤ (x31_2 : Int) := od_; have q614 : x31_2 < (t586.length : Int) := od_; obtain ⟨ad614, e614, hx614_0, hx614_1, hx614_2, hx614_3⟩ := at_T72 (Kd.R_reads' HO_18.out).2.2 x31_2 p614 q614; obtain rfl : ad610 = ad614 := (by injection e614); replace p614 := eq_true p614; replace q614 := eq_true q614; obtain ⟨Ao69, co69, eo69⟩ := Kd.R_slice HO_23.out; subst eo69) | (go_at_call 46; (with_reducible refine (laws_f6word.calls k2 _ _ t597 ((rd_T72 t586 x31_2).f0) t615 _ ?side1 ?side2 A64.out).mono ?_); (case side1 => repeat (first | exact (Kd.R_reads' HO_23.out).2.2 | (with_reducible refine Kd.C_alloc ?_ _) | (with_reducible refine Kd.C_drewN ?_ _) | (with_reducible refine Kd.C_drew ?_))); (case side2 => exact (Kd.R_reads' HO_23.out).2.1); rintro e w' ⟨rfl, ⟨nd, rfl⟩⟩; (try first | exact ⟨rfl, _, World.drewN_drewN _ _ _⟩ | exact ⟨rfl, _, Eq.trans (World.drewN_drewN _ _ _) (congrArg (World.drewN _) (Nat.add_assoc _ _ _))⟩)))
                repeat (go_quiet (first | (go_at_call 33; (with_reducible refine (impl_WearOn.calls k2 _ _ t586 _ _ t587 ((rd_T72 t586 x31_2).f0) t588 t611 t612 _ ?side1 ?side2 ?side3 ?side4 A62.out).mono ?_); (case side1 => repeat (first | exact (Kd.R_reads' HO_18.out).2.2 | (with_reducible refine Kd.C_alloc ?_ _) | (with_reducible refine Kd.C_drewN ?_ _) | (with_reducible refine Kd.C_drew ?_))); (case side2 => exact (Kd.R_reads' HO_18.out).2.1); (case side3 => repeat (first | exact (Kd.R_reads' HO_19.out).2.2 | (with_reducible refine Kd.C_alloc ?_ _) | (with_reducible refine Kd.C_drewN ?_ _) | (with_reducible refine Kd.C_drew ?_))); (case side4 => exact (Kd.R_reads' HO_19.out).2.1); rintro e w68 ⟨rfl, hb⟩; have n0_ := ak_ (Kd.R_below (kr_ HO_3) hb); have n1_ := ak_ (Kd.R_below (kr_ HO_4) hb); have n2_ := ak_ (Kd.R_below (kr_ HO_11) hb); have n3_ := ak_ (Kd.R_below (kr_ HO_12) hb); have n4_ := ak_ (Kd.R_below (kr_ HO_18) hb); have n5_ := ak_ (Kd.R_below (kr_ HO_19) hb); have n6_ := ak_ (Kd.R_below (kr_ HO_23) hb); have n7_ := ak_ (below_step hb_ hb); clear HO_3 HO_4 HO_11 HO_12 HO_18 HO_19 HO_23 HB; have HO_3 := n0_; have HO_4 := n1_; have HO_11 := n2_; have HO_12 := n3_; have HO_18 := n4_; have HO_19 := n5_; have HO_23 := n6_; have HB := n7_; clear n0_ n1_ n2_ n3_ n4_ n5_ n6_ n7_; (try clear hb); (try clear hb2); (try clear hk); (try clear hi); have p613 : 0 ≤ (x31_2 : Int) := od_; have q613 : x31_2 < (t586.length : Int) := od_; obtain ⟨ad613, e613, hx613_0, hx613_1, hx613_2, hx613_3⟩ := at_T72 (Kd.R_reads' HO_18.out).2.2 x31_2 p613 q613; obtain rfl : ad610 = ad613 := (by injection e613); replace p613 := eq_true p613; replace q613 := eq_true q613; have p614 : 0 ≤ (x31_2 : Int) := od_; have q614 : x31_2 < (t586.length : Int) := od_; obtain ⟨ad614, e614, hx614_0, hx614_1, hx614_2, hx614_3⟩ := at_T72 (Kd.R_reads' HO_18.out).2.2 x31_2 p614 q614; obtain rfl : ad610 = ad614 := (by injection e614); replace p614 := eq_true p614; replace q614 := eq_true q614; obtain ⟨Ao69, co69, eo69⟩ := Kd.R_slice HO_23.out; subst eo69) | (go_at_call 46; (with_reducible refine (laws_f6word.calls k2 _ _ t597 ((rd_T72 t586 x31_2).f0) t615 _ ?side1 ?side2 A64.out).mono ?_); (case side1 => repeat (first | exact (Kd.R_reads' HO_23.out).2.2 | (with_reducible refine Kd.C_alloc ?_ _) | (with_reducible refine Kd.C_drewN ?_ _) | (with_reducible refine Kd.C_drew ?_))); (case side2 => exact (Kd.R_reads' HO_23.out).2.1); rintro e w' ⟨rfl, ⟨nd, rfl⟩⟩; (try first | exact ⟨rfl, _, World.drewN_drewN _ _ _⟩ | exact ⟨rfl, _, Eq.trans (World.drewN_drewN _ _ _) (congrArg (World.drewN _) (Nat.add_assoc _ _ _))⟩))); try go_wp2_with (first | (go_at_call 33; (with_reducible refine (impl_WearOn.calls k2 _ _ t586 _ _ t587 ((rd_T72 t586 x31_2).f0) t588 t611 t612 _ ?side1 ?side2 ?side3 ?side4 A62.out).mono ?_); (case side1 => repeat (first | exact (Kd.R_reads' HO_18.out).2.2 | (with_reducible refine Kd.C_alloc ?_ _) | (with_reducible refine Kd.C_drewN ?_ _) | (with_reducible refine Kd.C_drew ?_))); (case side2 => exact (Kd.R_reads' HO_18.out).2.1); (case side3 => repeat (first | exact (Kd.R_reads' HO_19.out).2.2 | (with_reducible refine Kd.C_alloc ?_ _) | (with_reducible refine Kd.C_drewN ?_ _) | (with_reducible refine Kd.C_drew ?_))); (case side4 => exact (Kd.R_reads' HO_19.out).2.1); rintro e w68 ⟨rfl, hb⟩; have n0_ := ak_ (Kd.R_below (kr_ HO_3) hb); have n1_ := ak_ (Kd.R_below (kr_ HO_4) hb); have n2_ := ak_ (Kd.R_below (kr_ HO_11) hb); have n3_ := ak_ (Kd.R_below (kr_ HO_12) hb); have n4_ := ak_ (Kd.R_below (kr_ HO_18) hb); have n5_ := ak_ (Kd.R_below (kr_ HO_19) hb); have n6_ := ak_ (Kd.R_below (kr_ HO_23) hb); have n7_ := ak_ (below_step hb_ hb); clear HO_3 HO_4 HO_11 HO_12 HO_18 HO_19 HO_23 HB; have HO_3 := n0_; have HO_4 := n1_; have HO_11 := n2_; have HO_12 := n3_; have HO_18 := n4_; have HO_19 := n5_; have HO_23 := n6_; have HB := n7_; clear n0_ n1_ n2_ n3_ n4_ n5_ n6_ n7_; (try clear hb); (try clear hb2); (try clear hk); (try clear hi); have p613 : 0 ≤ (x31_2 : Int) := od_; have q613 : x31_2 < (t586.length : Int) := od_; obtain ⟨ad613, e613, hx613_0, hx613_1, hx613_2, hx613_3⟩ := at_T72 (Kd.R_reads' HO_18.out).2.2 x31_2 p613 q613; obtain rfl : ad610 = ad613 := (by injection e613); replace p613 := eq_true p613; replace q613 := eq_true q613; have p614 : 0 ≤ (x31_2 : Int) := od_; have q614 : x31_2 < (t586.length : Int) := od_; obtain ⟨ad614, e614, hx614_0, hx614_1, hx614_2, hx614_3⟩ := at_T72 (Kd.R_reads' HO_18.out).2.2 x31_2 p614 q614; obtain rfl : ad610 = ad614 := (by injection e614); replace p614 := eq_true p614; replace q614 := eq_true q614; obtain ⟨Ao69, co69, eo69⟩ := Kd.R_slice HO_23.out; subst eo69) | (go_at_call 46; (with_reducible refine (laws_f6word.calls k2 _ _ t597 ((rd_T72 t586 x31_2).f0) t615 _ ?side1 ?side2 A64.out).mono ?_); (case side1 => repeat (first | exact (Kd.R_reads' HO_23.out).2.2 | (with_reducible refine Kd.C_alloc ?_ _) | (with_reducible refine Kd.C_drewN ?_ _) | (with_reducible refine Kd.C_drew ?_))); (case side2 => exact (Kd.R_reads' HO_23.out).2.1); rintro e w' ⟨rfl, ⟨nd, rfl⟩⟩; (try first | exact ⟨rfl, _, World.drewN_drewN _ _ _⟩ | exact ⟨rfl, _, Eq.trans (World.drewN_drewN _ _ _) (congrArg (World.drewN _) (Nat.add_assoc _ _ _))⟩))))
                go_roundg k2
                case measure => have := HJ14.out; have := HK2.out; omega
                case rel => exact ⟨(wrap64 (x31_2 + 1)), fr_, H', ⟨by have := HJ14.out; have := HK2.out; omega⟩, ⟨kr_ HO_3⟩, ⟨kr_ HO_4⟩, ⟨kr_ HO_11⟩, ⟨kr_ HO_12⟩, ⟨kr_ HO_18⟩, ⟨kr_ HO_19⟩, ⟨kr_ HO_23⟩, ⟨hb_⟩⟩
             ·rw [if_neg c63] at H
              have c63b0 : (t612 == 0) = false := beq_eq_false_iff_ne.mpr c63
              have c63b1 : (t612 != 0) = true := bne_iff_ne.mpr c63
              obtain rfl := Option.some.inj H
              have p610 : 0 ≤ (x31_2 : Int) := od_
              have q610 : x31_2 < (t586.length : Int) := od_
              obtain ⟨ad610, e610, hx610_0, hx610_1, hx610_2, hx610_3⟩ := at_T72 (Kd.R_reads' HO_18.out).2.2 x31_2 p610 q610
              cases e610
              replace p610 := eq_true p610
              replace q610 := eq_true q610
              go_wp2_with (first | (go_at_call 33; (with_reducible refine (impl_WearOn.calls k2 _ _ t586 _ _ t587 ((rd_T72 t586 x31_2).f0) t588 t611 t612 _ ?side1 ?side2 ?side3 ?side4 A62.out).mono ?_); (case side1 => repeat (first | exact (Kd.R_reads' HO_18.out).2.2 | (with_reducible refine Kd.C_alloc ?_ _) | (with_reducible refine Kd.C_drewN ?_ _) | (with_reducible refine Kd.C_drew ?_))); (case side2 => exact (Kd.R_reads' HO_18.out).2.1); (case side3 => repeat (first | exact (Kd.R_reads' HO_19.out).2.2 | (with_reducible refine Kd.C_alloc ?_ _) | (with_reducible refine Kd.C_drewN ?_ _) | (with_reducible refine Kd.C_drew ?_))); (case side4 => exact (Kd.R_reads' HO_19.out).2.1); rintro e w70 ⟨rfl, hb⟩; have n0_ := ak_ (Kd.R_below (kr_ HO_3) hb); have n1_ := ak_ (Kd.R_below (kr_ HO_4) hb); have n2_ := ak_ (Kd.R_below (kr_ HO_11) hb); have n3_ := ak_ (Kd.R_below (kr_ HO_12) hb); have n4_ := ak_ (Kd.R_below (kr_ HO_18) hb); have n5_ := ak_ (Kd.R_below (kr_ HO_19) hb); have n6_ := ak_ (Kd.R_below (kr_ HO_23) hb); have n7_ := ak_ (below_step hb_ hb); clear HO_3 HO_4 HO_11 HO_12 HO_18 HO_19 HO_23 HB; have HO_3 := n0_; have HO_4 := n1_; have HO_11 := n2_; have HO_12 := n3_; have HO_18 := n4_; have HO_19 := n5_; have HO_23 := n6_; have HB := n7_; clear n0_ n1_ n2_ n3_ n4_ n5_ n6_ n7_; clear hb))
              repeat (go_quiet (first | (go_at_call 33; (with_reducible refine (impl_WearOn.calls k2 _ _ t586 _ _ t587 ((rd_T72 t586 x31_2).f0) t588 t611 t612 _ ?side1 ?side2 ?side3 ?side4 A62.out).mono ?_); (case side1 => repeat (first | exact (Kd.R_reads' HO_18.out).2.2 | (with_reducible refine Kd.C_alloc ?_ _) | (with_reducible refine Kd.C_drewN ?_ _) | (with_reducible refine Kd.C_drew ?_))); (case side2 => exact (Kd.R_reads' HO_18.out).2.1); (case side3 => repeat (first | exact (Kd.R_reads' HO_19.out).2.2 | (with_reducible refine Kd.C_alloc ?_ _) | (with_reducible refine Kd.C_drewN ?_ _) | (with_reducible refine Kd.C_drew ?_))); (case side4 => exact (Kd.R_reads' HO_19.out).2.1); rintro e w70 ⟨rfl, hb⟩; have n0_ := ak_ (Kd.R_below (kr_ HO_3) hb); have n1_ := ak_ (Kd.R_below (kr_ HO_4) hb); have n2_ := ak_ (Kd.R_below (kr_ HO_11) hb); have n3_ := ak_ (Kd.R_below (kr_ HO_12) hb); have n4_ := ak_ (Kd.R_below (kr_ HO_18) hb); have n5_ := ak_ (Kd.R_below (kr_ HO_19) hb); have n6_ := ak_ (Kd.R_below (kr_ HO_23) hb); have n7_ := ak_ (below_step hb_ hb); clear HO_3 HO_4 HO_11 HO_12 HO_18 HO_19 HO_23 HB; have HO_3 := n0_; have HO_4 := n1_; have HO_11 := n2_; have HO_12 := n3_; have HO_18 := n4_; have HO_19 := n5_; have HO_23 := n6_; have HB := n7_; clear n0_ n1_ n2_ n3_ n4_ n5_ n6_ n7_; clear hb)); try go_wp2_with (first | (go_at_call 33; (with_reducible refine (impl_WearOn.calls k2 _ _ t586 _ _ t587 ((rd_T72 t586 x31_2).f0) t588 t611 t612 _ ?side1 ?side2 ?side3 ?side4 A62.out).mono ?_); (case side1 => repeat (first | exact (Kd.R_reads' HO_18.out).2.2 | (with_reducible refine Kd.C_alloc ?_ _) | (with_reducible refine Kd.C_drewN ?_ _) | (with_reducible refine Kd.C_drew ?_))); (case side2 => exact (Kd.R_reads' HO_18.out).2.1); (case side3 => repeat (first | exact (Kd.R_reads' HO_19.out).2.2 | (with_reducible refine Kd.C_alloc ?_ _) | (with_reducible refine Kd.C_drewN ?_ _) | (with_reducible refine Kd.C_drew ?_))); (case side4 => exact (Kd.R_reads' HO_19.out).2.1); rintro e w70 ⟨rfl, hb⟩; have n0_ := ak_ (Kd.R_below (kr_ HO_3) hb); have n1_ := ak_ (Kd.R_below (kr_ HO_4) hb); have n2_ := ak_ (Kd.R_below (kr_ HO_11) hb); have n3_ := ak_ (Kd.R_below (kr_ HO_12) hb); have n4_ := ak_ (Kd.R_below (kr_ HO_18) hb); have n5_ := ak_ (Kd.R_below (kr_ HO_19) hb); have n6_ := ak_ (Kd.R_below (kr_ HO_23) hb); have n7_ := ak_ (below_step hb_ hb); clear HO_3 HO_4 HO_11 HO_12 HO_18 HO_19 HO_23 HB; have HO_3 := n0_; have HO_4 := n1_; have HO_11 := n2_; have HO_12 := n3_; have HO_18 := n4_; have HO_19 := n5_; have HO_23 := n6_; have HB := n7_; clear n0_ n1_ n2_ n3_ n4_ n5_ n6_ n7_; clear hb)))
              go_ret
              exact ⟨ew_, hb_⟩
            ·rw [if_neg c61] at H
             exact absurd H (by simp)
           ·rw [if_neg c60] at H
            have c60b0 : decide (x31_2 < (t586.length : Int)) = false := decide_eq_false c60
            clear c60
            have H' := ak_ H
            clear H
            go_wp2
            repeat (go_quiet (fail); try go_wp2)
            go_meet
            case rel => exact ⟨_, H', ⟨by have := HJ14.out; have := HK2.out; first | omega | exact Nat.le_refl _⟩, ⟨by (with_reducible repeat (first | apply Kd.R_alloc | apply Kd.R_drewN | apply Kd.R_drew)); exact Kd.R_mono HO_3.out (fun _ hk => hk.1)⟩, ⟨by (with_reducible repeat (first | apply Kd.R_alloc | apply Kd.R_drewN | apply Kd.R_drew)); exact Kd.R_mono HO_4.out (fun _ hk => hk.1)⟩, ⟨by (with_reducible repeat (first | apply Kd.R_alloc | apply Kd.R_drewN | apply Kd.R_drew)); exact Kd.R_mono HO_11.out (fun _ hk => hk.1)⟩, ⟨by (with_reducible repeat (first | apply Kd.R_alloc | apply Kd.R_drewN | apply Kd.R_drew)); exact Kd.R_mono HO_12.out (fun _ hk => hk.1)⟩, ⟨hb_⟩⟩
       ·rw [if_neg c59] at H
        have c59b0 : (t594 == 0) = false := beq_eq_false_iff_ne.mpr c59
        have c59b1 : (t594 != 0) = true := bne_iff_ne.mpr c59
        (first | rw [c59b0] | (simp only [i64_w, i32_w]; rw [c59b0]) | skip)
        have H' := ak_ H
        clear H
        go_wp2
        repeat (go_quiet (fail); try go_wp2)
        go_meet
        case rel => exact ⟨_, H', ⟨by have := HJ14.out; first | omega | exact Nat.le_refl _⟩, ⟨by (with_reducible repeat (first | apply Kd.R_alloc | apply Kd.R_drewN | apply Kd.R_drew)); exact Kd.R_mono HO_3.out (fun _ hk => hk.1)⟩, ⟨by (with_reducible repeat (first | apply Kd.R_alloc | apply Kd.R_drewN | apply Kd.R_drew)); exact Kd.R_mono HO_4.out (fun _ hk => hk.1)⟩, ⟨by (with_reducible repeat (first | apply Kd.R_alloc | apply Kd.R_drewN | apply Kd.R_drew)); exact Kd.R_mono HO_11.out (fun _ hk => hk.1)⟩, ⟨by (with_reducible repeat (first | apply Kd.R_alloc | apply Kd.R_drewN | apply Kd.R_drew)); exact Kd.R_mono HO_12.out (fun _ hk => hk.1)⟩, ⟨hb_⟩⟩
      case rest =>
       as_aux_lemma =>
        clear HC58
        try clear p2
        try clear c3
        try clear c4
        try clear c5
        try clear c6
        try clear p6
        try clear q6
        try clear hx6
        try clear c33
        try clear c33b0
        try clear c33b1
        try clear c34
        try clear c34b0
        try clear c34b1
        try clear c35
        try clear c35b0
        try clear c35b1
        try clear c36
        try clear c36b0
        try clear c36b1
        try clear c37
        try clear c37b0
        try clear c37b1
        try clear c39
        try clear c40
        try clear c40b0
        try clear c40b1
        try clear c41
        try clear c41b0
        try clear c41b1
        try clear c42
        try clear c42b0
        try clear c42b1
        try clear c57
        try clear c59
        try clear c59b0
        try clear c59b1
        try clear c60
        try clear c60b0
        try clear c61
        try clear c61b0
        try clear p61
        try clear q61
        try clear hx61
        try clear c63
        try clear c63b0
        try clear c63b1
        try clear p64
        try clear c65
        try clear c65b0
        try clear c65b1
        try clear c65b2
        try clear hx610_0
        try clear hx610_1
        try clear hx610_2
        try clear hx610_3
        try clear hx613_0
        try clear hx613_1
        try clear hx613_2
        try clear hx613_3
        try clear hx614_0
        try clear hx614_1
        try clear hx614_2
        try clear hx614_3
        try clear p2
        try clear p610
        try clear p613
        try clear p614
        try clear q610
        try clear q613
        try clear q614
        obtain ⟨kq, HA, HJ57, HO_3, HO_4, HO_11, HO_12, HB⟩ := hcut
        cases kq with
        | zero => exact absurd HA.out (by simp [laws_FnWear.j2])
        | succ kj57 =>
         have H := HA.out
         clear HA
         simp only [laws_FnWear.j2] at H
         have HC71 := ak_ H
         clear H
         go_upto_if 211 with (fail)
         repeat (go_quiet (fail); go_upto_if 211 with (fail))
         go_cut [] (fun wc => ∃ (kq : Nat), Aside0 (laws_FnWear.j4 kq t563 t564 t565 t566 t572 t573 = some r) ∧ Aside0 (kq ≤ kj57) ∧ Aside0 (Kd.R k72 72 wc w.heap.size (fun _ => True) (.slice Ao17 t563.length co17) t563) ∧ Aside0 (Kd.R k75 75 wc w.heap.size (fun _ => True) (.slice Ao18 t564.length co18) t564) ∧ Aside0 (Below w.heap.size w wc))
         case first =>
          have H := HC71.out
          clear HC71
          by_cases c72 : t583 = 0
          ·rw [if_pos c72] at H
           have c72b0 : (t583 == 0) = true := beq_iff_eq.mpr c72
           have c72b1 : (t583 != 0) = false := bne_eq_false_iff_eq.mpr c72
           clear c72
           (first | rw [c72b0] | (simp only [i64_w, i32_w]; rw [c72b0]) | skip)
           replace H := ob_ H
           obtain ⟨⟨t616, t617⟩, A730, H⟩ := H
           replace H : (laws_FnWear.l1 kj57 t563 t564 t565 t566 t572 t573 t575 t577 t584 t603 t605 t616 t617 0 0) = some r := H
           have A73 := ak_ A730
           clear A730
           have H' := ak_ H
           clear H
           go_wp2_with (first | (go_at_call 33; (with_reducible refine (impl_WearOn.calls kj57 _ _ t575 _ _ t576 t577 t584 t616 t617 _ ?side1 ?side2 ?side3 ?side4 A73.out).mono ?_); (case side1 => repeat (first | exact (Kd.R_reads' HO_11.out).2.2 | (with_reducible refine Kd.C_alloc ?_ _) | (with_reducible refine Kd.C_drewN ?_ _) | (with_reducible refine Kd.C_drew ?_))); (case side2 => exact (Kd.R_reads' HO_11.out).2.1); (case side3 => repeat (first | exact (Kd.R_reads' HO_12.out).2.2 | (with_reducible refine Kd.C_alloc ?_ _) | (with_reducible refine Kd.C_drewN ?_ _) | (with_reducible refine Kd.C_drew ?_))); (case side4 => exact (Kd.R_reads' HO_12.out).2.1); rintro e w74 ⟨rfl, hb⟩; have n0_ := ak_ (Kd.R_below (kr_ HO_3) hb); have n1_ := ak_ (Kd.R_below (kr_ HO_4) hb); have n2_ := ak_ (Kd.R_below (kr_ HO_11) hb); have n3_ := ak_ (Kd.R_below (kr_ HO_12) hb); have n4_ := ak_ (below_step hb_ hb); clear HO_3 HO_4 HO_11 HO_12 HB; have HO_3 := n0_; have HO_4 := n1_; have HO_11 := n2_; have HO_12 := n3_; have HB := n4_; clear n0_ n1_ n2_ n3_ n4_; clear hb))
           go_loopg [36, 37] kj57 (fun kq v36 v37 w' => ∃ (x36_3 : Int) (x37_3 : Int), v36 = .int .i64 x36_3 ∧ v37 = .int .i64 x37_3 ∧ Aside0 (laws_FnWear.l1 kq t563 t564 t565 t566 t572 t573 t575 t577 t584 t603 t605 t616 t617 x36_3 x37_3 = some r) ∧ Aside0 (kq ≤ kj57) ∧ Aside0 (Kd.R k72 72 w' w.heap.size (fun k_ => some k_ ≠ ((.slice Ao22 t575.length co22) : Value).ownBlock) (.slice Ao17 t563.length co17) t563) ∧ Aside0 (Kd.R k75 75 w' w.heap.size (fun _ => True) (.slice Ao18 t564.length co18) t564) ∧ Aside0 (Kd.R k72 72 w' w.heap.size (fun k_ => some k_ ≠ ((.slice Ao17 t563.length co17) : Value).ownBlock) (.slice Ao22 t575.length co22) t575) ∧ Aside0 (Below w.heap.size w w'))
           case atStart => exact ⟨(0), (0), fr_, fr_, H', ⟨Nat.le_refl _⟩, ⟨kr_ HO_3⟩, ⟨by (with_reducible repeat (first | apply Kd.R_alloc | apply Kd.R_drewN | apply Kd.R_drew)); exact Kd.R_mono HO_4.out (fun _ hk => trivial)⟩, ⟨kr_ HO_11⟩, ⟨hb_⟩⟩
           case round =>
            as_aux_lemma =>
             clear H'
             try clear p2
             try clear c3
             try clear c4
             try clear c5
             try clear c6
             try clear p6
             try clear q6
             try clear hx6
             try clear c7
             try clear c33
             try clear c33b0
             try clear c33b1
             try clear c34
             try clear c34b0
             try clear c34b1
             try clear c35
             try clear c35b0
             try clear c35b1
             try clear c36
             try clear c36b0
             try clear c36b1
             try clear c37
             try clear c37b0
             try clear c37b1
             try clear c39
             try clear c40
             try clear c40b0
             try clear c40b1
             try clear c41
             try clear c41b0
             try clear c41b1
             try clear c42
             try clear c42b0
             try clear c42b1
             try clear c57
             try clear c59
             try clear c59b0
             try clear c59b1
             try clear c60
             try clear c60b0
             try clear c61
             try clear c61b0
             try clear p61
             try clear q61
             try clear hx61
             try clear c63
             try clear c63b0
             try clear c63b1
             try clear p64
             try clear c65
             try clear c65b0
             try clear c65b1
             try clear c65b2
             try clear c72
             try clear c72b0
             try clear c72b1
             try clear hx610_0
             try clear hx610_1
             try clear hx610_2
             try clear hx610_3
             try clear hx613_0
             try clear hx613_1
             try clear hx613_2
             try clear hx613_3
             try clear hx614_0
             try clear hx614_1
             try clear hx614_2
             try clear hx614_3
             try clear p2
             try clear p6
             try clear p61
             try clear p610
             try clear p613
             try clear p614
             try clear p64
             try clear q6
             try clear q61
             try clear q610
             try clear q613
             try clear q614
             obtain ⟨x36_3, x37_3, rfl, rfl, HA, HK3, HO_3, HO_4, HO_11, HB⟩ := hrel
             cases gk with
             | zero => exact absurd HA.out (by simp [laws_FnWear.l1])
             | succ k3 =>
              have H := HA.out
              clear HA
              simp only [laws_FnWear.l1] at H
              by_cases c75 : x37_3 < (t575.length : Int)
              ·rw [if_pos c75] at H
               have c75b0 : decide (x37_3 < (t575.length : Int)) = true := dt_ c75
               clear c75
               by_cases c76 : 0 ≤ x37_3
               ·rw [if_pos c76] at H
                have c76b0 : decide (0 ≤ x37_3) = true := dt_ c76
                clear c76
                by_cases c77 : ((rd_T72 t575 x37_3).f0).toList = t577.toList
                ·rw [if_pos c77] at H
                 have c77b0 : (((rd_T72 t575 x37_3).f0).toList == t577.toList) = true := beq_iff_eq.mpr c77
                 have c77b1 : (((rd_T72 t575 x37_3).f0).toList != t577.toList) = false := bne_eq_false_iff_eq.mpr c77
                 clear c77
                 have H' := ak_ H
                 clear H
                 have p618 : 0 ≤ (x37_3 : Int) := od_
                 have q618 : x37_3 < (t575.length : Int) := od_
                 obtain ⟨ad618, e618, hx618_0, hx618_1, hx618_2, hx618_3⟩ := at_T72 (Kd.R_reads' HO_11.out).2.2 x37_3 p618 q618
                 cases e618
                 replace p618 := eq_true p618
                 replace q618 := eq_true q618
                 have p619 : 0 ≤ (x37_3 : Int) := od_
                 have q619 : x37_3 < (t575.length : Int) := od_
                 obtain ⟨ad619, e619, hx619_0, hx619_1, hx619_2, hx619_3⟩ := at_T72 (Kd.R_reads' HO_11.out).2.2 x37_3 p619 q619
                 obtain rfl : ad618 = ad619 := (by injection e619)
                 replace p619 := eq_true p619
                 replace q619 := eq_true q619
                 go_wp2
                 repeat (go_quiet (fail); try go_wp2)
                 go_roundg k3
                 case measure => have := HJ14.out; have := HJ57.out; have := HK3.out; omega
                 case rel => exact ⟨((rd_T72 t575 x37_3).f3), (wrap64 (x37_3 + 1)), fr_, fr_, H', ⟨by have := HJ14.out; have := HJ57.out; have := HK3.out; omega⟩, ⟨kr_ HO_3⟩, ⟨kr_ HO_4⟩, ⟨kr_ HO_11⟩, ⟨hb_⟩⟩
                ·rw [if_neg c77] at H
                 have c77b0 : (((rd_T72 t575 x37_3).f0).toList == t577.toList) = false := beq_eq_false_iff_ne.mpr c77
                 have c77b1 : (((rd_T72 t575 x37_3).f0).toList != t577.toList) = true := bne_iff_ne.mpr c77
                 have H' := ak_ H
                 clear H
                 have p618 : 0 ≤ (x37_3 : Int) := od_
                 have q618 : x37_3 < (t575.length : Int) := od_
                 obtain ⟨ad618, e618, hx618_0, hx618_1, hx618_2, hx618_3⟩ := at_T72 (Kd.R_reads' HO_11.out).2.2 x37_3 p618 q618
                 cases e618
                 replace p618 := eq_true p618
                 replace q618 := eq_true q618
                 go_wp2
                 repeat (go_quiet (fail); try go_wp2)
                 go_roundg k3
                 case measure => have := HJ14.out; have := HJ57.out; have := HK3.out; omega
                 case rel => exact ⟨(x36_3), (wrap64 (x37_3 + 1)), fr_, fr_, H', ⟨by have := HJ14.out; have := HJ57.out; have := HK3.out; omega⟩, ⟨kr_ HO_3⟩, ⟨kr_ HO_4⟩, ⟨kr_ HO_11⟩, ⟨hb_⟩⟩
               ·rw [if_neg c76] at H
                exact absurd H (by simp)
              ·rw [if_neg c75] at H
               have c75b0 : decide (x37_3 < (t575.length : Int)) = false := decide_eq_false c75
               clear c75
               by_cases c78 : t617 = 0
               ·rw [if_pos c78] at H
                have c78b0 : (t617 == 0) = true := beq_iff_eq.mpr c78
                have c78b1 : (t617 != 0) = false := bne_eq_false_iff_eq.mpr c78
                clear c78
                by_cases c79 : t616 ≤ x36_3
                ·rw [if_pos c79] at H
                 have c79b0 : decide (t616 ≤ x36_3) = true := dt_ c79
                 clear c79
                 obtain rfl := Option.some.inj H
                 go_wp2
                 repeat (go_quiet (fail); try go_wp2)
                 go_ret
                 exact ⟨ew_, hb_⟩
                ·rw [if_neg c79] at H
                 have c79b0 : decide (t616 ≤ x36_3) = false := decide_eq_false c79
                 clear c79
                 by_cases c80 : t603 = 0
                 ·rw [if_pos c80] at H
                  have c80b0 : (t603 == 0) = true := beq_iff_eq.mpr c80
                  have c80b1 : (t603 != 0) = false := bne_eq_false_iff_eq.mpr c80
                  clear c80
                  by_cases c81 : t605 > t584
                  ·rw [if_pos c81] at H
                   have c81b0 : decide (t584 < t605) = true := dt_ c81
                   clear c81
                   obtain rfl := Option.some.inj H
                   go_wp2
                   repeat (go_quiet (fail); try go_wp2)
                   go_ret
                   exact ⟨ew_, hb_⟩
                  ·rw [if_neg c81] at H
                   have c81b0 : decide (t584 < t605) = false := decide_eq_false c81
                   clear c81
                   have H' := ak_ H
                   clear H
                   go_wp2
                   repeat (go_quiet (fail); try go_wp2)
                   go_meet
                   case rel => exact ⟨_, H', ⟨by have := HJ14.out; have := HJ57.out; have := HK3.out; first | omega | exact Nat.le_refl _⟩, ⟨by (with_reducible repeat (first | apply Kd.R_alloc | apply Kd.R_drewN | apply Kd.R_drew)); exact Kd.R_mono HO_3.out (fun _ hk => trivial)⟩, ⟨kr_ HO_4⟩, ⟨hb_⟩⟩
                 ·rw [if_neg c80] at H
                  have c80b0 : (t603 == 0) = false := beq_eq_false_iff_ne.mpr c80
                  have c80b1 : (t603 != 0) = true := bne_iff_ne.mpr c80
                  obtain rfl := Option.some.inj H
                  go_wp2
                  repeat (go_quiet (fail); try go_wp2)
                  go_ret
                  exact ⟨ew_, hb_⟩
               ·rw [if_neg c78] at H
                have c78b0 : (t617 == 0) = false := beq_eq_false_iff_ne.mpr c78
                have c78b1 : (t617 != 0) = true := bne_iff_ne.mpr c78
                obtain rfl := Option.some.inj H
                go_wp2
                repeat (go_quiet (fail); try go_wp2)
                go_ret
                exact ⟨ew_, hb_⟩
          ·rw [if_neg c72] at H
           have c72b0 : (t583 == 0) = false := beq_eq_false_iff_ne.mpr c72
           have c72b1 : (t583 != 0) = true := bne_iff_ne.mpr c72
           (first | rw [c72b0] | (simp only [i64_w, i32_w]; rw [c72b0]) | skip)
           have H' := ak_ H
           clear H
           go_wp2
           repeat (go_quiet (fail); try go_wp2)
           go_meet
           case rel => exact ⟨_, H', ⟨by have := HJ14.out; have := HJ57.out; first | omega | exact Nat.le_refl _⟩, ⟨by (with_reducible repeat (first | apply Kd.R_alloc | apply Kd.R_drewN | apply Kd.R_drew)); exact Kd.R_mono HO_3.out (fun _ hk => trivial)⟩, ⟨by (with_reducible repeat (first | apply Kd.R_alloc | apply Kd.R_drewN | apply Kd.R_drew)); exact Kd.R_mono HO_4.out (fun _ hk => trivial)⟩, ⟨hb_⟩⟩
         case rest =>
          as_aux_lemma =>
           clear HC71
           try clear p2
           try clear c3
           try clear c4
           try clear c5
           try clear c6
           try clear p6
           try clear q6
           try clear hx6
           try clear c7
           try clear c8
           try clear c33
           try clear c33b0
           try clear c33b1
           try clear c34
           try clear c34b0
           try clear c34b1
           try clear c35
           try clear c35b0
           try clear c35b1
           try clear c36
           try clear c36b0
           try clear c36b1
           try clear c37
           try clear c37b0
           try clear c37b1
           try clear c39
           try clear c40
           try clear c40b0
           try clear c40b1
           try clear c41
           try clear c41b0
           try clear c41b1
           try clear c42
           try clear c42b0
           try clear c42b1
           try clear c57
           try clear c59
           try clear c59b0
           try clear c59b1
           try clear c60
           try clear c60b0
           try clear c61
           try clear c61b0
           try clear p61
           try clear q61
           try clear hx61
           try clear c63
           try clear c63b0
           try clear c63b1
           try clear p64
           try clear c65
           try clear c65b0
           try clear c65b1
           try clear c65b2
           try clear c72
           try clear c72b0
           try clear c72b1
           try clear c75
           try clear c75b0
           try clear c76
           try clear c76b0
           try clear c77
           try clear c77b0
           try clear c77b1
           try clear c78
           try clear c78b0
           try clear c78b1
           try clear c79
           try clear c79b0
           try clear c80
           try clear c80b0
           try clear c80b1
           try clear c81
           try clear c81b0
           try clear hx610_0
           try clear hx610_1
           try clear hx610_2
           try clear hx610_3
           try clear hx613_0
           try clear hx613_1
           try clear hx613_2
           try clear hx613_3
           try clear hx614_0
           try clear hx614_1
           try clear hx614_2
           try clear hx614_3
           try clear hx618_0
           try clear hx618_1
           try clear hx618_2
           try clear hx618_3
           try clear hx619_0
           try clear hx619_1
           try clear hx619_2
           try clear hx619_3
           try clear p2
           try clear p6
           try clear p61
           try clear p610
           try clear p613
           try clear p614
           try clear p618
           try clear p619
           try clear p64
           try clear q6
           try clear q61
           try clear q610
           try clear q613
           try clear q614
           try clear q618
           try clear q619
           obtain ⟨kq, HA, HJ70, HO_3, HO_4, HB⟩ := hcut
           cases kq with
           | zero => exact absurd HA.out (by simp [laws_FnWear.j4])
           | succ kj70 =>
            have H := HA.out
            clear HA
            simp only [laws_FnWear.j4] at H
            have HC82 := ak_ H
            clear H
            go_upto_region 33 with (fail)
            repeat (go_quiet (fail); go_upto_region 33 with (fail))
            go_cut [259] (fun v259 wc => ∃ (kq : Nat) (x259_81 : Bool), v259 = .bool x259_81 ∧ Aside0 (laws_FnWear.j5 kq t563 t564 t565 t566 t573 x259_81 = some r) ∧ Aside0 (kq ≤ kj70) ∧ Aside0 (Kd.R k72 72 wc w.heap.size (fun _ => True) (.slice Ao17 t563.length co17) t563) ∧ Aside0 (Kd.R k75 75 wc w.heap.size (fun _ => True) (.slice Ao18 t564.length co18) t564) ∧ Aside0 (Below w.heap.size w wc))
            case first =>
             have H := HC82.out
             clear HC82
             by_cases c83 : t572 = 0
             ·rw [if_pos c83] at H
              have c83b0 : (t572 == 0) = true := beq_iff_eq.mpr c83
              have c83b1 : (t572 != 0) = false := bne_eq_false_iff_eq.mpr c83
              clear c83
              (first | rw [c83b0] | (simp only [i64_w, i32_w]; rw [c83b0]) | skip)
              have H' := ak_ H
              clear H
              go_wp2
              repeat (go_quiet (fail); try go_wp2)
              go_meet
              case rel => exact ⟨_, ((t566 == 20000)), fr_, H', ⟨by have := HJ14.out; have := HJ57.out; have := HJ70.out; first | omega | exact Nat.le_refl _⟩, ⟨kr_ HO_3⟩, ⟨kr_ HO_4⟩, ⟨hb_⟩⟩
             ·rw [if_neg c83] at H
              have c83b0 : (t572 == 0) = false := beq_eq_false_iff_ne.mpr c83
              have c83b1 : (t572 != 0) = true := bne_iff_ne.mpr c83
              (first | rw [c83b0] | (simp only [i64_w, i32_w]; rw [c83b0]) | skip)
              have H' := ak_ H
              clear H
              go_wp2
              repeat (go_quiet (fail); try go_wp2)
              go_meet
              case rel => exact ⟨_, (true), fr_, H', ⟨by have := HJ14.out; have := HJ57.out; have := HJ70.out; first | omega | exact Nat.le_refl _⟩, ⟨kr_ HO_3⟩, ⟨kr_ HO_4⟩, ⟨hb_⟩⟩
            case rest =>
             clear HC82
             try clear p2
             try clear c3
             try clear c4
             try clear c5
             try clear c6
             try clear p6
             try clear q6
             try clear hx6
             try clear c7
             try clear c8
             try clear c33
             try clear c33b0
             try clear c33b1
             try clear c34
             try clear c34b0
             try clear c34b1
             try clear c35
             try clear c35b0
             try clear c35b1
             try clear c36
             try clear c36b0
             try clear c36b1
             try clear c37
             try clear c37b0
             try clear c37b1
             try clear c39
             try clear c40
             try clear c40b0
             try clear c40b1
             try clear c41
             try clear c41b0
             try clear c41b1
             try clear c42
             try clear c42b0
             try clear c42b1
             try clear c57
             try clear c59
             try clear c59b0
             try clear c59b1
             try clear c60
             try clear c60b0
             try clear c61
             try clear c61b0
             try clear p61
             try clear q61
             try clear hx61
             try clear c63
             try clear c63b0
             try clear c63b1
             try clear p64
             try clear c65
             try clear c65b0
             try clear c65b1
             try clear c65b2
             try clear c72
             try clear c72b0
             try clear c72b1
             try clear c75
             try clear c75b0
             try clear c76
             try clear c76b0
             try clear c77
             try clear c77b0
             try clear c77b1
             try clear c78
             try clear c78b0
             try clear c78b1
             try clear c79
             try clear c79b0
             try clear c80
             try clear c80b0
             try clear c80b1
             try clear c81
             try clear c81b0
             try clear c83
             try clear c83b0
             try clear c83b1
             try clear hx610_0
             try clear hx610_1
             try clear hx610_2
             try clear hx610_3
             try clear hx613_0
             try clear hx613_1
             try clear hx613_2
             try clear hx613_3
             try clear hx614_0
             try clear hx614_1
             try clear hx614_2
             try clear hx614_3
             try clear hx618_0
             try clear hx618_1
             try clear hx618_2
             try clear hx618_3
             try clear hx619_0
             try clear hx619_1
             try clear hx619_2
             try clear hx619_3
             try clear p2
             try clear p6
             try clear p61
             try clear p610
             try clear p613
             try clear p614
             try clear p618
             try clear p619
             try clear p64
             try clear q6
             try clear q61
             try clear q610
             try clear q613
             try clear q614
             try clear q618
             try clear q619
             obtain ⟨kq, x259_81, rfl, HA, HJ81, HO_3, HO_4, HB⟩ := hcut
             cases kq with
             | zero => exact absurd HA.out (by simp [laws_FnWear.j5])
             | succ kj81 =>
              have H := HA.out
              clear HA
              simp only [laws_FnWear.j5] at H
              by_cases c84 : x259_81 = true
              ·subst c84
               have H1 : (some true) = some r := by rw [if_pos rfl] at H; exact H
               clear H
               have H := H1
               clear H1
               obtain rfl := Option.some.inj H
               go_wp2
               repeat (go_quiet (fail); try go_wp2)
               go_ret
               exact ⟨ew_, hb_⟩
              ·as_aux_lemma =>
                replace c84 := Bool.eq_false_iff.mpr c84
                subst c84
                have H1 : ((impl_WearOn.f kj81 t563 t564 t565 (wrap64 (t566 + 1))).bind fun bt620 => (if bt620.2 = 0 then (laws_FnWear.l2 kj81 t564 t565 t566 t573 bt620.1 0) else (some false))) = some r := by rw [if_neg (show ¬ (false = true) by decide)] at H; exact H
                clear H
                have H := H1
                clear H1
                replace H := ob_ H
                obtain ⟨⟨t620, t621⟩, A850, H⟩ := H
                replace H : (if t621 = 0 then (laws_FnWear.l2 kj81 t564 t565 t566 t573 t620 0) else (some false)) = some r := H
                have A85 := ak_ A850
                clear A850
                by_cases c86 : t621 = 0
                ·rw [if_pos c86] at H
                 have c86b0 : (t621 == 0) = true := beq_iff_eq.mpr c86
                 have c86b1 : (t621 != 0) = false := bne_eq_false_iff_eq.mpr c86
                 clear c86
                 have H' := ak_ H
                 clear H
                 go_wp2_with (first | (go_at_call 33; (with_reducible refine (impl_WearOn.calls kj81 _ _ t563 _ _ t564 t565 (wrap64 (t566 + 1)) t620 t621 _ ?side1 ?side2 ?side3 ?side4 A85.out).mono ?_); (case side1 => repeat (first | exact (Kd.R_reads' HO_3.out).2.2 | (with_reducible refine Kd.C_alloc ?_ _) | (with_reducible refine Kd.C_drewN ?_ _) | (with_reducible refine Kd.C_drew ?_))); (case side2 => exact (Kd.R_reads' HO_3.out).2.1); (case side3 => repeat (first | exact (Kd.R_reads' HO_4.out).2.2 | (with_reducible refine Kd.C_alloc ?_ _) | (with_reducible refine Kd.C_drewN ?_ _) | (with_reducible refine Kd.C_drew ?_))); (case side4 => exact (Kd.R_reads' HO_4.out).2.1); rintro e w87 ⟨rfl, hb⟩; have n0_ := ak_ (Kd.R_below (kr_ HO_3) hb); have n1_ := ak_ (Kd.R_below (kr_ HO_4) hb); have n2_ := ak_ (below_step hb_ hb); clear HO_3 HO_4 HB; have HO_3 := n0_; have HO_4 := n1_; have HB := n2_; clear n0_ n1_ n2_; clear hb))
                 go_loopg [40] kj81 (fun kq v40 w' => ∃ (x40_5 : Int), v40 = .int .i64 x40_5 ∧ Aside0 (laws_FnWear.l2 kq t564 t565 t566 t573 t620 x40_5 = some r) ∧ Aside0 (kq ≤ kj81) ∧ Aside0 (Kd.R k75 75 w' w.heap.size (fun _ => True) (.slice Ao18 t564.length co18) t564) ∧ Aside0 (Below w.heap.size w w'))
                 case atStart => exact ⟨(0), fr_, H', ⟨Nat.le_refl _⟩, ⟨kr_ HO_4⟩, ⟨hb_⟩⟩
                 case round =>
                  as_aux_lemma =>
                   clear H'
                   try clear p2
                   try clear c3
                   try clear c4
                   try clear c5
                   try clear c6
                   try clear p6
                   try clear q6
                   try clear hx6
                   try clear c7
                   try clear c8
                   try clear c33
                   try clear c33b0
                   try clear c33b1
                   try clear c34
                   try clear c34b0
                   try clear c34b1
                   try clear c35
                   try clear c35b0
                   try clear c35b1
                   try clear c36
                   try clear c36b0
                   try clear c36b1
                   try clear c37
                   try clear c37b0
                   try clear c37b1
                   try clear c39
                   try clear c40
                   try clear c40b0
                   try clear c40b1
                   try clear c41
                   try clear c41b0
                   try clear c41b1
                   try clear c42
                   try clear c42b0
                   try clear c42b1
                   try clear c57
                   try clear c59
                   try clear c59b0
                   try clear c59b1
                   try clear c60
                   try clear c60b0
                   try clear c61
                   try clear c61b0
                   try clear p61
                   try clear q61
                   try clear hx61
                   try clear c63
                   try clear c63b0
                   try clear c63b1
                   try clear p64
                   try clear c65
                   try clear c65b0
                   try clear c65b1
                   try clear c65b2
                   try clear c72
                   try clear c72b0
                   try clear c72b1
                   try clear c75
                   try clear c75b0
                   try clear c76
                   try clear c76b0
                   try clear c77
                   try clear c77b0
                   try clear c77b1
                   try clear c78
                   try clear c78b0
                   try clear c78b1
                   try clear c79
                   try clear c79b0
                   try clear c80
                   try clear c80b0
                   try clear c80b1
                   try clear c81
                   try clear c81b0
                   try clear c83
                   try clear c83b0
                   try clear c83b1
                   try clear c84
                   try clear c86
                   try clear c86b0
                   try clear c86b1
                   try clear hx610_0
                   try clear hx610_1
                   try clear hx610_2
                   try clear hx610_3
                   try clear hx613_0
                   try clear hx613_1
                   try clear hx613_2
                   try clear hx613_3
                   try clear hx614_0
                   try clear hx614_1
                   try clear hx614_2
                   try clear hx614_3
                   try clear hx618_0
                   try clear hx618_1
                   try clear hx618_2
                   try clear hx618_3
                   try clear hx619_0
                   try clear hx619_1
                   try clear hx619_2
                   try clear hx619_3
                   try clear p2
                   try clear p6
                   try clear p61
                   try clear p610
                   try clear p613
                   try clear p614
                   try clear p618
                   try clear p619
                   try clear p64
                   try clear q6
                   try clear q61
                   try clear q610
                   try clear q613
                   try clear q614
                   try clear q618
                   try clear q619
                   obtain ⟨x40_5, rfl, HA, HK5, HO_4, HB⟩ := hrel
                   cases gk with
                   | zero => exact absurd HA.out (by simp [laws_FnWear.l2])
                   | succ k5 =>
                    have H := HA.out
                    clear HA
                    simp only [laws_FnWear.l2] at H
                    by_cases c88 : x40_5 < (t564.length : Int)
                    ·rw [if_pos c88] at H
                     have c88b0 : decide (x40_5 < (t564.length : Int)) = true := dt_ c88
                     clear c88
                     by_cases c89 : 0 ≤ x40_5
                     ·rw [if_pos c89] at H
                      have c89b0 : decide (0 ≤ x40_5) = true := dt_ c89
                      clear c89
                      by_cases c90 : ((rd_T75 t564 x40_5).f0).toList = t565.toList
                      ·rw [if_pos c90] at H
                       have c90b0 : (((rd_T75 t564 x40_5).f0).toList == t565.toList) = true := beq_iff_eq.mpr c90
                       have c90b1 : (((rd_T75 t564 x40_5).f0).toList != t565.toList) = false := bne_eq_false_iff_eq.mpr c90
                       clear c90
                       by_cases c91 : ((rd_T75 t564 x40_5).f1) = (wrap64 (t566 + 1))
                       ·rw [if_pos c91] at H
                        have c91b0 : (((rd_T75 t564 x40_5).f1) == (wrap64 (t566 + 1))) = true := beq_iff_eq.mpr c91
                        have c91b1 : (((rd_T75 t564 x40_5).f1) != (wrap64 (t566 + 1))) = false := bne_eq_false_iff_eq.mpr c91
                        clear c91
                        obtain rfl := Option.some.inj H
                        have p622 : 0 ≤ (x40_5 : Int) := od_
                        have q622 : x40_5 < (t564.length : Int) := od_
                        obtain ⟨ad622, e622, hx622_0, hx622_1, hx622_2⟩ := at_T75 (Kd.R_reads' HO_4.out).2.2 x40_5 p622 q622
                        cases e622
                        replace p622 := eq_true p622
                        replace q622 := eq_true q622
                        have p623 : 0 ≤ (x40_5 : Int) := od_
                        have q623 : x40_5 < (t564.length : Int) := od_
                        obtain ⟨ad623, e623, hx623_0, hx623_1, hx623_2⟩ := at_T75 (Kd.R_reads' HO_4.out).2.2 x40_5 p623 q623
                        obtain rfl : ad622 = ad623 := (by injection e623)
                        replace p623 := eq_true p623
                        replace q623 := eq_true q623
                        have p624 : 0 ≤ (x40_5 : Int) := od_
                        have q624 : x40_5 < (t564.length : Int) := od_
                        obtain ⟨ad624, e624, hx624_0, hx624_1, hx624_2⟩ := at_T75 (Kd.R_reads' HO_4.out).2.2 x40_5 p624 q624
                        obtain rfl : ad622 = ad624 := (by injection e624)
                        replace p624 := eq_true p624
                        replace q624 := eq_true q624
                        go_wp2
                        repeat (go_quiet (fail); try go_wp2)
                        go_ret
                        exact ⟨ew_, hb_⟩
                       ·rw [if_neg c91] at H
                        have c91b0 : (((rd_T75 t564 x40_5).f1) == (wrap64 (t566 + 1))) = false := beq_eq_false_iff_ne.mpr c91
                        have c91b1 : (((rd_T75 t564 x40_5).f1) != (wrap64 (t566 + 1))) = true := bne_iff_ne.mpr c91
                        have H' := ak_ H
                        clear H
                        have p622 : 0 ≤ (x40_5 : Int) := od_
                        have q622 : x40_5 < (t564.length : Int) := od_
                        obtain ⟨ad622, e622, hx622_0, hx622_1, hx622_2⟩ := at_T75 (Kd.R_reads' HO_4.out).2.2 x40_5 p622 q622
                        cases e622
                        replace p622 := eq_true p622
                        replace q622 := eq_true q622
                        have p623 : 0 ≤ (x40_5 : Int) := od_
                        have q623 : x40_5 < (t564.length : Int) := od_
                        obtain ⟨ad623, e623, hx623_0, hx623_1, hx623_2⟩ := at_T75 (Kd.R_reads' HO_4.out).2.2 x40_5 p623 q623
                        obtain rfl : ad622 = ad623 := (by injection e623)
                        replace p623 := eq_true p623
                        replace q623 := eq_true q623
                        go_wp2
                        repeat (go_quiet (fail); try go_wp2)
                        go_roundg k5
                        case measure => have := HJ14.out; have := HJ57.out; have := HJ70.out; have := HJ81.out; have := HK5.out; omega
                        case rel => exact ⟨(wrap64 (x40_5 + 1)), fr_, H', ⟨by have := HJ14.out; have := HJ57.out; have := HJ70.out; have := HJ81.out; have := HK5.out; omega⟩, ⟨kr_ HO_4⟩, ⟨hb_⟩⟩
                      ·rw [if_neg c90] at H
                       have c90b0 : (((rd_T75 t564 x40_5).f0).toList == t565.toList) = false := beq_eq_false_iff_ne.mpr c90
                       have c90b1 : (((rd_T75 t564 x40_5).f0).toList != t565.toList) = true := bne_iff_ne.mpr c90
                       have H' := ak_ H
                       clear H
                       have p622 : 0 ≤ (x40_5 : Int) := od_
                       have q622 : x40_5 < (t564.length : Int) := od_
                       obtain ⟨ad622, e622, hx622_0, hx622_1, hx622_2⟩ := at_T75 (Kd.R_reads' HO_4.out).2.2 x40_5 p622 q622
                       cases e622
                       replace p622 := eq_true p622
                       replace q622 := eq_true q622
                       go_wp2
                       repeat (go_quiet (fail); try go_wp2)
                       go_roundg k5
                       case measure => have := HJ14.out; have := HJ57.out; have := HJ70.out; have := HJ81.out; have := HK5.out; omega
                       case rel => exact ⟨(wrap64 (x40_5 + 1)), fr_, H', ⟨by have := HJ14.out; have := HJ57.out; have := HJ70.out; have := HJ81.out; have := HK5.out; omega⟩, ⟨kr_ HO_4⟩, ⟨hb_⟩⟩
                     ·rw [if_neg c89] at H
                      exact absurd H (by simp)
                    ·rw [if_neg c88] at H
                     have c88b0 : decide (x40_5 < (t564.length : Int)) = false := decide_eq_false c88
                     clear c88
                     obtain rfl := Option.some.inj H
                     go_wp2
                     repeat (go_quiet (fail); try go_wp2)
                     go_ret
                     exact ⟨ew_, hb_⟩
                ·rw [if_neg c86] at H
                 have c86b0 : (t621 == 0) = false := beq_eq_false_iff_ne.mpr c86
                 have c86b1 : (t621 != 0) = true := bne_iff_ne.mpr c86
                 obtain rfl := Option.some.inj H
                 go_wp2_with (first | (go_at_call 33; (with_reducible refine (impl_WearOn.calls kj81 _ _ t563 _ _ t564 t565 (wrap64 (t566 + 1)) t620 t621 _ ?side1 ?side2 ?side3 ?side4 A85.out).mono ?_); (case side1 => repeat (first | exact (Kd.R_reads' HO_3.out).2.2 | (with_reducible refine Kd.C_alloc ?_ _) | (with_reducible refine Kd.C_drewN ?_ _) | (with_reducible refine Kd.C_drew ?_))); (case side2 => exact (Kd.R_reads' HO_3.out).2.1); (case side3 => repeat (first | exact (Kd.R_reads' HO_4.out).2.2 | (with_reducible refine Kd.C_alloc ?_ _) | (with_reducible refine Kd.C_drewN ?_ _) | (with_reducible refine Kd.C_drew ?_))); (case side4 => exact (Kd.R_reads' HO_4.out).2.1); rintro e w92 ⟨rfl, hb⟩; have n0_ := ak_ (Kd.R_below (kr_ HO_3) hb); have n1_ := ak_ (Kd.R_below (kr_ HO_4) hb); have n2_ := ak_ (below_step hb_ hb); clear HO_3 HO_4 HB; have HO_3 := n0_; have HO_4 := n1_; have HB := n2_; clear n0_ n1_ n2_; clear hb))
                 go_ret
                 exact ⟨ew_, hb_⟩

/-- THE ONE PURE STATEMENT of laws_FnWear: yours. -/
def laws_FnWear.Pure : Prop := ∀ (l0 : List Int), l0.length ≤ maxLen → l0.length * 1 ≤ 140737488351232 → (∀ x ∈ l0, (Lit.int .u8 x).wf = true) → ∃ k, laws_FnWear.f k l0 = some true
theorem laws_FnWear.walk (P : laws_FnWear.Pure) (a0 : Option Addr) (len0 cap0 : Nat) (z0 : List Int) (w : World) (w0 : (a0 = none ∧ len0 = 0 ∧ cap0 = 0 ∧ z0 = []) ∨ ∃ x, a0 = some x ∧ len0 ≤ cap0 ∧ cap0 ≤ maxLen ∧ z0.length = cap0 ∧ (∀ i, i < z0.length → w.cell? (x.add i) = some (.int .u8 (z0.getD i 0))) ∧ ∀ n ∈ z0, (Lit.int .u8 n).wf = true) (y0 : len0 * 1 ≤ 140737488351232) :
  Calls Try.prog 5 #[.slice a0 len0 cap0] w fun e w' => e = .returned (.bool true) ∧ Below w.heap.size w w' := by
 obtain ⟨l0, rfl, hr0, hm0, hw0, hc0⟩ := ReadsInt.ofRowC w0
 obtain ⟨k, h⟩ := P l0 hm0 y0 hw0
 refine (laws_FnWear.calls k _ _ l0 true w (Kd.C_of_reads (d := (0 : Int)) (h1 := fun _ => rfl) hr0) hc0 h).mono ?_
 rintro e w' ⟨rfl, hd⟩
 exact ⟨rfl, hd⟩

end Go.Proofs.Ytfenjlkopofopaa.P
end
