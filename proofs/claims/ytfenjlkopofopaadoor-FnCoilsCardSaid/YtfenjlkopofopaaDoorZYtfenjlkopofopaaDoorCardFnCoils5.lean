/- Texts of this claim, packed: Px17, Base, Names, CoilOneV, TyCoil, CoilV, Src, SrcMore, CoilDraw. -/
import Derived.Lib.Bytes
import Derived.Laws.BitsLemmas
import Derived.Test.YtfenjlkopofopaaDoorZYtfenjlkopofopaaDoorCardFnCoils4
section
-- Written by gprint.py (own program, over the printer of the kit) out of the translation. Lean checks it.
namespace Go.Proofs.YtfenjlkopofopaaDoor.P
open Go.RowKit Go.Proofs.YtfenjlkopofopaaDoorW.PrintWords Go.Proofs.YtfenjlkopofopaaDoorW.PrintLast Go.Proofs.YtfenjlkopofopaaDoorW.PrintMore Go.Proofs.YtfenjlkopofopaaDoorW.Pk
open Bool renaming true → T_, false → F_
open List renaming setIfInBounds_toArray → sT_, set_cons_zero → s0_, set_cons_succ → sS_
attribute [local go_sem] max2_int min2_int max_two min_two max_three min_three max_four min_four   -- for this text's walks alone
set_option linter.unusedVariables false
set_option linter.unusedSimpArgs false

attribute [local go_sem high] eqA23
/-! ### laws_FnCoils: function 4 -/
mutual
def laws_FnCoils.j0 : Nat → List (S23) → List (S23) → Int → Int → Int → Int → Int → List (S23) → Bool → ByteArray → Int → Option (Bool)
 | 0, _, _, _, _, _, _, _, _, _, _, _ => none
 | k + 1, x3, x5, x7, x9, x12, x13, x22, x25, x261, x651000, x651001 => if x261 = true then (none) else (laws_FnCoils.l0 k x3 x5 x7 x9 x12 x13 x22 x25 0 x651000 x651001)
def laws_FnCoils.l0 : Nat → List (S23) → List (S23) → Int → Int → Int → Int → Int → List (S23) → Int → ByteArray → Int → Option (Bool)
 | 0, _, _, _, _, _, _, _, _, _, _, _ => none
 | k + 1, x3, x5, x7, x9, x12, x13, x22, x25, x44, x651000, x651001 => if x44 < (x25.length : Int) then (if 0 ≤ x44 then (if ((rd_T23 x25 x44).f1) < x22 then (none) else (laws_FnCoils.l0 k x3 x5 x7 x9 x12 x13 x22 x25 (wrap64 (x44 + 1)) x651000 x651001)) else (none)) else (if x7 = x12 then (if x7 = 0 then (laws_FnCoils.j2 k x3 x5 x7 x13 (x9 != x13) x651000 x651001) else (laws_FnCoils.j2 k x3 x5 x7 x13 false x651000 x651001)) else (none))
def laws_FnCoils.j2 : Nat → List (S23) → List (S23) → Int → Int → Bool → ByteArray → Int → Option (Bool)
 | 0, _, _, _, _, _, _, _ => none
 | k + 1, x3, x5, x7, x13, x286, x651000, x651001 => if x286 = true then (none) else (if x7 = 0 then ((impl_LeftOf.f k x3 x651000).bind fun bt735 => ((impl_LeftOf.f k x5 x651000).bind fun bt737 => (if bt735.2 = 0 then (if bt737.2 = 0 then (if (wrap64 (bt735.1 - bt737.1)) = x651001 then (laws_FnCoils.l1 k x3 x13 0 x651000 x651001) else (none)) else (none)) else (none)))) else (some true))
def laws_FnCoils.l1 : Nat → List (S23) → Int → Int → ByteArray → Int → Option (Bool)
 | 0, _, _, _, _, _ => none
 | k + 1, x3, x13, x49, x651000, x651001 => if x49 < (x3.length : Int) then (if 0 ≤ x49 then (if ((rd_T23 x3 x49).f0).toList = x651000.toList then (if ((rd_T23 x3 x49).f1) ≥ x651001 then (if 0 ≤ x13 then (if x13 < (x3.length : Int) then (if ((rd_T23 x3 x49).f1) < ((rd_T23 x3 x13).f1) then (none) else (laws_FnCoils.l1 k x3 x13 (wrap64 (x49 + 1)) x651000 x651001)) else (none)) else (none)) else (laws_FnCoils.l1 k x3 x13 (wrap64 (x49 + 1)) x651000 x651001)) else (laws_FnCoils.l1 k x3 x13 (wrap64 (x49 + 1)) x651000 x651001)) else (none)) else (some true)
end
def laws_FnCoils.f (k : Nat) (l0 : List Int) : Option (Bool) := (laws_f6big.f l0).bind fun t644 => (if t644 = true then (some true) else ((spec_DrawCutPiece.f k l0).bind fun bt645 => ((impl_CutPiece.f k bt645.1 bt645.2.1 bt645.2.2).bind fun bt651 => ((spec_CutPiece.f k bt645.1 bt645.2.1 bt645.2.2).bind fun bt656 => ((impl_BestCoil.f k bt645.1 bt645.2.1 bt645.2.2).bind fun bt661 => ((spec_BestCoil.f k bt645.1 bt645.2.1 bt645.2.2).bind fun bt663 => ((spec_DrawLeftOf.f k l0).bind fun bt665 => ((impl_LeftOf.f k bt665.1 bt665.2).bind fun bt669 => ((spec_LeftOf.f k bt665.1 bt665.2).bind fun bt671 => ((spec_DrawThrowShort.f k l0).bind fun bt673 => ((impl_ThrowShort.f k bt673.1 bt673.2).bind fun bt677 => ((spec_ThrowShort.f k bt673.1 bt673.2).bind fun bt681 => ((spec_DrawAddCoil.f k l0).bind fun bt685 => ((impl_AddCoil.f k bt685.1 bt685.2.1 bt685.2.2).bind fun bt691 => ((spec_AddCoil.f k bt685.1 bt685.2.1 bt685.2.2).bind fun bt695 => ((spec_DrawCoilText.f k l0).bind fun bt699 => ((impl_CoilText.f k bt699.1 bt699.2).bind fun t702 => ((impl_ReadCoil.f k t702).bind fun bt703 => ((spec_DrawReadCoil.f k l0).bind fun t707 => ((impl_ReadCoil.f k t707).bind fun bt708 => ((spec_ReadCoil.f k t707).bind fun bt712 => ((spec_DrawSameCoils.f k l0).bind fun bt716 => (if bt651.2.2 = bt656.2.2 then (if bt651.2.1 = bt656.2.1 then ((spec_SameCoils.f k bt651.1 bt656.1).bind fun t722 => (if t722 = true then (if bt661.2 = bt663.2 then (if bt661.1 = bt663.1 then (if bt669.2 = bt671.2 then (if bt669.1 = bt671.1 then (if bt677.2 = bt681.2 then ((spec_SameCoils.f k bt677.1 bt681.1).bind fun t723 => (if t723 = true then (if bt691.2 = bt695.2 then ((spec_SameCoils.f k bt691.1 bt695.1).bind fun t724 => (if t724 = true then ((spec_CoilText.f k bt699.1 bt699.2).bind fun t725 => (if t702.toList = t725.toList then (if (bt703.2.2 != (t702.toList != ([] : List UInt8))) = true then (none) else (if bt703.2.2 = true then (if (!(bt703.1.toList == bt699.1.toList) || (!(bt703.2.1 == bt699.2))) = true then (none) else (if (bt708.2.2 != bt712.2.2) = true then (none) else (if (!(bt708.1.toList == bt712.1.toList) || (!(bt708.2.1 == bt712.2.1))) = true then (none) else ((impl_SameCoils.f k bt716.1 bt716.2).bind fun t726 => ((spec_SameCoils.f k bt716.1 bt716.2).bind fun t727 => (if (t726 != t727) = true then (none) else ((impl_ValidStockCoils.f k bt645.1).bind fun t728 => ((spec_ValidStockCoils.f k bt645.1).bind fun t729 => (laws_FnCoils.j0 k bt645.1 bt651.1 bt651.2.2 bt656.2.1 bt661.2 bt663.1 bt673.2 bt681.1 (t728 != t729) bt645.2.1 bt645.2.2))))))))) else (if (bt708.2.2 != bt712.2.2) = true then (none) else (if (!(bt708.1.toList == bt712.1.toList) || (!(bt708.2.1 == bt712.2.1))) = true then (none) else ((impl_SameCoils.f k bt716.1 bt716.2).bind fun t730 => ((spec_SameCoils.f k bt716.1 bt716.2).bind fun t731 => (if (t730 != t731) = true then (none) else ((impl_ValidStockCoils.f k bt645.1).bind fun t732 => ((spec_ValidStockCoils.f k bt645.1).bind fun t733 => (laws_FnCoils.j0 k bt645.1 bt651.1 bt651.2.2 bt656.2.1 bt661.2 bt663.1 bt673.2 bt681.1 (t732 != t733) bt645.2.1 bt645.2.2)))))))))) else (none))) else (none))) else (none)) else (none))) else (none)) else (none)) else (none)) else (none)) else (none)) else (none))) else (none)) else (none))))))))))))))))))))))))
set_option maxHeartbeats 8000000 in
set_option maxRecDepth 100000 in
theorem laws_FnCoils.calls (k : Nat) (A0 : Option Addr) (c0 : Nat) (l0 : List Int) (r : Bool) (w : World) (hr0 : Kd.C (Kd.int .u8) w A0 l0.length l0) (hc0 : l0.length ≤ c0) (hT : TB w) (hU : TU w) (h : laws_FnCoils.f k l0 = some r) :
  Calls Tryd.prog 4 #[.slice A0 l0.length c0] w fun e w' => e = .returned (.bool r) ∧ Below w.heap.size w w' := by
 have hu32 := Tryd.underlying32
 have hu23 := Tryd.underlying23
 have HR0 := ak_ hr0
 have HC0 := ak_ hc0
 clear hr0 hc0
 have HT := ak_ hT
 clear hT
 have HU := ak_ hU
 clear hU
 have HB := ak_ (Below.refl w.heap.size w)
 have H : ((laws_f6big.f l0).bind fun t644 => (if t644 = true then (some true) else ((spec_DrawCutPiece.f k l0).bind fun bt645 => ((impl_CutPiece.f k bt645.1 bt645.2.1 bt645.2.2).bind fun bt651 => ((spec_CutPiece.f k bt645.1 bt645.2.1 bt645.2.2).bind fun bt656 => ((impl_BestCoil.f k bt645.1 bt645.2.1 bt645.2.2).bind fun bt661 => ((spec_BestCoil.f k bt645.1 bt645.2.1 bt645.2.2).bind fun bt663 => ((spec_DrawLeftOf.f k l0).bind fun bt665 => ((impl_LeftOf.f k bt665.1 bt665.2).bind fun bt669 => ((spec_LeftOf.f k bt665.1 bt665.2).bind fun bt671 => ((spec_DrawThrowShort.f k l0).bind fun bt673 => ((impl_ThrowShort.f k bt673.1 bt673.2).bind fun bt677 => ((spec_ThrowShort.f k bt673.1 bt673.2).bind fun bt681 => ((spec_DrawAddCoil.f k l0).bind fun bt685 => ((impl_AddCoil.f k bt685.1 bt685.2.1 bt685.2.2).bind fun bt691 => ((spec_AddCoil.f k bt685.1 bt685.2.1 bt685.2.2).bind fun bt695 => ((spec_DrawCoilText.f k l0).bind fun bt699 => ((impl_CoilText.f k bt699.1 bt699.2).bind fun t702 => ((impl_ReadCoil.f k t702).bind fun bt703 => ((spec_DrawReadCoil.f k l0).bind fun t707 => ((impl_ReadCoil.f k t707).bind fun bt708 => ((spec_ReadCoil.f k t707).bind fun bt712 => ((spec_DrawSameCoils.f k l0).bind fun bt716 => (if bt651.2.2 = bt656.2.2 then (if bt651.2.1 = bt656.2.1 then ((spec_SameCoils.f k bt651.1 bt656.1).bind fun t722 => (if t722 = true then (if bt661.2 = bt663.2 then (if bt661.1 = bt663.1 then (if bt669.2 = bt671.2 then (if bt669.1 = bt671.1 then (if bt677.2 = bt681.2 then ((spec_SameCoils.f k bt677.1 bt681.1).bind fun t723 => (if t723 = true then (if bt691.2 = bt695.2 then ((spec_SameCoils.f k bt691.1 bt695.1).bind fun t724 => (if t724 = true then ((spec_CoilText.f k bt699.1 bt699.2).bind fun t725 => (if t702.toList = t725.toList then (if (bt703.2.2 != (t702.toList != ([] : List UInt8))) = true then (none) else (if bt703.2.2 = true then (if (!(bt703.1.toList == bt699.1.toList) || (!(bt703.2.1 == bt699.2))) = true then (none) else (if (bt708.2.2 != bt712.2.2) = true then (none) else (if (!(bt708.1.toList == bt712.1.toList) || (!(bt708.2.1 == bt712.2.1))) = true then (none) else ((impl_SameCoils.f k bt716.1 bt716.2).bind fun t726 => ((spec_SameCoils.f k bt716.1 bt716.2).bind fun t727 => (if (t726 != t727) = true then (none) else ((impl_ValidStockCoils.f k bt645.1).bind fun t728 => ((spec_ValidStockCoils.f k bt645.1).bind fun t729 => (laws_FnCoils.j0 k bt645.1 bt651.1 bt651.2.2 bt656.2.1 bt661.2 bt663.1 bt673.2 bt681.1 (t728 != t729) bt645.2.1 bt645.2.2))))))))) else (if (bt708.2.2 != bt712.2.2) = true then (none) else (if (!(bt708.1.toList == bt712.1.toList) || (!(bt708.2.1 == bt712.2.1))) = true then (none) else ((impl_SameCoils.f k bt716.1 bt716.2).bind fun t730 => ((spec_SameCoils.f k bt716.1 bt716.2).bind fun t731 => (if (t730 != t731) = true then (none) else ((impl_ValidStockCoils.f k bt645.1).bind fun t732 => ((spec_ValidStockCoils.f k bt645.1).bind fun t733 => (laws_FnCoils.j0 k bt645.1 bt651.1 bt651.2.2 bt656.2.1 bt661.2 bt663.1 bt673.2 bt681.1 (t732 != t733) bt645.2.1 bt645.2.2)))))))))) else (none))) else (none))) else (none)) else (none))) else (none)) else (none)) else (none)) else (none)) else (none)) else (none))) else (none)) else (none))))))))))))))))))))))))) = some r := h
 clear h
 replace H := ob_ H
 obtain ⟨t644, A20, H⟩ := H
 (try dsimp only at H)
 have A2 := ak_ A20
 clear A20
 by_cases c3 : t644 = true
 ·subst c3
  have H1 : (some true) = some r := by rw [if_pos rfl] at H; exact H
  clear H
  have H := H1
  clear H1
  obtain rfl := Option.some.inj H
  go_enter Tryd.func4, Tryd.ntmps4
  go_wp2_with (first | (go_at_call 11; (with_reducible refine (laws_f6big.calls _ _ l0 true _ (kc_ HR0.out) HC0.out A2.out).mono ?_); rintro e w' ⟨rfl, ⟨nd, rfl⟩⟩; (try first | exact ⟨rfl, _, World.drewN_drewN _ _ _⟩ | exact ⟨rfl, _, Eq.trans (World.drewN_drewN _ _ _) (congrArg (World.drewN _) (Nat.add_assoc _ _ _))⟩)))
  repeat (go_quiet (first | (go_at_call 11; (with_reducible refine (laws_f6big.calls _ _ l0 true _ (kc_ HR0.out) HC0.out A2.out).mono ?_); rintro e w' ⟨rfl, ⟨nd, rfl⟩⟩; (try first | exact ⟨rfl, _, World.drewN_drewN _ _ _⟩ | exact ⟨rfl, _, Eq.trans (World.drewN_drewN _ _ _) (congrArg (World.drewN _) (Nat.add_assoc _ _ _))⟩))); try go_wp2_with (first | (go_at_call 11; (with_reducible refine (laws_f6big.calls _ _ l0 true _ (kc_ HR0.out) HC0.out A2.out).mono ?_); rintro e w' ⟨rfl, ⟨nd, rfl⟩⟩; (try first | exact ⟨rfl, _, World.drewN_drewN _ _ _⟩ | exact ⟨rfl, _, Eq.trans (World.drewN_drewN _ _ _) (congrArg (World.drewN _) (Nat.add_assoc _ _ _))⟩))))
  go_ret
  exact ⟨ew_, hb_⟩
 replace c3 := Bool.eq_false_iff.mpr c3
 subst c3
 have H1 : ((spec_DrawCutPiece.f k l0).bind fun bt645 => ((impl_CutPiece.f k bt645.1 bt645.2.1 bt645.2.2).bind fun bt651 => ((spec_CutPiece.f k bt645.1 bt645.2.1 bt645.2.2).bind fun bt656 => ((impl_BestCoil.f k bt645.1 bt645.2.1 bt645.2.2).bind fun bt661 => ((spec_BestCoil.f k bt645.1 bt645.2.1 bt645.2.2).bind fun bt663 => ((spec_DrawLeftOf.f k l0).bind fun bt665 => ((impl_LeftOf.f k bt665.1 bt665.2).bind fun bt669 => ((spec_LeftOf.f k bt665.1 bt665.2).bind fun bt671 => ((spec_DrawThrowShort.f k l0).bind fun bt673 => ((impl_ThrowShort.f k bt673.1 bt673.2).bind fun bt677 => ((spec_ThrowShort.f k bt673.1 bt673.2).bind fun bt681 => ((spec_DrawAddCoil.f k l0).bind fun bt685 => ((impl_AddCoil.f k bt685.1 bt685.2.1 bt685.2.2).bind fun bt691 => ((spec_AddCoil.f k bt685.1 bt685.2.1 bt685.2.2).bind fun bt695 => ((spec_DrawCoilText.f k l0).bind fun bt699 => ((impl_CoilText.f k bt699.1 bt699.2).bind fun t702 => ((impl_ReadCoil.f k t702).bind fun bt703 => ((spec_DrawReadCoil.f k l0).bind fun t707 => ((impl_ReadCoil.f k t707).bind fun bt708 => ((spec_ReadCoil.f k t707).bind fun bt712 => ((spec_DrawSameCoils.f k l0).bind fun bt716 => (if bt651.2.2 = bt656.2.2 then (if bt651.2.1 = bt656.2.1 then ((spec_SameCoils.f k bt651.1 bt656.1).bind fun t722 => (if t722 = true then (if bt661.2 = bt663.2 then (if bt661.1 = bt663.1 then (if bt669.2 = bt671.2 then (if bt669.1 = bt671.1 then (if bt677.2 = bt681.2 then ((spec_SameCoils.f k bt677.1 bt681.1).bind fun t723 => (if t723 = true then (if bt691.2 = bt695.2 then ((spec_SameCoils.f k bt691.1 bt695.1).bind fun t724 => (if t724 = true then ((spec_CoilText.f k bt699.1 bt699.2).bind fun t725 => (if t702.toList = t725.toList then (if (bt703.2.2 != (t702.toList != ([] : List UInt8))) = true then (none) else (if bt703.2.2 = true then (if (!(bt703.1.toList == bt699.1.toList) || (!(bt703.2.1 == bt699.2))) = true then (none) else (if (bt708.2.2 != bt712.2.2) = true then (none) else (if (!(bt708.1.toList == bt712.1.toList) || (!(bt708.2.1 == bt712.2.1))) = true then (none) else ((impl_SameCoils.f k bt716.1 bt716.2).bind fun t726 => ((spec_SameCoils.f k bt716.1 bt716.2).bind fun t727 => (if (t726 != t727) = true then (none) else ((impl_ValidStockCoils.f k bt645.1).bind fun t728 => ((spec_ValidStockCoils.f k bt645.1).bind fun t729 => (laws_FnCoils.j0 k bt645.1 bt651.1 bt651.2.2 bt656.2.1 bt661.2 bt663.1 bt673.2 bt681.1 (t728 != t729) bt645.2.1 bt645.2.2))))))))) else (if (bt708.2.2 != bt712.2.2) = true then (none) else (if (!(bt708.1.toList == bt712.1.toList) || (!(bt708.2.1 == bt712.2.1))) = true then (none) else ((impl_SameCoils.f k bt716.1 bt716.2).bind fun t730 => ((spec_SameCoils.f k bt716.1 bt716.2).bind fun t731 => (if (t730 != t731) = true then (none) else ((impl_ValidStockCoils.f k bt645.1).bind fun t732 => ((spec_ValidStockCoils.f k bt645.1).bind fun t733 => (laws_FnCoils.j0 k bt645.1 bt651.1 bt651.2.2 bt656.2.1 bt661.2 bt663.1 bt673.2 bt681.1 (t732 != t733) bt645.2.1 bt645.2.2)))))))))) else (none))) else (none))) else (none)) else (none))) else (none)) else (none)) else (none)) else (none)) else (none)) else (none))) else (none)) else (none))))))))))))))))))))))) = some r := by rw [if_neg (show ¬ (false = true) by decide)] at H; exact H
 clear H
 have H := H1
 clear H1
 replace H := ob_ H
 obtain ⟨⟨t645, t648, t649⟩, A40, H⟩ := H
 (try dsimp only at H)
 have A4 := ak_ A40
 clear A40
 replace H := ob_ H
 obtain ⟨⟨t651, t654, t655⟩, A50, H⟩ := H
 (try dsimp only at H)
 have A5 := ak_ A50
 clear A50
 replace H := ob_ H
 obtain ⟨⟨t656, t659, t660⟩, A60, H⟩ := H
 (try dsimp only at H)
 have A6 := ak_ A60
 clear A60
 replace H := ob_ H
 obtain ⟨⟨t661, t662⟩, A70, H⟩ := H
 (try dsimp only at H)
 have A7 := ak_ A70
 clear A70
 replace H := ob_ H
 obtain ⟨⟨t663, t664⟩, A80, H⟩ := H
 (try dsimp only at H)
 have A8 := ak_ A80
 clear A80
 replace H := ob_ H
 obtain ⟨⟨t665, t666⟩, A90, H⟩ := H
 (try dsimp only at H)
 have A9 := ak_ A90
 clear A90
 replace H := ob_ H
 obtain ⟨⟨t669, t670⟩, A100, H⟩ := H
 (try dsimp only at H)
 have A10 := ak_ A100
 clear A100
 replace H := ob_ H
 obtain ⟨⟨t671, t672⟩, A110, H⟩ := H
 (try dsimp only at H)
 have A11 := ak_ A110
 clear A110
 replace H := ob_ H
 obtain ⟨⟨t673, t674⟩, A120, H⟩ := H
 (try dsimp only at H)
 have A12 := ak_ A120
 clear A120
 replace H := ob_ H
 obtain ⟨⟨t677, t678⟩, A130, H⟩ := H
 (try dsimp only at H)
 have A13 := ak_ A130
 clear A130
 replace H := ob_ H
 obtain ⟨⟨t681, t682⟩, A140, H⟩ := H
 (try dsimp only at H)
 have A14 := ak_ A140
 clear A140
 replace H := ob_ H
 obtain ⟨⟨t685, t688, t689⟩, A150, H⟩ := H
 (try dsimp only at H)
 have A15 := ak_ A150
 clear A150
 replace H := ob_ H
 obtain ⟨⟨t691, t694⟩, A160, H⟩ := H
 (try dsimp only at H)
 have A16 := ak_ A160
 clear A160
 replace H := ob_ H
 obtain ⟨⟨t695, t698⟩, A170, H⟩ := H
 (try dsimp only at H)
 have A17 := ak_ A170
 clear A170
 replace H := ob_ H
 obtain ⟨⟨t699, t700⟩, A180, H⟩ := H
 (try dsimp only at H)
 have A18 := ak_ A180
 clear A180
 replace H := ob_ H
 obtain ⟨t702, A190, H⟩ := H
 (try dsimp only at H)
 have A19 := ak_ A190
 clear A190
 replace H := ob_ H
 obtain ⟨⟨t703, t704, t705⟩, A200, H⟩ := H
 (try dsimp only at H)
 have A20 := ak_ A200
 clear A200
 replace H := ob_ H
 obtain ⟨t707, A210, H⟩ := H
 (try dsimp only at H)
 have A21 := ak_ A210
 clear A210
 replace H := ob_ H
 obtain ⟨⟨t708, t709, t710⟩, A220, H⟩ := H
 (try dsimp only at H)
 have A22 := ak_ A220
 clear A220
 replace H := ob_ H
 obtain ⟨⟨t712, t713, t714⟩, A230, H⟩ := H
 (try dsimp only at H)
 have A23 := ak_ A230
 clear A230
 replace H := ob_ H
 obtain ⟨⟨t716, t717⟩, A240, H⟩ := H
 (try dsimp only at H)
 have A24 := ak_ A240
 clear A240
 have HC25 := ak_ H
 clear H
 go_enter Tryd.func4, Tryd.ntmps4
 go_upto_region 24 with (first | (go_at_call 11; (with_reducible refine (laws_f6big.calls _ _ l0 false _ (kc_ HR0.out) HC0.out A2.out).mono ?_); rintro e w' ⟨rfl, ⟨nd, rfl⟩⟩; (try first | exact ⟨rfl, _, World.drewN_drewN _ _ _⟩ | exact ⟨rfl, _, Eq.trans (World.drewN_drewN _ _ _) (congrArg (World.drewN _) (Nat.add_assoc _ _ _))⟩)) | (go_at_call 12; (with_reducible refine (spec_DrawCutPiece.calls k _ _ l0 t645 t648 t649 _ (kc_ HR0.out) HC0.out A4.out).mono ?_); rintro e w26 ⟨v646, rfl, ho0, hb⟩; have HO647 := ak_ (Kd.R_lower ho0 (below_size hb_)); replace HB := ak_ (below_step hb_ hb); skip; clear hb ho0) | ((with_reducible refine gate_dst (N := 4) rfl ?_); refine box_event ?hg (N := 4) ?hd (cs := #[.string (⟨#[]⟩ : ByteArray), .int .i64 0]) (t := 32) ?hr ?_; (case hd => rfl); (case hg => rfl); (case hr => first | (go_simp; done) | (go_simp; rfl)); intro gb650 hg w27 hbox hb; replace HO647 := ak_ (Kd.R_below (kr_ HO647) hb); have BK650 := ak_ (hbox); have GW650 := ak_ ((by rw [hg]; exact (below_size hb_) : w.heap.size ≤ gb650)); have GE650 := ak_ ((by rw [hg]; exact (below_size hb_) : w.heap.size ≤ gb650)); replace HB := ak_ (below_step hb_ hb); skip; clear hb hbox hg; have hcz28_0 : w27.cell? ⟨gb650, 0, none⟩ = some (.string (⟨#[]⟩ : ByteArray)) := (blk_cell BK650.out 0).trans rfl; have hcz28_1 : w27.cell? ⟨gb650, 1, none⟩ = some (.int .i64 0) := (blk_cell BK650.out 1).trans rfl; have hfz28_0 := blk_frozen BK650.out 0; have hfz28_1 := blk_frozen BK650.out 1; obtain ⟨Ao29, co29, eo29⟩ := Kd.R_slice HO647.out; subst eo29) | (go_at_call 13; (with_reducible refine (impl_CutPiece.calls k _ _ t645 t648 t649 t651 t654 t655 _ ?side1 ?side2 A5.out).mono ?_); (case side1 => refine (Kd.R_reads' (e := 23) (base := w.heap.size) (ok := fun k_ => True) (n := t645.length) (c := co29) ?_).2.2; exact (by (with_reducible repeat (first | apply Kd.R_alloc | apply Kd.R_drewN | apply Kd.R_drew)); exact (Kd.R_mono (Kd.R_far (p := ⟨gb650, 1, none⟩) (Kd.R_far (p := ⟨gb650, 0, none⟩) (Kd.R_types HO647.out BK650.out (by decide)) (fun _ hk => hk.2) (.string t648)) (fun _ hk => hk.2) (.int .i64 t649)) (fun _ h_ => h_.1)))); (case side2 => exact (Kd.R_reads' HO647.out).2.1); rintro e w30 ⟨v652, rfl, ho0, hb⟩; have HO653 := ak_ (Kd.R_lower (Kd.R_new' ho0 (Kd.R_lt (by (with_reducible repeat (first | apply Kd.R_alloc | apply Kd.R_drewN | apply Kd.R_drew)); exact (Kd.R_mono (Kd.R_far (p := ⟨gb650, 1, none⟩) (Kd.R_far (p := ⟨gb650, 0, none⟩) (Kd.R_types HO647.out BK650.out (by decide)) (fun _ hk => hk.2) (.string t648)) (fun _ hk => hk.2) (.int .i64 t649)) (fun _ h_ => h_.1))))) (below_size (hg_ GE650))); replace HO647 := ak_ (Kd.R_elder' (by (with_reducible repeat (first | apply Kd.R_alloc | apply Kd.R_drewN | apply Kd.R_drew)); exact (Kd.R_mono (Kd.R_far (p := ⟨gb650, 1, none⟩) (Kd.R_far (p := ⟨gb650, 0, none⟩) (Kd.R_types HO647.out BK650.out (by decide)) (fun _ hk => hk.2) (.string t648)) (fun _ hk => hk.2) (.int .i64 t649)) (fun _ h_ => h_.1))) (Kd.R_base ho0) hb); replace BK650 := ak_ (blk_below (g := gb650) (o := .cells #[.string t648, .int .i64 t649] 32 (0, 0)) (by (with_reducible repeat (first | refine blk_drewN ?_ _ | refine blk_drew ?_ | refine blk_alloc ?_ _)); refine blk_put (cs := #[.string t648, .int .i64 0]) ?_ 1 _ rfl; (with_reducible repeat (first | refine blk_drewN ?_ _ | refine blk_drew ?_ | refine blk_alloc ?_ _)); refine blk_put (cs := #[.string (⟨#[]⟩ : ByteArray), .int .i64 0]) ?_ 0 _ rfl; (with_reducible repeat (first | refine blk_drewN ?_ _ | refine blk_drew ?_ | refine blk_alloc ?_ _)); exact BK650.out) hb); replace HB := ak_ (below_step (hg_ GE650) hb); skip; (try clear hb); (try clear hb2); (try clear hk); (try clear hi); (try clear ho0); have hcz31_0 : w30.cell? ⟨gb650, 0, none⟩ = some (.string t648) := (blk_cell BK650.out 0).trans rfl; have hcz31_1 : w30.cell? ⟨gb650, 1, none⟩ = some (.int .i64 t649) := (blk_cell BK650.out 1).trans rfl; have hfz31_0 := blk_frozen BK650.out 0; have hfz31_1 := blk_frozen BK650.out 1) | (go_at_call 14; (with_reducible refine (spec_CutPiece.calls k _ _ t645 t648 t649 t656 t659 t660 _ ?side1 ((Kd.R_reads' HO647.out).2.1) A6.out).mono ?_); (case side1 => repeat (first | exact (Kd.R_reads' HO647.out).2.2 | (with_reducible refine Kd.C_alloc ?_ _) | (with_reducible refine Kd.C_drewN ?_ _) | (with_reducible refine Kd.C_drew ?_))); rintro e w32 ⟨v657, rfl, ho0, hb⟩; have HO658 := ak_ (Kd.R_lower (Kd.R_new' (Kd.R_new' ho0 (Kd.R_lt (kr_ HO647))) (Kd.R_lt (kr_ HO653))) (below_size (hg_ GE650))); replace HO647 := ak_ (Kd.R_elder' (kr_ HO647) (Kd.R_base ho0) hb); replace HO653 := ak_ (Kd.R_elder' (kr_ HO653) (Kd.R_base ho0) hb); replace BK650 := ak_ (blk_below (g := gb650) (o := .cells #[.string t648, .int .i64 t649] 32 (0, 0)) (bk_ BK650) hb); replace HB := ak_ (below_step (hg_ GE650) hb); skip; (try clear hb); (try clear hb2); (try clear hk); (try clear hi); (try clear ho0); have hcz33_0 : w32.cell? ⟨gb650, 0, none⟩ = some (.string t648) := (blk_cell BK650.out 0).trans rfl; have hcz33_1 : w32.cell? ⟨gb650, 1, none⟩ = some (.int .i64 t649) := (blk_cell BK650.out 1).trans rfl; have hfz33_0 := blk_frozen BK650.out 0; have hfz33_1 := blk_frozen BK650.out 1) | (go_at_call 15; (with_reducible refine (impl_BestCoil.calls k _ _ t645 t648 t649 t661 t662 _ ?side1 ((Kd.R_reads' HO647.out).2.1) A7.out).mono ?_); (case side1 => repeat (first | exact (Kd.R_reads' HO647.out).2.2 | (with_reducible refine Kd.C_alloc ?_ _) | (with_reducible refine Kd.C_drewN ?_ _) | (with_reducible refine Kd.C_drew ?_))); rintro e w34 ⟨rfl, hb⟩; replace HO647 := ak_ (Kd.R_below (kr_ HO647) hb); replace HO653 := ak_ (Kd.R_below (kr_ HO653) hb); replace HO658 := ak_ (Kd.R_below (kr_ HO658) hb); replace BK650 := ak_ (blk_below (g := gb650) (o := .cells #[.string t648, .int .i64 t649] 32 (0, 0)) (bk_ BK650) hb); replace HB := ak_ (below_step (hg_ GE650) hb); skip; (try clear hb); (try clear hb2); (try clear hk); (try clear hi); have hcz35_0 : w34.cell? ⟨gb650, 0, none⟩ = some (.string t648) := (blk_cell BK650.out 0).trans rfl; have hcz35_1 : w34.cell? ⟨gb650, 1, none⟩ = some (.int .i64 t649) := (blk_cell BK650.out 1).trans rfl; have hfz35_0 := blk_frozen BK650.out 0; have hfz35_1 := blk_frozen BK650.out 1) | (go_at_call 16; (with_reducible refine (spec_BestCoil.calls k _ _ t645 t648 t649 t663 t664 _ ?side1 ((Kd.R_reads' HO647.out).2.1) A8.out).mono ?_); (case side1 => repeat (first | exact (Kd.R_reads' HO647.out).2.2 | (with_reducible refine Kd.C_alloc ?_ _) | (with_reducible refine Kd.C_drewN ?_ _) | (with_reducible refine Kd.C_drew ?_))); rintro e w36 ⟨rfl, hb⟩; replace HO647 := ak_ (Kd.R_below (kr_ HO647) hb); replace HO653 := ak_ (Kd.R_below (kr_ HO653) hb); replace HO658 := ak_ (Kd.R_below (kr_ HO658) hb); replace BK650 := ak_ (blk_below (g := gb650) (o := .cells #[.string t648, .int .i64 t649] 32 (0, 0)) (bk_ BK650) hb); replace HB := ak_ (below_step (hg_ GE650) hb); skip; clear hb) | (go_at_call 17; (with_reducible refine (spec_DrawLeftOf.calls k _ _ l0 t665 t666 _ (kc_ (Kd.C_below HR0.out HB.out)) HC0.out A9.out).mono ?_); rintro e w37 ⟨v667, rfl, ho0, hb⟩; have HO668 := ak_ (Kd.R_lower (Kd.R_new' (Kd.R_new' (Kd.R_new' ho0 (Kd.R_lt (kr_ HO647))) (Kd.R_lt (kr_ HO653))) (Kd.R_lt (kr_ HO658))) (below_size (hg_ GE650))); replace HO647 := ak_ (Kd.R_elder' (kr_ HO647) (Kd.R_base ho0) hb); replace HO653 := ak_ (Kd.R_elder' (kr_ HO653) (Kd.R_base ho0) hb); replace HO658 := ak_ (Kd.R_elder' (kr_ HO658) (Kd.R_base ho0) hb); replace BK650 := ak_ (blk_below (g := gb650) (o := .cells #[.string t648, .int .i64 t649] 32 (0, 0)) (bk_ BK650) hb); replace HB := ak_ (below_step (hg_ GE650) hb); skip; (try clear hb); (try clear hb2); (try clear hk); (try clear hi); (try clear ho0); obtain ⟨Ao38, co38, eo38⟩ := Kd.R_slice HO668.out; subst eo38) | (go_at_call 18; (with_reducible refine (impl_LeftOf.calls k _ _ t665 t666 t669 t670 _ ?side1 ((Kd.R_reads' HO668.out).2.1) A10.out).mono ?_); (case side1 => repeat (first | exact (Kd.R_reads' HO668.out).2.2 | (with_reducible refine Kd.C_alloc ?_ _) | (with_reducible refine Kd.C_drewN ?_ _) | (with_reducible refine Kd.C_drew ?_))); rintro e w39 ⟨rfl, hb⟩; replace HO647 := ak_ (Kd.R_below (kr_ HO647) hb); replace HO653 := ak_ (Kd.R_below (kr_ HO653) hb); replace HO658 := ak_ (Kd.R_below (kr_ HO658) hb); replace HO668 := ak_ (Kd.R_below (kr_ HO668) hb); replace BK650 := ak_ (blk_below (g := gb650) (o := .cells #[.string t648, .int .i64 t649] 32 (0, 0)) (bk_ BK650) hb); replace HB := ak_ (below_step (hg_ GE650) hb); skip; clear hb) | (go_at_call 19; (with_reducible refine (spec_LeftOf.calls k _ _ t665 t666 t671 t672 _ ?side1 ((Kd.R_reads' HO668.out).2.1) A11.out).mono ?_); (case side1 => repeat (first | exact (Kd.R_reads' HO668.out).2.2 | (with_reducible refine Kd.C_alloc ?_ _) | (with_reducible refine Kd.C_drewN ?_ _) | (with_reducible refine Kd.C_drew ?_))); rintro e w40 ⟨rfl, hb⟩; replace HO647 := ak_ (Kd.R_below (kr_ HO647) hb); replace HO653 := ak_ (Kd.R_below (kr_ HO653) hb); replace HO658 := ak_ (Kd.R_below (kr_ HO658) hb); replace HO668 := ak_ (Kd.R_below (kr_ HO668) hb); replace BK650 := ak_ (blk_below (g := gb650) (o := .cells #[.string t648, .int .i64 t649] 32 (0, 0)) (bk_ BK650) hb); replace HB := ak_ (below_step (hg_ GE650) hb); skip; clear hb) | (go_at_call 20; (with_reducible refine (spec_DrawThrowShort.calls k _ _ l0 t673 t674 _ (kc_ (Kd.C_below HR0.out HB.out)) HC0.out A12.out).mono ?_); rintro e w41 ⟨v675, rfl, ho0, hb⟩; have HO676 := ak_ (Kd.R_lower (Kd.R_new' (Kd.R_new' (Kd.R_new' (Kd.R_new' ho0 (Kd.R_lt (kr_ HO647))) (Kd.R_lt (kr_ HO653))) (Kd.R_lt (kr_ HO658))) (Kd.R_lt (kr_ HO668))) (below_size (hg_ GE650))); replace HO647 := ak_ (Kd.R_elder' (kr_ HO647) (Kd.R_base ho0) hb); replace HO653 := ak_ (Kd.R_elder' (kr_ HO653) (Kd.R_base ho0) hb); replace HO658 := ak_ (Kd.R_elder' (kr_ HO658) (Kd.R_base ho0) hb); replace HO668 := ak_ (Kd.R_elder' (kr_ HO668) (Kd.R_base ho0) hb); replace BK650 := ak_ (blk_below (g := gb650) (o := .cells #[.string t648, .int .i64 t649] 32 (0, 0)) (bk_ BK650) hb); replace HB := ak_ (below_step (hg_ GE650) hb); skip; (try clear hb); (try clear hb2); (try clear hk); (try clear hi); (try clear ho0); obtain ⟨Ao42, co42, eo42⟩ := Kd.R_slice HO676.out; subst eo42) | (go_at_call 21; (with_reducible refine (impl_ThrowShort.calls k _ _ t673 t674 t677 t678 _ ?side1 ((Kd.R_reads' HO676.out).2.1) A13.out).mono ?_); (case side1 => repeat (first | exact (Kd.R_reads' HO676.out).2.2 | (with_reducible refine Kd.C_alloc ?_ _) | (with_reducible refine Kd.C_drewN ?_ _) | (with_reducible refine Kd.C_drew ?_))); rintro e w43 ⟨v679, rfl, ho0, hb⟩; have HO680 := ak_ (Kd.R_lower (Kd.R_new' (Kd.R_new' (Kd.R_new' (Kd.R_new' (Kd.R_new' ho0 (Kd.R_lt (kr_ HO647))) (Kd.R_lt (kr_ HO653))) (Kd.R_lt (kr_ HO658))) (Kd.R_lt (kr_ HO668))) (Kd.R_lt (kr_ HO676))) (below_size (hg_ GE650))); replace HO647 := ak_ (Kd.R_elder' (kr_ HO647) (Kd.R_base ho0) hb); replace HO653 := ak_ (Kd.R_elder' (kr_ HO653) (Kd.R_base ho0) hb); replace HO658 := ak_ (Kd.R_elder' (kr_ HO658) (Kd.R_base ho0) hb); replace HO668 := ak_ (Kd.R_elder' (kr_ HO668) (Kd.R_base ho0) hb); replace HO676 := ak_ (Kd.R_elder' (kr_ HO676) (Kd.R_base ho0) hb); replace BK650 := ak_ (blk_below (g := gb650) (o := .cells #[.string t648, .int .i64 t649] 32 (0, 0)) (bk_ BK650) hb); replace HB := ak_ (below_step (hg_ GE650) hb); skip; clear hb ho0) | (go_at_call 22; (with_reducible refine (spec_ThrowShort.calls k _ _ t673 t674 t681 t682 _ ?side1 ((Kd.R_reads' HO676.out).2.1) A14.out).mono ?_); (case side1 => repeat (first | exact (Kd.R_reads' HO676.out).2.2 | (with_reducible refine Kd.C_alloc ?_ _) | (with_reducible refine Kd.C_drewN ?_ _) | (with_reducible refine Kd.C_drew ?_))); rintro e w44 ⟨v683, rfl, ho0, hb⟩; have HO684 := ak_ (Kd.R_lower (Kd.R_new' (Kd.R_new' (Kd.R_new' (Kd.R_new' (Kd.R_new' (Kd.R_new' ho0 (Kd.R_lt (kr_ HO647))) (Kd.R_lt (kr_ HO653))) (Kd.R_lt (kr_ HO658))) (Kd.R_lt (kr_ HO668))) (Kd.R_lt (kr_ HO676))) (Kd.R_lt (kr_ HO680))) (below_size (hg_ GE650))); replace HO647 := ak_ (Kd.R_elder' (kr_ HO647) (Kd.R_base ho0) hb); replace HO653 := ak_ (Kd.R_elder' (kr_ HO653) (Kd.R_base ho0) hb); replace HO658 := ak_ (Kd.R_elder' (kr_ HO658) (Kd.R_base ho0) hb); replace HO668 := ak_ (Kd.R_elder' (kr_ HO668) (Kd.R_base ho0) hb); replace HO676 := ak_ (Kd.R_elder' (kr_ HO676) (Kd.R_base ho0) hb); replace HO680 := ak_ (Kd.R_elder' (kr_ HO680) (Kd.R_base ho0) hb); replace BK650 := ak_ (blk_below (g := gb650) (o := .cells #[.string t648, .int .i64 t649] 32 (0, 0)) (bk_ BK650) hb); replace HB := ak_ (below_step (hg_ GE650) hb); skip; clear hb ho0) | (go_at_call 23; (with_reducible refine (spec_DrawAddCoil.calls k _ _ l0 t685 t688 t689 _ (kc_ (Kd.C_below HR0.out HB.out)) HC0.out A15.out).mono ?_); rintro e w45 ⟨v686, rfl, ho0, hb⟩; have HO687 := ak_ (Kd.R_lower (Kd.R_new' (Kd.R_new' (Kd.R_new' (Kd.R_new' (Kd.R_new' (Kd.R_new' (Kd.R_new' ho0 (Kd.R_lt (kr_ HO647))) (Kd.R_lt (kr_ HO653))) (Kd.R_lt (kr_ HO658))) (Kd.R_lt (kr_ HO668))) (Kd.R_lt (kr_ HO676))) (Kd.R_lt (kr_ HO680))) (Kd.R_lt (kr_ HO684))) (below_size (hg_ GE650))); replace HO647 := ak_ (Kd.R_elder' (kr_ HO647) (Kd.R_base ho0) hb); replace HO653 := ak_ (Kd.R_elder' (kr_ HO653) (Kd.R_base ho0) hb); replace HO658 := ak_ (Kd.R_elder' (kr_ HO658) (Kd.R_base ho0) hb); replace HO668 := ak_ (Kd.R_elder' (kr_ HO668) (Kd.R_base ho0) hb); replace HO676 := ak_ (Kd.R_elder' (kr_ HO676) (Kd.R_base ho0) hb); replace HO680 := ak_ (Kd.R_elder' (kr_ HO680) (Kd.R_base ho0) hb); replace HO684 := ak_ (Kd.R_elder' (kr_ HO684) (Kd.R_base ho0) hb); replace BK650 := ak_ (blk_below (g := gb650) (o := .cells #[.string t648, .int .i64 t649] 32 (0, 0)) (bk_ BK650) hb); replace HB := ak_ (below_step (hg_ GE650) hb); skip; clear hb ho0) | ((with_reducible refine gate_dst (N := 28) rfl ?_); refine box_event ?hg (N := 28) ?hd (cs := #[.string (⟨#[]⟩ : ByteArray), .int .i64 0]) (t := 23) ?hr ?_; (case hd => rfl); (case hg => rfl); (case hr => first | (go_simp; done) | (go_simp; rfl)); intro gb690 hg w46 hbox hb; replace HO647 := ak_ (Kd.R_below (Kd.R_elderB (kr_ HO647) gb690 (Nat.le_of_eq hg.symm)) hb); replace HO653 := ak_ (Kd.R_below (Kd.R_elderB (kr_ HO653) gb690 (Nat.le_of_eq hg.symm)) hb); replace HO658 := ak_ (Kd.R_below (Kd.R_elderB (kr_ HO658) gb690 (Nat.le_of_eq hg.symm)) hb); replace HO668 := ak_ (Kd.R_below (Kd.R_elderB (kr_ HO668) gb690 (Nat.le_of_eq hg.symm)) hb); replace HO676 := ak_ (Kd.R_below (Kd.R_elderB (kr_ HO676) gb690 (Nat.le_of_eq hg.symm)) hb); replace HO680 := ak_ (Kd.R_below (Kd.R_elderB (kr_ HO680) gb690 (Nat.le_of_eq hg.symm)) hb); replace HO684 := ak_ (Kd.R_below (Kd.R_elderB (kr_ HO684) gb690 (Nat.le_of_eq hg.symm)) hb); replace HO687 := ak_ (Kd.R_below (Kd.R_elderB (kr_ HO687) gb690 (Nat.le_of_eq hg.symm)) hb); have BK690 := ak_ (hbox); have GW690 := ak_ ((by rw [hg]; exact (below_size (hg_ GE650)) : w.heap.size ≤ gb690)); have GE690 := ak_ ((by rw [hg]; exact (below_size (hg_ GE650)) : w.heap.size ≤ gb690)); replace HB := ak_ (below_step (hg_ GE650) hb); have NB650_690 := ak_ ((by rw [hg]; exact Nat.ne_of_lt (blk_lt (g := gb650) (o := .cells #[.string t648, .int .i64 t649] 32 (0, 0)) (bk_ BK650)) : gb650 ≠ gb690)); have NB690_650 := ak_ ((by rw [hg]; exact Nat.ne_of_gt (blk_lt (g := gb650) (o := .cells #[.string t648, .int .i64 t649] 32 (0, 0)) (bk_ BK650)) : gb690 ≠ gb650)); replace BK650 := ak_ (blk_below (g := gb650) (o := .cells #[.string t648, .int .i64 t649] 32 (0, 0)) (bk_ BK650) hb); skip; clear hb hbox hg; have hnb47 := NB690_650.out; have hnc47 := NB650_690.out; have hcz48_0 : w46.cell? ⟨gb690, 0, none⟩ = some (.string (⟨#[]⟩ : ByteArray)) := (blk_cell BK690.out 0).trans rfl; have hcz48_1 : w46.cell? ⟨gb690, 1, none⟩ = some (.int .i64 0) := (blk_cell BK690.out 1).trans rfl; have hfz48_0 := blk_frozen BK690.out 0; have hfz48_1 := blk_frozen BK690.out 1; obtain ⟨Ao49, co49, eo49⟩ := Kd.R_slice HO687.out; subst eo49) | (go_at_call 24; (with_reducible refine (impl_AddCoil.calls k _ _ t685 t688 t689 t691 t694 _ ?side1 ?side2 A16.out).mono ?_); (case side1 => refine (Kd.R_reads' (e := 23) (base := w.heap.size) (ok := fun k_ => ((((((((True ∧ some k_ ≠ (.slice Ao29 t645.length co29 : Value).ownBlock) ∧ some k_ ≠ (v652 : Value).ownBlock) ∧ some k_ ≠ (v657 : Value).ownBlock) ∧ some k_ ≠ (.slice Ao38 t665.length co38 : Value).ownBlock) ∧ some k_ ≠ (.slice Ao42 t673.length co42 : Value).ownBlock) ∧ some k_ ≠ (v679 : Value).ownBlock) ∧ some k_ ≠ (v683 : Value).ownBlock) ∧ k_ ≠ gb690)) (n := t685.length) (c := co49) ?_).2.2; exact (by (with_reducible repeat (first | apply Kd.R_alloc | apply Kd.R_drewN | apply Kd.R_drew)); exact (Kd.R_mono (Kd.R_far (p := ⟨gb690, 1, none⟩) (Kd.R_far (p := ⟨gb690, 0, none⟩) (Kd.R_mono HO687.out (fun k_ hk => (⟨hk, hk.2⟩ : _ ∧ k_ ≠ gb690))) (fun _ hk => hk.2) (.string t688)) (fun _ hk => hk.2) (.int .i64 t689)) (fun _ h_ => h_.1)))); (case side2 => exact (Kd.R_reads' HO687.out).2.1); rintro e w50 ⟨v692, rfl, ho0, hb⟩; have HO693 := ak_ (Kd.R_lower (Kd.R_newB (Kd.R_new' (Kd.R_new' (Kd.R_new' (Kd.R_new' (Kd.R_new' (Kd.R_new' (Kd.R_new' (Kd.R_new' ho0 (Kd.R_lt (by (with_reducible repeat (first | apply Kd.R_alloc | apply Kd.R_drewN | apply Kd.R_drew)); exact (Kd.R_mono (Kd.R_far (p := ⟨gb690, 1, none⟩) (Kd.R_far (p := ⟨gb690, 0, none⟩) (Kd.R_mono HO647.out (fun k_ hk => (⟨hk, hk.2⟩ : _ ∧ k_ ≠ gb690))) (fun _ hk => hk.2) (.string t688)) (fun _ hk => hk.2) (.int .i64 t689)) (fun _ h_ => h_.1))))) (Kd.R_lt (by (with_reducible repeat (first | apply Kd.R_alloc | apply Kd.R_drewN | apply Kd.R_drew)); exact (Kd.R_mono (Kd.R_far (p := ⟨gb690, 1, none⟩) (Kd.R_far (p := ⟨gb690, 0, none⟩) (Kd.R_mono HO653.out (fun k_ hk => (⟨hk, hk.2⟩ : _ ∧ k_ ≠ gb690))) (fun _ hk => hk.2) (.string t688)) (fun _ hk => hk.2) (.int .i64 t689)) (fun _ h_ => h_.1))))) (Kd.R_lt (by (with_reducible repeat (first | apply Kd.R_alloc | apply Kd.R_drewN | apply Kd.R_drew)); exact (Kd.R_mono (Kd.R_far (p := ⟨gb690, 1, none⟩) (Kd.R_far (p := ⟨gb690, 0, none⟩) (Kd.R_mono HO658.out (fun k_ hk => (⟨hk, hk.2⟩ : _ ∧ k_ ≠ gb690))) (fun _ hk => hk.2) (.string t688)) (fun _ hk => hk.2) (.int .i64 t689)) (fun _ h_ => h_.1))))) (Kd.R_lt (by (with_reducible repeat (first | apply Kd.R_alloc | apply Kd.R_drewN | apply Kd.R_drew)); exact (Kd.R_mono (Kd.R_far (p := ⟨gb690, 1, none⟩) (Kd.R_far (p := ⟨gb690, 0, none⟩) (Kd.R_mono HO668.out (fun k_ hk => (⟨hk, hk.2⟩ : _ ∧ k_ ≠ gb690))) (fun _ hk => hk.2) (.string t688)) (fun _ hk => hk.2) (.int .i64 t689)) (fun _ h_ => h_.1))))) (Kd.R_lt (by (with_reducible repeat (first | apply Kd.R_alloc | apply Kd.R_drewN | apply Kd.R_drew)); exact (Kd.R_mono (Kd.R_far (p := ⟨gb690, 1, none⟩) (Kd.R_far (p := ⟨gb690, 0, none⟩) (Kd.R_mono HO676.out (fun k_ hk => (⟨hk, hk.2⟩ : _ ∧ k_ ≠ gb690))) (fun _ hk => hk.2) (.string t688)) (fun _ hk => hk.2) (.int .i64 t689)) (fun _ h_ => h_.1))))) (Kd.R_lt (by (with_reducible repeat (first | apply Kd.R_alloc | apply Kd.R_drewN | apply Kd.R_drew)); exact (Kd.R_mono (Kd.R_far (p := ⟨gb690, 1, none⟩) (Kd.R_far (p := ⟨gb690, 0, none⟩) (Kd.R_mono HO680.out (fun k_ hk => (⟨hk, hk.2⟩ : _ ∧ k_ ≠ gb690))) (fun _ hk => hk.2) (.string t688)) (fun _ hk => hk.2) (.int .i64 t689)) (fun _ h_ => h_.1))))) (Kd.R_lt (by (with_reducible repeat (first | apply Kd.R_alloc | apply Kd.R_drewN | apply Kd.R_drew)); exact (Kd.R_mono (Kd.R_far (p := ⟨gb690, 1, none⟩) (Kd.R_far (p := ⟨gb690, 0, none⟩) (Kd.R_mono HO684.out (fun k_ hk => (⟨hk, hk.2⟩ : _ ∧ k_ ≠ gb690))) (fun _ hk => hk.2) (.string t688)) (fun _ hk => hk.2) (.int .i64 t689)) (fun _ h_ => h_.1))))) (Kd.R_lt (by (with_reducible repeat (first | apply Kd.R_alloc | apply Kd.R_drewN | apply Kd.R_drew)); exact (Kd.R_mono (Kd.R_far (p := ⟨gb690, 1, none⟩) (Kd.R_far (p := ⟨gb690, 0, none⟩) (Kd.R_mono HO687.out (fun k_ hk => (⟨hk, hk.2⟩ : _ ∧ k_ ≠ gb690))) (fun _ hk => hk.2) (.string t688)) (fun _ hk => hk.2) (.int .i64 t689)) (fun _ h_ => h_.1))))) (g := gb690) (o := .cells #[.string t688, .int .i64 t689] 23 (0, 0)) (by (with_reducible repeat (first | refine blk_drewN ?_ _ | refine blk_drew ?_ | refine blk_alloc ?_ _)); refine blk_put (cs := #[.string t688, .int .i64 0]) ?_ 1 _ rfl; (with_reducible repeat (first | refine blk_drewN ?_ _ | refine blk_drew ?_ | refine blk_alloc ?_ _)); refine blk_put (cs := #[.string (⟨#[]⟩ : ByteArray), .int .i64 0]) ?_ 0 _ rfl; (with_reducible repeat (first | refine blk_drewN ?_ _ | refine blk_drew ?_ | refine blk_alloc ?_ _)); exact BK690.out)) (below_size (hg2_ GE650 GE690))); replace HO647 := ak_ (Kd.R_elder' (by (with_reducible repeat (first | apply Kd.R_alloc | apply Kd.R_drewN | apply Kd.R_drew)); exact (Kd.R_mono (Kd.R_far (p := ⟨gb690, 1, none⟩) (Kd.R_far (p := ⟨gb690, 0, none⟩) (Kd.R_mono HO647.out (fun k_ hk => (⟨hk, hk.2⟩ : _ ∧ k_ ≠ gb690))) (fun _ hk => hk.2) (.string t688)) (fun _ hk => hk.2) (.int .i64 t689)) (fun _ h_ => h_.1))) (Kd.R_base ho0) hb); replace HO653 := ak_ (Kd.R_elder' (by (with_reducible repeat (first | apply Kd.R_alloc | apply Kd.R_drewN | apply Kd.R_drew)); exact (Kd.R_mono (Kd.R_far (p := ⟨gb690, 1, none⟩) (Kd.R_far (p := ⟨gb690, 0, none⟩) (Kd.R_mono HO653.out (fun k_ hk => (⟨hk, hk.2⟩ : _ ∧ k_ ≠ gb690))) (fun _ hk => hk.2) (.string t688)) (fun _ hk => hk.2) (.int .i64 t689)) (fun _ h_ => h_.1))) (Kd.R_base ho0) hb); replace HO658 := ak_ (Kd.R_elder' (by (with_reducible repeat (first | apply Kd.R_alloc | apply Kd.R_drewN | apply Kd.R_drew)); exact (Kd.R_mono (Kd.R_far (p := ⟨gb690, 1, none⟩) (Kd.R_far (p := ⟨gb690, 0, none⟩) (Kd.R_mono HO658.out (fun k_ hk => (⟨hk, hk.2⟩ : _ ∧ k_ ≠ gb690))) (fun _ hk => hk.2) (.string t688)) (fun _ hk => hk.2) (.int .i64 t689)) (fun _ h_ => h_.1))) (Kd.R_base ho0) hb); replace HO668 := ak_ (Kd.R_elder' (by (with_reducible repeat (first | apply Kd.R_alloc | apply Kd.R_drewN | apply Kd.R_drew)); exact (Kd.R_mono (Kd.R_far (p := ⟨gb690, 1, none⟩) (Kd.R_far (p := ⟨gb690, 0, none⟩) (Kd.R_mono HO668.out (fun k_ hk => (⟨hk, hk.2⟩ : _ ∧ k_ ≠ gb690))) (fun _ hk => hk.2) (.string t688)) (fun _ hk => hk.2) (.int .i64 t689)) (fun _ h_ => h_.1))) (Kd.R_base ho0) hb); replace HO676 := ak_ (Kd.R_elder' (by (with_reducible repeat (first | apply Kd.R_alloc | apply Kd.R_drewN | apply Kd.R_drew)); exact (Kd.R_mono (Kd.R_far (p := ⟨gb690, 1, none⟩) (Kd.R_far (p := ⟨gb690, 0, none⟩) (Kd.R_mono HO676.out (fun k_ hk => (⟨hk, hk.2⟩ : _ ∧ k_ ≠ gb690))) (fun _ hk => hk.2) (.string t688)) (fun _ hk => hk.2) (.int .i64 t689)) (fun _ h_ => h_.1))) (Kd.R_base ho0) hb); replace HO680 := ak_ (Kd.R_elder' (by (with_reducible repeat (first | apply Kd.R_alloc | apply Kd.R_drewN | apply Kd.R_drew)); exact (Kd.R_mono (Kd.R_far (p := ⟨gb690, 1, none⟩) (Kd.R_far (p := ⟨gb690, 0, none⟩) (Kd.R_mono HO680.out (fun k_ hk => (⟨hk, hk.2⟩ : _ ∧ k_ ≠ gb690))) (fun _ hk => hk.2) (.string t688)) (fun _ hk => hk.2) (.int .i64 t689)) (fun _ h_ => h_.1))) (Kd.R_base ho0) hb); replace HO684 := ak_ (Kd.R_elder' (by (with_reducible repeat (first | apply Kd.R_alloc | apply Kd.R_drewN | apply Kd.R_drew)); exact (Kd.R_mono (Kd.R_far (p := ⟨gb690, 1, none⟩) (Kd.R_far (p := ⟨gb690, 0, none⟩) (Kd.R_mono HO684.out (fun k_ hk => (⟨hk, hk.2⟩ : _ ∧ k_ ≠ gb690))) (fun _ hk => hk.2) (.string t688)) (fun _ hk => hk.2) (.int .i64 t689)) (fun _ h_ => h_.1))) (Kd.R_base ho0) hb); replace HO687 := ak_ (Kd.R_elder' (by (with_reducible repeat (first | apply Kd.R_alloc | apply Kd.R_drewN | apply Kd.R_drew)); exact (Kd.R_mono (Kd.R_far (p := ⟨gb690, 1, none⟩) (Kd.R_far (p := ⟨gb690, 0, none⟩) (Kd.R_mono HO687.out (fun k_ hk => (⟨hk, hk.2⟩ : _ ∧ k_ ≠ gb690))) (fun _ hk => hk.2) (.string t688)) (fun _ hk => hk.2) (.int .i64 t689)) (fun _ h_ => h_.1))) (Kd.R_base ho0) hb); replace BK650 := ak_ (blk_below (g := gb650) (o := .cells #[.string t648, .int .i64 t649] 32 (0, 0)) (by (with_reducible repeat (first | refine blk_drewN ?_ _ | refine blk_drew ?_ | refine blk_alloc ?_ _)); refine blk_far ?_ NB650_690.out _; (with_reducible repeat (first | refine blk_drewN ?_ _ | refine blk_drew ?_ | refine blk_alloc ?_ _)); refine blk_far ?_ NB650_690.out _; (with_reducible repeat (first | refine blk_drewN ?_ _ | refine blk_drew ?_ | refine blk_alloc ?_ _)); exact BK650.out) hb); replace BK690 := ak_ (blk_below (g := gb690) (o := .cells #[.string t688, .int .i64 t689] 23 (0, 0)) (by (with_reducible repeat (first | refine blk_drewN ?_ _ | refine blk_drew ?_ | refine blk_alloc ?_ _)); refine blk_put (cs := #[.string t688, .int .i64 0]) ?_ 1 _ rfl; (with_reducible repeat (first | refine blk_drewN ?_ _ | refine blk_drew ?_ | refine blk_alloc ?_ _)); refine blk_put (cs := #[.string (⟨#[]⟩ : ByteArray), .int .i64 0]) ?_ 0 _ rfl; (with_reducible repeat (first | refine blk_drewN ?_ _ | refine blk_drew ?_ | refine blk_alloc ?_ _)); exact BK690.out) hb); replace HB := ak_ (below_step (hg2_ GE650 GE690) hb); skip; (try clear hb); (try clear hb2); (try clear hk); (try clear hi); (try clear ho0); have hcz51_0 : w50.cell? ⟨gb690, 0, none⟩ = some (.string t688) := (blk_cell BK690.out 0).trans rfl; have hcz51_1 : w50.cell? ⟨gb690, 1, none⟩ = some (.int .i64 t689) := (blk_cell BK690.out 1).trans rfl; have hfz51_0 := blk_frozen BK690.out 0; have hfz51_1 := blk_frozen BK690.out 1) | (go_at_call 25; (with_reducible refine (spec_AddCoil.calls k _ _ t685 t688 t689 t695 t698 _ ?side1 ((Kd.R_reads' HO687.out).2.1) A17.out).mono ?_); (case side1 => repeat (first | exact (Kd.R_reads' HO687.out).2.2 | (with_reducible refine Kd.C_alloc ?_ _) | (with_reducible refine Kd.C_drewN ?_ _) | (with_reducible refine Kd.C_drew ?_))); rintro e w52 ⟨v696, rfl, ho0, hb⟩; have HO697 := ak_ (Kd.R_lower (Kd.R_newB (Kd.R_new' (Kd.R_new' (Kd.R_new' (Kd.R_new' (Kd.R_new' (Kd.R_new' (Kd.R_new' (Kd.R_new' (Kd.R_new' ho0 (Kd.R_lt (kr_ HO647))) (Kd.R_lt (kr_ HO653))) (Kd.R_lt (kr_ HO658))) (Kd.R_lt (kr_ HO668))) (Kd.R_lt (kr_ HO676))) (Kd.R_lt (kr_ HO680))) (Kd.R_lt (kr_ HO684))) (Kd.R_lt (kr_ HO687))) (Kd.R_lt (kr_ HO693))) (g := gb690) (o := .cells #[.string t688, .int .i64 t689] 23 (0, 0)) (bk_ BK690)) (below_size (hg2_ GE650 GE690))); replace HO647 := ak_ (Kd.R_elder' (kr_ HO647) (Kd.R_base ho0) hb); replace HO653 := ak_ (Kd.R_elder' (kr_ HO653) (Kd.R_base ho0) hb); replace HO658 := ak_ (Kd.R_elder' (kr_ HO658) (Kd.R_base ho0) hb); replace HO668 := ak_ (Kd.R_elder' (kr_ HO668) (Kd.R_base ho0) hb); replace HO676 := ak_ (Kd.R_elder' (kr_ HO676) (Kd.R_base ho0) hb); replace HO680 := ak_ (Kd.R_elder' (kr_ HO680) (Kd.R_base ho0) hb); replace HO684 := ak_ (Kd.R_elder' (kr_ HO684) (Kd.R_base ho0) hb); replace HO687 := ak_ (Kd.R_elder' (kr_ HO687) (Kd.R_base ho0) hb); replace HO693 := ak_ (Kd.R_elder' (kr_ HO693) (Kd.R_base ho0) hb); replace BK650 := ak_ (blk_below (g := gb650) (o := .cells #[.string t648, .int .i64 t649] 32 (0, 0)) (bk_ BK650) hb); replace BK690 := ak_ (blk_below (g := gb690) (o := .cells #[.string t688, .int .i64 t689] 23 (0, 0)) (bk_ BK690) hb); replace HB := ak_ (below_step (hg2_ GE650 GE690) hb); skip; clear hb ho0) | (go_at_call 26; (with_reducible refine (spec_DrawCoilText.calls k _ _ l0 t699 t700 _ (kc_ (Kd.C_below HR0.out HB.out)) HC0.out A18.out).mono ?_); rintro e w53 ⟨rfl, hb⟩; replace HO647 := ak_ (Kd.R_below (kr_ HO647) hb); replace HO653 := ak_ (Kd.R_below (kr_ HO653) hb); replace HO658 := ak_ (Kd.R_below (kr_ HO658) hb); replace HO668 := ak_ (Kd.R_below (kr_ HO668) hb); replace HO676 := ak_ (Kd.R_below (kr_ HO676) hb); replace HO680 := ak_ (Kd.R_below (kr_ HO680) hb); replace HO684 := ak_ (Kd.R_below (kr_ HO684) hb); replace HO687 := ak_ (Kd.R_below (kr_ HO687) hb); replace HO693 := ak_ (Kd.R_below (kr_ HO693) hb); replace HO697 := ak_ (Kd.R_below (kr_ HO697) hb); replace BK650 := ak_ (blk_below (g := gb650) (o := .cells #[.string t648, .int .i64 t649] 32 (0, 0)) (bk_ BK650) hb); replace BK690 := ak_ (blk_below (g := gb690) (o := .cells #[.string t688, .int .i64 t689] 23 (0, 0)) (bk_ BK690) hb); replace HB := ak_ (below_step (hg2_ GE650 GE690) hb); skip; clear hb) | ((with_reducible refine gate_dst (N := 33) rfl ?_); refine box_event ?hg (N := 33) ?hd (cs := #[.string (⟨#[]⟩ : ByteArray), .int .i64 0]) (t := 23) ?hr ?_; (case hd => rfl); (case hg => rfl); (case hr => first | (go_simp; done) | (go_simp; rfl)); intro gb701 hg w54 hbox hb; replace HO647 := ak_ (Kd.R_below (Kd.R_elderB (kr_ HO647) gb701 (Nat.le_of_eq hg.symm)) hb); replace HO653 := ak_ (Kd.R_below (Kd.R_elderB (kr_ HO653) gb701 (Nat.le_of_eq hg.symm)) hb); replace HO658 := ak_ (Kd.R_below (Kd.R_elderB (kr_ HO658) gb701 (Nat.le_of_eq hg.symm)) hb); replace HO668 := ak_ (Kd.R_below (Kd.R_elderB (kr_ HO668) gb701 (Nat.le_of_eq hg.symm)) hb); replace HO676 := ak_ (Kd.R_below (Kd.R_elderB (kr_ HO676) gb701 (Nat.le_of_eq hg.symm)) hb); replace HO680 := ak_ (Kd.R_below (Kd.R_elderB (kr_ HO680) gb701 (Nat.le_of_eq hg.symm)) hb); replace HO684 := ak_ (Kd.R_below (Kd.R_elderB (kr_ HO684) gb701 (Nat.le_of_eq hg.symm)) hb); replace HO687 := ak_ (Kd.R_below (Kd.R_elderB (kr_ HO687) gb701 (Nat.le_of_eq hg.symm)) hb); replace HO693 := ak_ (Kd.R_below (Kd.R_elderB (kr_ HO693) gb701 (Nat.le_of_eq hg.symm)) hb); replace HO697 := ak_ (Kd.R_below (Kd.R_elderB (kr_ HO697) gb701 (Nat.le_of_eq hg.symm)) hb); have BK701 := ak_ (hbox); have GW701 := ak_ ((by rw [hg]; exact (below_size (hg2_ GE650 GE690)) : w.heap.size ≤ gb701)); have GE701 := ak_ ((by rw [hg]; exact (below_size (hg2_ GE650 GE690)) : w.heap.size ≤ gb701)); replace HB := ak_ (below_step (hg2_ GE650 GE690) hb); have NB650_701 := ak_ ((by rw [hg]; exact Nat.ne_of_lt (blk_lt (g := gb650) (o := .cells #[.string t648, .int .i64 t649] 32 (0, 0)) (bk_ BK650)) : gb650 ≠ gb701)); have NB701_650 := ak_ ((by rw [hg]; exact Nat.ne_of_gt (blk_lt (g := gb650) (o := .cells #[.string t648, .int .i64 t649] 32 (0, 0)) (bk_ BK650)) : gb701 ≠ gb650)); replace BK650 := ak_ (blk_below (g := gb650) (o := .cells #[.string t648, .int .i64 t649] 32 (0, 0)) (bk_ BK650) hb); have NB690_701 := ak_ ((by rw [hg]; exact Nat.ne_of_lt (blk_lt (g := gb690) (o := .cells #[.string t688, .int .i64 t689] 23 (0, 0)) (bk_ BK690)) : gb690 ≠ gb701)); have NB701_690 := ak_ ((by rw [hg]; exact Nat.ne_of_gt (blk_lt (g := gb690) (o := .cells #[.string t688, .int .i64 t689] 23 (0, 0)) (bk_ BK690)) : gb701 ≠ gb690)); replace BK690 := ak_ (blk_below (g := gb690) (o := .cells #[.string t688, .int .i64 t689] 23 (0, 0)) (bk_ BK690) hb); skip; clear hb hbox hg; have hnb55 := NB701_650.out; have hnc55 := NB650_701.out; have hnb56 := NB701_690.out; have hnc56 := NB690_701.out; have hcz57_0 : w54.cell? ⟨gb701, 0, none⟩ = some (.string (⟨#[]⟩ : ByteArray)) := (blk_cell BK701.out 0).trans rfl; have hcz57_1 : w54.cell? ⟨gb701, 1, none⟩ = some (.int .i64 0) := (blk_cell BK701.out 1).trans rfl; have hfz57_0 := blk_frozen BK701.out 0; have hfz57_1 := blk_frozen BK701.out 1) | (go_at_call 27; (with_reducible refine (impl_CoilText.calls k t699 t700 t702 _ ?side1 A19.out).mono ?_); (case side1 => first | exact HT.out | exact TB.below HT.out HB.out | ((repeat (first | exact HT.out | exact TB.below HT.out HB.out | apply TB.drewN | apply TB.drew)); done) | exact TB.below HT.out (by repeat (first | exact HB.out | apply below_alloc | apply pw_below_drewN | apply below_drew1 | refine below_set ?_ (Aside0.out (by assumption))))); rintro e w58 ⟨rfl, hb⟩; replace HO647 := ak_ (Kd.R_below (by (with_reducible repeat (first | apply Kd.R_alloc | apply Kd.R_drewN | apply Kd.R_drew)); exact (Kd.R_mono (Kd.R_far (p := ⟨gb701, 1, none⟩) (Kd.R_far (p := ⟨gb701, 0, none⟩) (Kd.R_mono HO647.out (fun k_ hk => (⟨hk, hk.2⟩ : _ ∧ k_ ≠ gb701))) (fun _ hk => hk.2) (.string t699)) (fun _ hk => hk.2) (.int .i64 t700)) (fun _ h_ => h_.1))) hb); replace HO653 := ak_ (Kd.R_below (by (with_reducible repeat (first | apply Kd.R_alloc | apply Kd.R_drewN | apply Kd.R_drew)); exact (Kd.R_mono (Kd.R_far (p := ⟨gb701, 1, none⟩) (Kd.R_far (p := ⟨gb701, 0, none⟩) (Kd.R_mono HO653.out (fun k_ hk => (⟨hk, hk.2⟩ : _ ∧ k_ ≠ gb701))) (fun _ hk => hk.2) (.string t699)) (fun _ hk => hk.2) (.int .i64 t700)) (fun _ h_ => h_.1))) hb); replace HO658 := ak_ (Kd.R_below (by (with_reducible repeat (first | apply Kd.R_alloc | apply Kd.R_drewN | apply Kd.R_drew)); exact (Kd.R_mono (Kd.R_far (p := ⟨gb701, 1, none⟩) (Kd.R_far (p := ⟨gb701, 0, none⟩) (Kd.R_mono HO658.out (fun k_ hk => (⟨hk, hk.2⟩ : _ ∧ k_ ≠ gb701))) (fun _ hk => hk.2) (.string t699)) (fun _ hk => hk.2) (.int .i64 t700)) (fun _ h_ => h_.1))) hb); replace HO668 := ak_ (Kd.R_below (by (with_reducible repeat (first | apply Kd.R_alloc | apply Kd.R_drewN | apply Kd.R_drew)); exact (Kd.R_mono (Kd.R_far (p := ⟨gb701, 1, none⟩) (Kd.R_far (p := ⟨gb701, 0, none⟩) (Kd.R_mono HO668.out (fun k_ hk => (⟨hk, hk.2⟩ : _ ∧ k_ ≠ gb701))) (fun _ hk => hk.2) (.string t699)) (fun _ hk => hk.2) (.int .i64 t700)) (fun _ h_ => h_.1))) hb); replace HO676 := ak_ (Kd.R_below (by (with_reducible repeat (first | apply Kd.R_alloc | apply Kd.R_drewN | apply Kd.R_drew)); exact (Kd.R_mono (Kd.R_far (p := ⟨gb701, 1, none⟩) (Kd.R_far (p := ⟨gb701, 0, none⟩) (Kd.R_mono HO676.out (fun k_ hk => (⟨hk, hk.2⟩ : _ ∧ k_ ≠ gb701))) (fun _ hk => hk.2) (.string t699)) (fun _ hk => hk.2) (.int .i64 t700)) (fun _ h_ => h_.1))) hb); replace HO680 := ak_ (Kd.R_below (by (with_reducible repeat (first | apply Kd.R_alloc | apply Kd.R_drewN | apply Kd.R_drew)); exact (Kd.R_mono (Kd.R_far (p := ⟨gb701, 1, none⟩) (Kd.R_far (p := ⟨gb701, 0, none⟩) (Kd.R_mono HO680.out (fun k_ hk => (⟨hk, hk.2⟩ : _ ∧ k_ ≠ gb701))) (fun _ hk => hk.2) (.string t699)) (fun _ hk => hk.2) (.int .i64 t700)) (fun _ h_ => h_.1))) hb); replace HO684 := ak_ (Kd.R_below (by (with_reducible repeat (first | apply Kd.R_alloc | apply Kd.R_drewN | apply Kd.R_drew)); exact (Kd.R_mono (Kd.R_far (p := ⟨gb701, 1, none⟩) (Kd.R_far (p := ⟨gb701, 0, none⟩) (Kd.R_mono HO684.out (fun k_ hk => (⟨hk, hk.2⟩ : _ ∧ k_ ≠ gb701))) (fun _ hk => hk.2) (.string t699)) (fun _ hk => hk.2) (.int .i64 t700)) (fun _ h_ => h_.1))) hb); replace HO687 := ak_ (Kd.R_below (by (with_reducible repeat (first | apply Kd.R_alloc | apply Kd.R_drewN | apply Kd.R_drew)); exact (Kd.R_mono (Kd.R_far (p := ⟨gb701, 1, none⟩) (Kd.R_far (p := ⟨gb701, 0, none⟩) (Kd.R_mono HO687.out (fun k_ hk => (⟨hk, hk.2⟩ : _ ∧ k_ ≠ gb701))) (fun _ hk => hk.2) (.string t699)) (fun _ hk => hk.2) (.int .i64 t700)) (fun _ h_ => h_.1))) hb); replace HO693 := ak_ (Kd.R_below (by (with_reducible repeat (first | apply Kd.R_alloc | apply Kd.R_drewN | apply Kd.R_drew)); exact (Kd.R_mono (Kd.R_far (p := ⟨gb701, 1, none⟩) (Kd.R_far (p := ⟨gb701, 0, none⟩) (Kd.R_mono HO693.out (fun k_ hk => (⟨hk, hk.2⟩ : _ ∧ k_ ≠ gb701))) (fun _ hk => hk.2) (.string t699)) (fun _ hk => hk.2) (.int .i64 t700)) (fun _ h_ => h_.1))) hb); replace HO697 := ak_ (Kd.R_below (by (with_reducible repeat (first | apply Kd.R_alloc | apply Kd.R_drewN | apply Kd.R_drew)); exact (Kd.R_mono (Kd.R_far (p := ⟨gb701, 1, none⟩) (Kd.R_far (p := ⟨gb701, 0, none⟩) (Kd.R_mono HO697.out (fun k_ hk => (⟨hk, hk.2⟩ : _ ∧ k_ ≠ gb701))) (fun _ hk => hk.2) (.string t699)) (fun _ hk => hk.2) (.int .i64 t700)) (fun _ h_ => h_.1))) hb); replace BK650 := ak_ (blk_below (g := gb650) (o := .cells #[.string t648, .int .i64 t649] 32 (0, 0)) (by (with_reducible repeat (first | refine blk_drewN ?_ _ | refine blk_drew ?_ | refine blk_alloc ?_ _)); refine blk_far ?_ NB650_701.out _; (with_reducible repeat (first | refine blk_drewN ?_ _ | refine blk_drew ?_ | refine blk_alloc ?_ _)); refine blk_far ?_ NB650_701.out _; (with_reducible repeat (first | refine blk_drewN ?_ _ | refine blk_drew ?_ | refine blk_alloc ?_ _)); exact BK650.out) hb); replace BK690 := ak_ (blk_below (g := gb690) (o := .cells #[.string t688, .int .i64 t689] 23 (0, 0)) (by (with_reducible repeat (first | refine blk_drewN ?_ _ | refine blk_drew ?_ | refine blk_alloc ?_ _)); refine blk_far ?_ NB690_701.out _; (with_reducible repeat (first | refine blk_drewN ?_ _ | refine blk_drew ?_ | refine blk_alloc ?_ _)); refine blk_far ?_ NB690_701.out _; (with_reducible repeat (first | refine blk_drewN ?_ _ | refine blk_drew ?_ | refine blk_alloc ?_ _)); exact BK690.out) hb); replace BK701 := ak_ (blk_below (g := gb701) (o := .cells #[.string t699, .int .i64 t700] 23 (0, 0)) (by (with_reducible repeat (first | refine blk_drewN ?_ _ | refine blk_drew ?_ | refine blk_alloc ?_ _)); refine blk_put (cs := #[.string t699, .int .i64 0]) ?_ 1 _ rfl; (with_reducible repeat (first | refine blk_drewN ?_ _ | refine blk_drew ?_ | refine blk_alloc ?_ _)); refine blk_put (cs := #[.string (⟨#[]⟩ : ByteArray), .int .i64 0]) ?_ 0 _ rfl; (with_reducible repeat (first | refine blk_drewN ?_ _ | refine blk_drew ?_ | refine blk_alloc ?_ _)); exact BK701.out) hb); replace HB := ak_ (below_step (by repeat (first | (with_reducible first | exact HB.out | apply below_alloc | apply pw_below_drewN | apply below_drew1 | refine below_set ?_ GE650.out | refine below_set ?_ GE690.out | refine below_set ?_ GE701.out) | exact HB.out)) hb); skip; clear hb) | (go_at_call 9; (with_reducible refine (impl_ReadCoil.calls k t702 t703 t704 t705 _ ?side1 ?side2 A20.out).mono ?_); (case side1 => first | exact HT.out | exact TB.below HT.out HB.out | ((repeat (first | exact HT.out | exact TB.below HT.out HB.out | apply TB.drewN | apply TB.drew)); done) | exact TB.below HT.out (by repeat (first | exact HB.out | apply below_alloc | apply pw_below_drewN | apply below_drew1 | refine below_set ?_ (Aside0.out (by assumption))))); (case side2 => first | exact HU.out | exact TU.below HU.out HB.out | ((repeat (first | exact HU.out | exact TU.below HU.out HB.out | apply TU.drewN | apply TU.drew)); done) | exact TU.below HU.out (by repeat (first | exact HB.out | apply below_alloc | apply pw_below_drewN | apply below_drew1 | refine below_set ?_ (Aside0.out (by assumption))))); rintro e w59 ⟨rfl, hb⟩; replace HO647 := ak_ (Kd.R_below (kr_ HO647) hb); replace HO653 := ak_ (Kd.R_below (kr_ HO653) hb); replace HO658 := ak_ (Kd.R_below (kr_ HO658) hb); replace HO668 := ak_ (Kd.R_below (kr_ HO668) hb); replace HO676 := ak_ (Kd.R_below (kr_ HO676) hb); replace HO680 := ak_ (Kd.R_below (kr_ HO680) hb); replace HO684 := ak_ (Kd.R_below (kr_ HO684) hb); replace HO687 := ak_ (Kd.R_below (kr_ HO687) hb); replace HO693 := ak_ (Kd.R_below (kr_ HO693) hb); replace HO697 := ak_ (Kd.R_below (kr_ HO697) hb); replace BK650 := ak_ (blk_below (g := gb650) (o := .cells #[.string t648, .int .i64 t649] 32 (0, 0)) (bk_ BK650) hb); replace BK690 := ak_ (blk_below (g := gb690) (o := .cells #[.string t688, .int .i64 t689] 23 (0, 0)) (bk_ BK690) hb); replace BK701 := ak_ (blk_below (g := gb701) (o := .cells #[.string t699, .int .i64 t700] 23 (0, 0)) (bk_ BK701) hb); replace HB := ak_ (below_step (by repeat (first | (with_reducible first | exact HB.out | apply below_alloc | apply pw_below_drewN | apply below_drew1 | refine below_set ?_ GE650.out | refine below_set ?_ GE690.out | refine below_set ?_ GE701.out) | exact HB.out)) hb); skip; clear hb) | ((with_reducible refine gate_dst (N := 35) rfl ?_); refine box_event ?hg (N := 35) ?hd (cs := #[.string (⟨#[]⟩ : ByteArray), .int .i64 0]) (t := 23) ?hr ?_; (case hd => rfl); (case hg => rfl); (case hr => first | (go_simp; done) | (go_simp; rfl)); intro gb706 hg w60 hbox hb; replace HO647 := ak_ (Kd.R_below (Kd.R_elderB (kr_ HO647) gb706 (Nat.le_of_eq hg.symm)) hb); replace HO653 := ak_ (Kd.R_below (Kd.R_elderB (kr_ HO653) gb706 (Nat.le_of_eq hg.symm)) hb); replace HO658 := ak_ (Kd.R_below (Kd.R_elderB (kr_ HO658) gb706 (Nat.le_of_eq hg.symm)) hb); replace HO668 := ak_ (Kd.R_below (Kd.R_elderB (kr_ HO668) gb706 (Nat.le_of_eq hg.symm)) hb); replace HO676 := ak_ (Kd.R_below (Kd.R_elderB (kr_ HO676) gb706 (Nat.le_of_eq hg.symm)) hb); replace HO680 := ak_ (Kd.R_below (Kd.R_elderB (kr_ HO680) gb706 (Nat.le_of_eq hg.symm)) hb); replace HO684 := ak_ (Kd.R_below (Kd.R_elderB (kr_ HO684) gb706 (Nat.le_of_eq hg.symm)) hb); replace HO687 := ak_ (Kd.R_below (Kd.R_elderB (kr_ HO687) gb706 (Nat.le_of_eq hg.symm)) hb); replace HO693 := ak_ (Kd.R_below (Kd.R_elderB (kr_ HO693) gb706 (Nat.le_of_eq hg.symm)) hb); replace HO697 := ak_ (Kd.R_below (Kd.R_elderB (kr_ HO697) gb706 (Nat.le_of_eq hg.symm)) hb); have BK706 := ak_ (hbox); have GW706 := ak_ ((by rw [hg]; exact (below_size (by repeat (first | (with_reducible first | exact HB.out | apply below_alloc | apply pw_below_drewN | apply below_drew1 | refine below_set ?_ GE650.out | refine below_set ?_ GE690.out | refine below_set ?_ GE701.out) | exact HB.out))) : w.heap.size ≤ gb706)); have GE706 := ak_ ((by rw [hg]; exact (below_size (by repeat (first | (with_reducible first | exact HB.out | apply below_alloc | apply pw_below_drewN | apply below_drew1 | refine below_set ?_ GE650.out | refine below_set ?_ GE690.out | refine below_set ?_ GE701.out) | exact HB.out))) : w.heap.size ≤ gb706)); replace HB := ak_ (below_step (by repeat (first | (with_reducible first | exact HB.out | apply below_alloc | apply pw_below_drewN | apply below_drew1 | refine below_set ?_ GE650.out | refine below_set ?_ GE690.out | refine below_set ?_ GE701.out) | exact HB.out)) hb); have NB650_706 := ak_ ((by rw [hg]; exact Nat.ne_of_lt (blk_lt (g := gb650) (o := .cells #[.string t648, .int .i64 t649] 32 (0, 0)) (bk_ BK650)) : gb650 ≠ gb706)); have NB706_650 := ak_ ((by rw [hg]; exact Nat.ne_of_gt (blk_lt (g := gb650) (o := .cells #[.string t648, .int .i64 t649] 32 (0, 0)) (bk_ BK650)) : gb706 ≠ gb650)); replace BK650 := ak_ (blk_below (g := gb650) (o := .cells #[.string t648, .int .i64 t649] 32 (0, 0)) (bk_ BK650) hb); have NB690_706 := ak_ ((by rw [hg]; exact Nat.ne_of_lt (blk_lt (g := gb690) (o := .cells #[.string t688, .int .i64 t689] 23 (0, 0)) (bk_ BK690)) : gb690 ≠ gb706)); have NB706_690 := ak_ ((by rw [hg]; exact Nat.ne_of_gt (blk_lt (g := gb690) (o := .cells #[.string t688, .int .i64 t689] 23 (0, 0)) (bk_ BK690)) : gb706 ≠ gb690)); replace BK690 := ak_ (blk_below (g := gb690) (o := .cells #[.string t688, .int .i64 t689] 23 (0, 0)) (bk_ BK690) hb); have NB701_706 := ak_ ((by rw [hg]; exact Nat.ne_of_lt (blk_lt (g := gb701) (o := .cells #[.string t699, .int .i64 t700] 23 (0, 0)) (bk_ BK701)) : gb701 ≠ gb706)); have NB706_701 := ak_ ((by rw [hg]; exact Nat.ne_of_gt (blk_lt (g := gb701) (o := .cells #[.string t699, .int .i64 t700] 23 (0, 0)) (bk_ BK701)) : gb706 ≠ gb701)); replace BK701 := ak_ (blk_below (g := gb701) (o := .cells #[.string t699, .int .i64 t700] 23 (0, 0)) (bk_ BK701) hb); skip; clear hb hbox hg; have hnb61 := NB706_650.out; have hnc61 := NB650_706.out; have hnb62 := NB706_690.out; have hnc62 := NB690_706.out; have hnb63 := NB706_701.out; have hnc63 := NB701_706.out; have hcz64_0 : w60.cell? ⟨gb706, 0, none⟩ = some (.string (⟨#[]⟩ : ByteArray)) := (blk_cell BK706.out 0).trans rfl; have hcz64_1 : w60.cell? ⟨gb706, 1, none⟩ = some (.int .i64 0) := (blk_cell BK706.out 1).trans rfl; have hfz64_0 := blk_frozen BK706.out 0; have hfz64_1 := blk_frozen BK706.out 1) | (go_at_call 28; (with_reducible refine (spec_DrawReadCoil.calls k _ _ l0 t707 _ ?side1 HC0.out A21.out).mono ?_); (case side1 => exact Kd.C_below HR0.out (by repeat (first | (with_reducible first | exact HB.out | apply below_alloc | apply pw_below_drewN | apply below_drew1 | refine below_set ?_ GE650.out | refine below_set ?_ GE690.out | refine below_set ?_ GE701.out | refine below_set ?_ GE706.out) | exact HB.out))); rintro e w65 ⟨rfl, hb⟩; replace HO647 := ak_ (Kd.R_below (by (with_reducible repeat (first | apply Kd.R_alloc | apply Kd.R_drewN | apply Kd.R_drew)); exact (Kd.R_mono (Kd.R_far (p := ⟨gb706, 1, none⟩) (Kd.R_far (p := ⟨gb706, 0, none⟩) (Kd.R_mono HO647.out (fun k_ hk => (⟨hk, hk.2⟩ : _ ∧ k_ ≠ gb706))) (fun _ hk => hk.2) (.string t703)) (fun _ hk => hk.2) (.int .i64 t704)) (fun _ h_ => h_.1))) hb); replace HO653 := ak_ (Kd.R_below (by (with_reducible repeat (first | apply Kd.R_alloc | apply Kd.R_drewN | apply Kd.R_drew)); exact (Kd.R_mono (Kd.R_far (p := ⟨gb706, 1, none⟩) (Kd.R_far (p := ⟨gb706, 0, none⟩) (Kd.R_mono HO653.out (fun k_ hk => (⟨hk, hk.2⟩ : _ ∧ k_ ≠ gb706))) (fun _ hk => hk.2) (.string t703)) (fun _ hk => hk.2) (.int .i64 t704)) (fun _ h_ => h_.1))) hb); replace HO658 := ak_ (Kd.R_below (by (with_reducible repeat (first | apply Kd.R_alloc | apply Kd.R_drewN | apply Kd.R_drew)); exact (Kd.R_mono (Kd.R_far (p := ⟨gb706, 1, none⟩) (Kd.R_far (p := ⟨gb706, 0, none⟩) (Kd.R_mono HO658.out (fun k_ hk => (⟨hk, hk.2⟩ : _ ∧ k_ ≠ gb706))) (fun _ hk => hk.2) (.string t703)) (fun _ hk => hk.2) (.int .i64 t704)) (fun _ h_ => h_.1))) hb); replace HO668 := ak_ (Kd.R_below (by (with_reducible repeat (first | apply Kd.R_alloc | apply Kd.R_drewN | apply Kd.R_drew)); exact (Kd.R_mono (Kd.R_far (p := ⟨gb706, 1, none⟩) (Kd.R_far (p := ⟨gb706, 0, none⟩) (Kd.R_mono HO668.out (fun k_ hk => (⟨hk, hk.2⟩ : _ ∧ k_ ≠ gb706))) (fun _ hk => hk.2) (.string t703)) (fun _ hk => hk.2) (.int .i64 t704)) (fun _ h_ => h_.1))) hb); replace HO676 := ak_ (Kd.R_below (by (with_reducible repeat (first | apply Kd.R_alloc | apply Kd.R_drewN | apply Kd.R_drew)); exact (Kd.R_mono (Kd.R_far (p := ⟨gb706, 1, none⟩) (Kd.R_far (p := ⟨gb706, 0, none⟩) (Kd.R_mono HO676.out (fun k_ hk => (⟨hk, hk.2⟩ : _ ∧ k_ ≠ gb706))) (fun _ hk => hk.2) (.string t703)) (fun _ hk => hk.2) (.int .i64 t704)) (fun _ h_ => h_.1))) hb); replace HO680 := ak_ (Kd.R_below (by (with_reducible repeat (first | apply Kd.R_alloc | apply Kd.R_drewN | apply Kd.R_drew)); exact (Kd.R_mono (Kd.R_far (p := ⟨gb706, 1, none⟩) (Kd.R_far (p := ⟨gb706, 0, none⟩) (Kd.R_mono HO680.out (fun k_ hk => (⟨hk, hk.2⟩ : _ ∧ k_ ≠ gb706))) (fun _ hk => hk.2) (.string t703)) (fun _ hk => hk.2) (.int .i64 t704)) (fun _ h_ => h_.1))) hb); replace HO684 := ak_ (Kd.R_below (by (with_reducible repeat (first | apply Kd.R_alloc | apply Kd.R_drewN | apply Kd.R_drew)); exact (Kd.R_mono (Kd.R_far (p := ⟨gb706, 1, none⟩) (Kd.R_far (p := ⟨gb706, 0, none⟩) (Kd.R_mono HO684.out (fun k_ hk => (⟨hk, hk.2⟩ : _ ∧ k_ ≠ gb706))) (fun _ hk => hk.2) (.string t703)) (fun _ hk => hk.2) (.int .i64 t704)) (fun _ h_ => h_.1))) hb); replace HO687 := ak_ (Kd.R_below (by (with_reducible repeat (first | apply Kd.R_alloc | apply Kd.R_drewN | apply Kd.R_drew)); exact (Kd.R_mono (Kd.R_far (p := ⟨gb706, 1, none⟩) (Kd.R_far (p := ⟨gb706, 0, none⟩) (Kd.R_mono HO687.out (fun k_ hk => (⟨hk, hk.2⟩ : _ ∧ k_ ≠ gb706))) (fun _ hk => hk.2) (.string t703)) (fun _ hk => hk.2) (.int .i64 t704)) (fun _ h_ => h_.1))) hb); replace HO693 := ak_ (Kd.R_below (by (with_reducible repeat (first | apply Kd.R_alloc | apply Kd.R_drewN | apply Kd.R_drew)); exact (Kd.R_mono (Kd.R_far (p := ⟨gb706, 1, none⟩) (Kd.R_far (p := ⟨gb706, 0, none⟩) (Kd.R_mono HO693.out (fun k_ hk => (⟨hk, hk.2⟩ : _ ∧ k_ ≠ gb706))) (fun _ hk => hk.2) (.string t703)) (fun _ hk => hk.2) (.int .i64 t704)) (fun _ h_ => h_.1))) hb); replace HO697 := ak_ (Kd.R_below (by (with_reducible repeat (first | apply Kd.R_alloc | apply Kd.R_drewN | apply Kd.R_drew)); exact (Kd.R_mono (Kd.R_far (p := ⟨gb706, 1, none⟩) (Kd.R_far (p := ⟨gb706, 0, none⟩) (Kd.R_mono HO697.out (fun k_ hk => (⟨hk, hk.2⟩ : _ ∧ k_ ≠ gb706))) (fun _ hk => hk.2) (.string t703)) (fun _ hk => hk.2) (.int .i64 t704)) (fun _ h_ => h_.1))) hb); replace BK650 := ak_ (blk_below (g := gb650) (o := .cells #[.string t648, .int .i64 t649] 32 (0, 0)) (by (with_reducible repeat (first | refine blk_drewN ?_ _ | refine blk_drew ?_ | refine blk_alloc ?_ _)); refine blk_far ?_ NB650_706.out _; (with_reducible repeat (first | refine blk_drewN ?_ _ | refine blk_drew ?_ | refine blk_alloc ?_ _)); refine blk_far ?_ NB650_706.out _; (with_reducible repeat (first | refine blk_drewN ?_ _ | refine blk_drew ?_ | refine blk_alloc ?_ _)); exact BK650.out) hb); replace BK690 := ak_ (blk_below (g := gb690) (o := .cells #[.string t688, .int .i64 t689] 23 (0, 0)) (by (with_reducible repeat (first | refine blk_drewN ?_ _ | refine blk_drew ?_ | refine blk_alloc ?_ _)); refine blk_far ?_ NB690_706.out _; (with_reducible repeat (first | refine blk_drewN ?_ _ | refine blk_drew ?_ | refine blk_alloc ?_ _)); refine blk_far ?_ NB690_706.out _; (with_reducible repeat (first | refine blk_drewN ?_ _ | refine blk_drew ?_ | refine blk_alloc ?_ _)); exact BK690.out) hb); replace BK701 := ak_ (blk_below (g := gb701) (o := .cells #[.string t699, .int .i64 t700] 23 (0, 0)) (by (with_reducible repeat (first | refine blk_drewN ?_ _ | refine blk_drew ?_ | refine blk_alloc ?_ _)); refine blk_far ?_ NB701_706.out _; (with_reducible repeat (first | refine blk_drewN ?_ _ | refine blk_drew ?_ | refine blk_alloc ?_ _)); refine blk_far ?_ NB701_706.out _; (with_reducible repeat (first | refine blk_drewN ?_ _ | refine blk_drew ?_ | refine blk_alloc ?_ _)); exact BK701.out) hb); replace BK706 := ak_ (blk_below (g := gb706) (o := .cells #[.string t703, .int .i64 t704] 23 (0, 0)) (by (with_reducible repeat (first | refine blk_drewN ?_ _ | refine blk_drew ?_ | refine blk_alloc ?_ _)); refine blk_put (cs := #[.string t703, .int .i64 0]) ?_ 1 _ rfl; (with_reducible repeat (first | refine blk_drewN ?_ _ | refine blk_drew ?_ | refine blk_alloc ?_ _)); refine blk_put (cs := #[.string (⟨#[]⟩ : ByteArray), .int .i64 0]) ?_ 0 _ rfl; (with_reducible repeat (first | refine blk_drewN ?_ _ | refine blk_drew ?_ | refine blk_alloc ?_ _)); exact BK706.out) hb); replace HB := ak_ (below_step (by repeat (first | (with_reducible first | exact HB.out | apply below_alloc | apply pw_below_drewN | apply below_drew1 | refine below_set ?_ GE650.out | refine below_set ?_ GE690.out | refine below_set ?_ GE701.out | refine below_set ?_ GE706.out) | exact HB.out)) hb); skip; clear hb) | (go_at_call 9; (with_reducible refine (impl_ReadCoil.calls k t707 t708 t709 t710 _ ?side1 ?side2 A22.out).mono ?_); (case side1 => first | exact HT.out | exact TB.below HT.out HB.out | ((repeat (first | exact HT.out | exact TB.below HT.out HB.out | apply TB.drewN | apply TB.drew)); done) | exact TB.below HT.out (by repeat (first | exact HB.out | apply below_alloc | apply pw_below_drewN | apply below_drew1 | refine below_set ?_ (Aside0.out (by assumption))))); (case side2 => first | exact HU.out | exact TU.below HU.out HB.out | ((repeat (first | exact HU.out | exact TU.below HU.out HB.out | apply TU.drewN | apply TU.drew)); done) | exact TU.below HU.out (by repeat (first | exact HB.out | apply below_alloc | apply pw_below_drewN | apply below_drew1 | refine below_set ?_ (Aside0.out (by assumption))))); rintro e w66 ⟨rfl, hb⟩; replace HO647 := ak_ (Kd.R_below (kr_ HO647) hb); replace HO653 := ak_ (Kd.R_below (kr_ HO653) hb); replace HO658 := ak_ (Kd.R_below (kr_ HO658) hb); replace HO668 := ak_ (Kd.R_below (kr_ HO668) hb); replace HO676 := ak_ (Kd.R_below (kr_ HO676) hb); replace HO680 := ak_ (Kd.R_below (kr_ HO680) hb); replace HO684 := ak_ (Kd.R_below (kr_ HO684) hb); replace HO687 := ak_ (Kd.R_below (kr_ HO687) hb); replace HO693 := ak_ (Kd.R_below (kr_ HO693) hb); replace HO697 := ak_ (Kd.R_below (kr_ HO697) hb); replace BK650 := ak_ (blk_below (g := gb650) (o := .cells #[.string t648, .int .i64 t649] 32 (0, 0)) (bk_ BK650) hb); replace BK690 := ak_ (blk_below (g := gb690) (o := .cells #[.string t688, .int .i64 t689] 23 (0, 0)) (bk_ BK690) hb); replace BK701 := ak_ (blk_below (g := gb701) (o := .cells #[.string t699, .int .i64 t700] 23 (0, 0)) (bk_ BK701) hb); replace BK706 := ak_ (blk_below (g := gb706) (o := .cells #[.string t703, .int .i64 t704] 23 (0, 0)) (bk_ BK706) hb); replace HB := ak_ (below_step (by repeat (first | (with_reducible first | exact HB.out | apply below_alloc | apply pw_below_drewN | apply below_drew1 | refine below_set ?_ GE650.out | refine below_set ?_ GE690.out | refine below_set ?_ GE701.out | refine below_set ?_ GE706.out) | exact HB.out)) hb); skip; clear hb) | ((with_reducible refine gate_dst (N := 38) rfl ?_); refine box_event ?hg (N := 38) ?hd (cs := #[.string (⟨#[]⟩ : ByteArray), .int .i64 0]) (t := 23) ?hr ?_; (case hd => rfl); (case hg => rfl); (case hr => first | (go_simp; done) | (go_simp; rfl)); intro gb711 hg w67 hbox hb; replace HO647 := ak_ (Kd.R_below (Kd.R_elderB (kr_ HO647) gb711 (Nat.le_of_eq hg.symm)) hb); replace HO653 := ak_ (Kd.R_below (Kd.R_elderB (kr_ HO653) gb711 (Nat.le_of_eq hg.symm)) hb); replace HO658 := ak_ (Kd.R_below (Kd.R_elderB (kr_ HO658) gb711 (Nat.le_of_eq hg.symm)) hb); replace HO668 := ak_ (Kd.R_below (Kd.R_elderB (kr_ HO668) gb711 (Nat.le_of_eq hg.symm)) hb); replace HO676 := ak_ (Kd.R_below (Kd.R_elderB (kr_ HO676) gb711 (Nat.le_of_eq hg.symm)) hb); replace HO680 := ak_ (Kd.R_below (Kd.R_elderB (kr_ HO680) gb711 (Nat.le_of_eq hg.symm)) hb); replace HO684 := ak_ (Kd.R_below (Kd.R_elderB (kr_ HO684) gb711 (Nat.le_of_eq hg.symm)) hb); replace HO687 := ak_ (Kd.R_below (Kd.R_elderB (kr_ HO687) gb711 (Nat.le_of_eq hg.symm)) hb); replace HO693 := ak_ (Kd.R_below (Kd.R_elderB (kr_ HO693) gb711 (Nat.le_of_eq hg.symm)) hb); replace HO697 := ak_ (Kd.R_below (Kd.R_elderB (kr_ HO697) gb711 (Nat.le_of_eq hg.symm)) hb); have BK711 := ak_ (hbox); have GW711 := ak_ ((by rw [hg]; exact (below_size (by repeat (first | (with_reducible first | exact HB.out | apply below_alloc | apply pw_below_drewN | apply below_drew1 | refine below_set ?_ GE650.out | refine below_set ?_ GE690.out | refine below_set ?_ GE701.out | refine below_set ?_ GE706.out) | exact HB.out))) : w.heap.size ≤ gb711)); have GE711 := ak_ ((by rw [hg]; exact (below_size (by repeat (first | (with_reducible first | exact HB.out | apply below_alloc | apply pw_below_drewN | apply below_drew1 | refine below_set ?_ GE650.out | refine below_set ?_ GE690.out | refine below_set ?_ GE701.out | refine below_set ?_ GE706.out) | exact HB.out))) : w.heap.size ≤ gb711)); replace HB := ak_ (below_step (by repeat (first | (with_reducible first | exact HB.out | apply below_alloc | apply pw_below_drewN | apply below_drew1 | refine below_set ?_ GE650.out | refine below_set ?_ GE690.out | refine below_set ?_ GE701.out | refine below_set ?_ GE706.out) | exact HB.out)) hb); have NB650_711 := ak_ ((by rw [hg]; exact Nat.ne_of_lt (blk_lt (g := gb650) (o := .cells #[.string t648, .int .i64 t649] 32 (0, 0)) (bk_ BK650)) : gb650 ≠ gb711)); have NB711_650 := ak_ ((by rw [hg]; exact Nat.ne_of_gt (blk_lt (g := gb650) (o := .cells #[.string t648, .int .i64 t649] 32 (0, 0)) (bk_ BK650)) : gb711 ≠ gb650)); replace BK650 := ak_ (blk_below (g := gb650) (o := .cells #[.string t648, .int .i64 t649] 32 (0, 0)) (bk_ BK650) hb); have NB690_711 := ak_ ((by rw [hg]; exact Nat.ne_of_lt (blk_lt (g := gb690) (o := .cells #[.string t688, .int .i64 t689] 23 (0, 0)) (bk_ BK690)) : gb690 ≠ gb711)); have NB711_690 := ak_ ((by rw [hg]; exact Nat.ne_of_gt (blk_lt (g := gb690) (o := .cells #[.string t688, .int .i64 t689] 23 (0, 0)) (bk_ BK690)) : gb711 ≠ gb690)); replace BK690 := ak_ (blk_below (g := gb690) (o := .cells #[.string t688, .int .i64 t689] 23 (0, 0)) (bk_ BK690) hb); have NB701_711 := ak_ ((by rw [hg]; exact Nat.ne_of_lt (blk_lt (g := gb701) (o := .cells #[.string t699, .int .i64 t700] 23 (0, 0)) (bk_ BK701)) : gb701 ≠ gb711)); have NB711_701 := ak_ ((by rw [hg]; exact Nat.ne_of_gt (blk_lt (g := gb701) (o := .cells #[.string t699, .int .i64 t700] 23 (0, 0)) (bk_ BK701)) : gb711 ≠ gb701)); replace BK701 := ak_ (blk_below (g := gb701) (o := .cells #[.string t699, .int .i64 t700] 23 (0, 0)) (bk_ BK701) hb); have NB706_711 := ak_ ((by rw [hg]; exact Nat.ne_of_lt (blk_lt (g := gb706) (o := .cells #[.string t703, .int .i64 t704] 23 (0, 0)) (bk_ BK706)) : gb706 ≠ gb711)); have NB711_706 := ak_ ((by rw [hg]; exact Nat.ne_of_gt (blk_lt (g := gb706) (o := .cells #[.string t703, .int .i64 t704] 23 (0, 0)) (bk_ BK706)) : gb711 ≠ gb706)); replace BK706 := ak_ (blk_below (g := gb706) (o := .cells #[.string t703, .int .i64 t704] 23 (0, 0)) (bk_ BK706) hb); skip; clear hb hbox hg; have hnb68 := NB711_650.out; have hnc68 := NB650_711.out; have hnb69 := NB711_690.out; have hnc69 := NB690_711.out; have hnb70 := NB711_701.out; have hnc70 := NB701_711.out; have hnb71 := NB711_706.out; have hnc71 := NB706_711.out; have hcz72_0 : w67.cell? ⟨gb711, 0, none⟩ = some (.string (⟨#[]⟩ : ByteArray)) := (blk_cell BK711.out 0).trans rfl; have hcz72_1 : w67.cell? ⟨gb711, 1, none⟩ = some (.int .i64 0) := (blk_cell BK711.out 1).trans rfl; have hfz72_0 := blk_frozen BK711.out 0; have hfz72_1 := blk_frozen BK711.out 1) | (go_at_call 8; (with_reducible refine (spec_ReadCoil.calls k t707 t712 t713 t714 _ A23.out).mono ?_); rintro e w73 ⟨rfl, hb⟩; replace HO647 := ak_ (Kd.R_below (by (with_reducible repeat (first | apply Kd.R_alloc | apply Kd.R_drewN | apply Kd.R_drew)); exact (Kd.R_mono (Kd.R_far (p := ⟨gb711, 1, none⟩) (Kd.R_far (p := ⟨gb711, 0, none⟩) (Kd.R_mono HO647.out (fun k_ hk => (⟨hk, hk.2⟩ : _ ∧ k_ ≠ gb711))) (fun _ hk => hk.2) (.string t708)) (fun _ hk => hk.2) (.int .i64 t709)) (fun _ h_ => h_.1))) hb); replace HO653 := ak_ (Kd.R_below (by (with_reducible repeat (first | apply Kd.R_alloc | apply Kd.R_drewN | apply Kd.R_drew)); exact (Kd.R_mono (Kd.R_far (p := ⟨gb711, 1, none⟩) (Kd.R_far (p := ⟨gb711, 0, none⟩) (Kd.R_mono HO653.out (fun k_ hk => (⟨hk, hk.2⟩ : _ ∧ k_ ≠ gb711))) (fun _ hk => hk.2) (.string t708)) (fun _ hk => hk.2) (.int .i64 t709)) (fun _ h_ => h_.1))) hb); replace HO658 := ak_ (Kd.R_below (by (with_reducible repeat (first | apply Kd.R_alloc | apply Kd.R_drewN | apply Kd.R_drew)); exact (Kd.R_mono (Kd.R_far (p := ⟨gb711, 1, none⟩) (Kd.R_far (p := ⟨gb711, 0, none⟩) (Kd.R_mono HO658.out (fun k_ hk => (⟨hk, hk.2⟩ : _ ∧ k_ ≠ gb711))) (fun _ hk => hk.2) (.string t708)) (fun _ hk => hk.2) (.int .i64 t709)) (fun _ h_ => h_.1))) hb); replace HO668 := ak_ (Kd.R_below (by (with_reducible repeat (first | apply Kd.R_alloc | apply Kd.R_drewN | apply Kd.R_drew)); exact (Kd.R_mono (Kd.R_far (p := ⟨gb711, 1, none⟩) (Kd.R_far (p := ⟨gb711, 0, none⟩) (Kd.R_mono HO668.out (fun k_ hk => (⟨hk, hk.2⟩ : _ ∧ k_ ≠ gb711))) (fun _ hk => hk.2) (.string t708)) (fun _ hk => hk.2) (.int .i64 t709)) (fun _ h_ => h_.1))) hb); replace HO676 := ak_ (Kd.R_below (by (with_reducible repeat (first | apply Kd.R_alloc | apply Kd.R_drewN | apply Kd.R_drew)); exact (Kd.R_mono (Kd.R_far (p := ⟨gb711, 1, none⟩) (Kd.R_far (p := ⟨gb711, 0, none⟩) (Kd.R_mono HO676.out (fun k_ hk => (⟨hk, hk.2⟩ : _ ∧ k_ ≠ gb711))) (fun _ hk => hk.2) (.string t708)) (fun _ hk => hk.2) (.int .i64 t709)) (fun _ h_ => h_.1))) hb); replace HO680 := ak_ (Kd.R_below (by (with_reducible repeat (first | apply Kd.R_alloc | apply Kd.R_drewN | apply Kd.R_drew)); exact (Kd.R_mono (Kd.R_far (p := ⟨gb711, 1, none⟩) (Kd.R_far (p := ⟨gb711, 0, none⟩) (Kd.R_mono HO680.out (fun k_ hk => (⟨hk, hk.2⟩ : _ ∧ k_ ≠ gb711))) (fun _ hk => hk.2) (.string t708)) (fun _ hk => hk.2) (.int .i64 t709)) (fun _ h_ => h_.1))) hb); replace HO684 := ak_ (Kd.R_below (by (with_reducible repeat (first | apply Kd.R_alloc | apply Kd.R_drewN | apply Kd.R_drew)); exact (Kd.R_mono (Kd.R_far (p := ⟨gb711, 1, none⟩) (Kd.R_far (p := ⟨gb711, 0, none⟩) (Kd.R_mono HO684.out (fun k_ hk => (⟨hk, hk.2⟩ : _ ∧ k_ ≠ gb711))) (fun _ hk => hk.2) (.string t708)) (fun _ hk => hk.2) (.int .i64 t709)) (fun _ h_ => h_.1))) hb); replace HO687 := ak_ (Kd.R_below (by (with_reducible repeat (first | apply Kd.R_alloc | apply Kd.R_drewN | apply Kd.R_drew)); exact (Kd.R_mono (Kd.R_far (p := ⟨gb711, 1, none⟩) (Kd.R_far (p := ⟨gb711, 0, none⟩) (Kd.R_mono HO687.out (fun k_ hk => (⟨hk, hk.2⟩ : _ ∧ k_ ≠ gb711))) (fun _ hk => hk.2) (.string t708)) (fun _ hk => hk.2) (.int .i64 t709)) (fun _ h_ => h_.1))) hb); replace HO693 := ak_ (Kd.R_below (by (with_reducible repeat (first | apply Kd.R_alloc | apply Kd.R_drewN | apply Kd.R_drew)); exact (Kd.R_mono (Kd.R_far (p := ⟨gb711, 1, none⟩) (Kd.R_far (p := ⟨gb711, 0, none⟩) (Kd.R_mono HO693.out (fun k_ hk => (⟨hk, hk.2⟩ : _ ∧ k_ ≠ gb711))) (fun _ hk => hk.2) (.string t708)) (fun _ hk => hk.2) (.int .i64 t709)) (fun _ h_ => h_.1))) hb); replace HO697 := ak_ (Kd.R_below (by (with_reducible repeat (first | apply Kd.R_alloc | apply Kd.R_drewN | apply Kd.R_drew)); exact (Kd.R_mono (Kd.R_far (p := ⟨gb711, 1, none⟩) (Kd.R_far (p := ⟨gb711, 0, none⟩) (Kd.R_mono HO697.out (fun k_ hk => (⟨hk, hk.2⟩ : _ ∧ k_ ≠ gb711))) (fun _ hk => hk.2) (.string t708)) (fun _ hk => hk.2) (.int .i64 t709)) (fun _ h_ => h_.1))) hb); replace BK650 := ak_ (blk_below (g := gb650) (o := .cells #[.string t648, .int .i64 t649] 32 (0, 0)) (by (with_reducible repeat (first | refine blk_drewN ?_ _ | refine blk_drew ?_ | refine blk_alloc ?_ _)); refine blk_far ?_ NB650_711.out _; (with_reducible repeat (first | refine blk_drewN ?_ _ | refine blk_drew ?_ | refine blk_alloc ?_ _)); refine blk_far ?_ NB650_711.out _; (with_reducible repeat (first | refine blk_drewN ?_ _ | refine blk_drew ?_ | refine blk_alloc ?_ _)); exact BK650.out) hb); replace BK690 := ak_ (blk_below (g := gb690) (o := .cells #[.string t688, .int .i64 t689] 23 (0, 0)) (by (with_reducible repeat (first | refine blk_drewN ?_ _ | refine blk_drew ?_ | refine blk_alloc ?_ _)); refine blk_far ?_ NB690_711.out _; (with_reducible repeat (first | refine blk_drewN ?_ _ | refine blk_drew ?_ | refine blk_alloc ?_ _)); refine blk_far ?_ NB690_711.out _; (with_reducible repeat (first | refine blk_drewN ?_ _ | refine blk_drew ?_ | refine blk_alloc ?_ _)); exact BK690.out) hb); replace BK701 := ak_ (blk_below (g := gb701) (o := .cells #[.string t699, .int .i64 t700] 23 (0, 0)) (by (with_reducible repeat (first | refine blk_drewN ?_ _ | refine blk_drew ?_ | refine blk_alloc ?_ _)); refine blk_far ?_ NB701_711.out _; (with_reducible repeat (first | refine blk_drewN ?_ _ | refine blk_drew ?_ | refine blk_alloc ?_ _)); refine blk_far ?_ NB701_711.out _; (with_reducible repeat (first | refine blk_drewN ?_ _ | refine blk_drew ?_ | refine blk_alloc ?_ _)); exact BK701.out) hb); replace BK706 := ak_ (blk_below (g := gb706) (o := .cells #[.string t703, .int .i64 t704] 23 (0, 0)) (by (with_reducible repeat (first | refine blk_drewN ?_ _ | refine blk_drew ?_ | refine blk_alloc ?_ _)); refine blk_far ?_ NB706_711.out _; (with_reducible repeat (first | refine blk_drewN ?_ _ | refine blk_drew ?_ | refine blk_alloc ?_ _)); refine blk_far ?_ NB706_711.out _; (with_reducible repeat (first | refine blk_drewN ?_ _ | refine blk_drew ?_ | refine blk_alloc ?_ _)); exact BK706.out) hb); replace BK711 := ak_ (blk_below (g := gb711) (o := .cells #[.string t708, .int .i64 t709] 23 (0, 0)) (by (with_reducible repeat (first | refine blk_drewN ?_ _ | refine blk_drew ?_ | refine blk_alloc ?_ _)); refine blk_put (cs := #[.string t708, .int .i64 0]) ?_ 1 _ rfl; (with_reducible repeat (first | refine blk_drewN ?_ _ | refine blk_drew ?_ | refine blk_alloc ?_ _)); refine blk_put (cs := #[.string (⟨#[]⟩ : ByteArray), .int .i64 0]) ?_ 0 _ rfl; (with_reducible repeat (first | refine blk_drewN ?_ _ | refine blk_drew ?_ | refine blk_alloc ?_ _)); exact BK711.out) hb); replace HB := ak_ (below_step (by repeat (first | (with_reducible first | exact HB.out | apply below_alloc | apply pw_below_drewN | apply below_drew1 | refine below_set ?_ GE650.out | refine below_set ?_ GE690.out | refine below_set ?_ GE701.out | refine below_set ?_ GE706.out | refine below_set ?_ GE711.out) | exact HB.out)) hb); skip; clear hb) | ((with_reducible refine gate_dst (N := 40) rfl ?_); refine box_event ?hg (N := 40) ?hd (cs := #[.string (⟨#[]⟩ : ByteArray), .int .i64 0]) (t := 23) ?hr ?_; (case hd => rfl); (case hg => rfl); (case hr => first | (go_simp; done) | (go_simp; rfl)); intro gb715 hg w74 hbox hb; replace HO647 := ak_ (Kd.R_below (Kd.R_elderB (kr_ HO647) gb715 (Nat.le_of_eq hg.symm)) hb); replace HO653 := ak_ (Kd.R_below (Kd.R_elderB (kr_ HO653) gb715 (Nat.le_of_eq hg.symm)) hb); replace HO658 := ak_ (Kd.R_below (Kd.R_elderB (kr_ HO658) gb715 (Nat.le_of_eq hg.symm)) hb); replace HO668 := ak_ (Kd.R_below (Kd.R_elderB (kr_ HO668) gb715 (Nat.le_of_eq hg.symm)) hb); replace HO676 := ak_ (Kd.R_below (Kd.R_elderB (kr_ HO676) gb715 (Nat.le_of_eq hg.symm)) hb); replace HO680 := ak_ (Kd.R_below (Kd.R_elderB (kr_ HO680) gb715 (Nat.le_of_eq hg.symm)) hb); replace HO684 := ak_ (Kd.R_below (Kd.R_elderB (kr_ HO684) gb715 (Nat.le_of_eq hg.symm)) hb); replace HO687 := ak_ (Kd.R_below (Kd.R_elderB (kr_ HO687) gb715 (Nat.le_of_eq hg.symm)) hb); replace HO693 := ak_ (Kd.R_below (Kd.R_elderB (kr_ HO693) gb715 (Nat.le_of_eq hg.symm)) hb); replace HO697 := ak_ (Kd.R_below (Kd.R_elderB (kr_ HO697) gb715 (Nat.le_of_eq hg.symm)) hb); have BK715 := ak_ (hbox); have GW715 := ak_ ((by rw [hg]; exact (below_size (by repeat (first | (with_reducible first | exact HB.out | apply below_alloc | apply pw_below_drewN | apply below_drew1 | refine below_set ?_ GE650.out | refine below_set ?_ GE690.out | refine below_set ?_ GE701.out | refine below_set ?_ GE706.out | refine below_set ?_ GE711.out) | exact HB.out))) : w.heap.size ≤ gb715)); have GE715 := ak_ ((by rw [hg]; exact (below_size (by repeat (first | (with_reducible first | exact HB.out | apply below_alloc | apply pw_below_drewN | apply below_drew1 | refine below_set ?_ GE650.out | refine below_set ?_ GE690.out | refine below_set ?_ GE701.out | refine below_set ?_ GE706.out | refine below_set ?_ GE711.out) | exact HB.out))) : w.heap.size ≤ gb715)); replace HB := ak_ (below_step (by repeat (first | (with_reducible first | exact HB.out | apply below_alloc | apply pw_below_drewN | apply below_drew1 | refine below_set ?_ GE650.out | refine below_set ?_ GE690.out | refine below_set ?_ GE701.out | refine below_set ?_ GE706.out | refine below_set ?_ GE711.out) | exact HB.out)) hb); have NB650_715 := ak_ ((by rw [hg]; exact Nat.ne_of_lt (blk_lt (g := gb650) (o := .cells #[.string t648, .int .i64 t649] 32 (0, 0)) (bk_ BK650)) : gb650 ≠ gb715)); have NB715_650 := ak_ ((by rw [hg]; exact Nat.ne_of_gt (blk_lt (g := gb650) (o := .cells #[.string t648, .int .i64 t649] 32 (0, 0)) (bk_ BK650)) : gb715 ≠ gb650)); replace BK650 := ak_ (blk_below (g := gb650) (o := .cells #[.string t648, .int .i64 t649] 32 (0, 0)) (bk_ BK650) hb); have NB690_715 := ak_ ((by rw [hg]; exact Nat.ne_of_lt (blk_lt (g := gb690) (o := .cells #[.string t688, .int .i64 t689] 23 (0, 0)) (bk_ BK690)) : gb690 ≠ gb715)); have NB715_690 := ak_ ((by rw [hg]; exact Nat.ne_of_gt (blk_lt (g := gb690) (o := .cells #[.string t688, .int .i64 t689] 23 (0, 0)) (bk_ BK690)) : gb715 ≠ gb690)); replace BK690 := ak_ (blk_below (g := gb690) (o := .cells #[.string t688, .int .i64 t689] 23 (0, 0)) (bk_ BK690) hb); have NB701_715 := ak_ ((by rw [hg]; exact Nat.ne_of_lt (blk_lt (g := gb701) (o := .cells #[.string t699, .int .i64 t700] 23 (0, 0)) (bk_ BK701)) : gb701 ≠ gb715)); have NB715_701 := ak_ ((by rw [hg]; exact Nat.ne_of_gt (blk_lt (g := gb701) (o := .cells #[.string t699, .int .i64 t700] 23 (0, 0)) (bk_ BK701)) : gb715 ≠ gb701)); replace BK701 := ak_ (blk_below (g := gb701) (o := .cells #[.string t699, .int .i64 t700] 23 (0, 0)) (bk_ BK701) hb); have NB706_715 := ak_ ((by rw [hg]; exact Nat.ne_of_lt (blk_lt (g := gb706) (o := .cells #[.string t703, .int .i64 t704] 23 (0, 0)) (bk_ BK706)) : gb706 ≠ gb715)); have NB715_706 := ak_ ((by rw [hg]; exact Nat.ne_of_gt (blk_lt (g := gb706) (o := .cells #[.string t703, .int .i64 t704] 23 (0, 0)) (bk_ BK706)) : gb715 ≠ gb706)); replace BK706 := ak_ (blk_below (g := gb706) (o := .cells #[.string t703, .int .i64 t704] 23 (0, 0)) (bk_ BK706) hb); have NB711_715 := ak_ ((by rw [hg]; exact Nat.ne_of_lt (blk_lt (g := gb711) (o := .cells #[.string t708, .int .i64 t709] 23 (0, 0)) (bk_ BK711)) : gb711 ≠ gb715)); have NB715_711 := ak_ ((by rw [hg]; exact Nat.ne_of_gt (blk_lt (g := gb711) (o := .cells #[.string t708, .int .i64 t709] 23 (0, 0)) (bk_ BK711)) : gb715 ≠ gb711)); replace BK711 := ak_ (blk_below (g := gb711) (o := .cells #[.string t708, .int .i64 t709] 23 (0, 0)) (bk_ BK711) hb); skip; clear hb hbox hg; have hnb75 := NB715_650.out; have hnc75 := NB650_715.out; have hnb76 := NB715_690.out; have hnc76 := NB690_715.out; have hnb77 := NB715_701.out; have hnc77 := NB701_715.out; have hnb78 := NB715_706.out; have hnc78 := NB706_715.out; have hnb79 := NB715_711.out; have hnc79 := NB711_715.out; have hcz80_0 : w74.cell? ⟨gb715, 0, none⟩ = some (.string (⟨#[]⟩ : ByteArray)) := (blk_cell BK715.out 0).trans rfl; have hcz80_1 : w74.cell? ⟨gb715, 1, none⟩ = some (.int .i64 0) := (blk_cell BK715.out 1).trans rfl; have hfz80_0 := blk_frozen BK715.out 0; have hfz80_1 := blk_frozen BK715.out 1) | (go_at_call 29; (with_reducible refine (spec_DrawSameCoils.calls k _ _ l0 t716 t717 _ ?side1 HC0.out A24.out).mono ?_); (case side1 => exact Kd.C_below HR0.out (by repeat (first | (with_reducible first | exact HB.out | apply below_alloc | apply pw_below_drewN | apply below_drew1 | refine below_set ?_ GE650.out | refine below_set ?_ GE690.out | refine below_set ?_ GE701.out | refine below_set ?_ GE706.out | refine below_set ?_ GE711.out | refine below_set ?_ GE715.out) | exact HB.out))); rintro e w81 ⟨v718, v720, rfl, ho0, ho1, hb⟩; have HO719 := ak_ (Kd.R_lower (Kd.R_newB (Kd.R_newB (Kd.R_newB (Kd.R_newB (Kd.R_newB (Kd.R_new' (Kd.R_new' (Kd.R_new' (Kd.R_new' (Kd.R_new' (Kd.R_new' (Kd.R_new' (Kd.R_new' (Kd.R_new' (Kd.R_new' ho0 (Kd.R_lt (by (with_reducible repeat (first | apply Kd.R_alloc | apply Kd.R_drewN | apply Kd.R_drew)); exact (Kd.R_mono (Kd.R_far (p := ⟨gb715, 1, none⟩) (Kd.R_far (p := ⟨gb715, 0, none⟩) (Kd.R_mono HO647.out (fun k_ hk => (⟨hk, hk.2⟩ : _ ∧ k_ ≠ gb715))) (fun _ hk => hk.2) (.string t712)) (fun _ hk => hk.2) (.int .i64 t713)) (fun _ h_ => h_.1))))) (Kd.R_lt (by (with_reducible repeat (first | apply Kd.R_alloc | apply Kd.R_drewN | apply Kd.R_drew)); exact (Kd.R_mono (Kd.R_far (p := ⟨gb715, 1, none⟩) (Kd.R_far (p := ⟨gb715, 0, none⟩) (Kd.R_mono HO653.out (fun k_ hk => (⟨hk, hk.2⟩ : _ ∧ k_ ≠ gb715))) (fun _ hk => hk.2) (.string t712)) (fun _ hk => hk.2) (.int .i64 t713)) (fun _ h_ => h_.1))))) (Kd.R_lt (by (with_reducible repeat (first | apply Kd.R_alloc | apply Kd.R_drewN | apply Kd.R_drew)); exact (Kd.R_mono (Kd.R_far (p := ⟨gb715, 1, none⟩) (Kd.R_far (p := ⟨gb715, 0, none⟩) (Kd.R_mono HO658.out (fun k_ hk => (⟨hk, hk.2⟩ : _ ∧ k_ ≠ gb715))) (fun _ hk => hk.2) (.string t712)) (fun _ hk => hk.2) (.int .i64 t713)) (fun _ h_ => h_.1))))) (Kd.R_lt (by (with_reducible repeat (first | apply Kd.R_alloc | apply Kd.R_drewN | apply Kd.R_drew)); exact (Kd.R_mono (Kd.R_far (p := ⟨gb715, 1, none⟩) (Kd.R_far (p := ⟨gb715, 0, none⟩) (Kd.R_mono HO668.out (fun k_ hk => (⟨hk, hk.2⟩ : _ ∧ k_ ≠ gb715))) (fun _ hk => hk.2) (.string t712)) (fun _ hk => hk.2) (.int .i64 t713)) (fun _ h_ => h_.1))))) (Kd.R_lt (by (with_reducible repeat (first | apply Kd.R_alloc | apply Kd.R_drewN | apply Kd.R_drew)); exact (Kd.R_mono (Kd.R_far (p := ⟨gb715, 1, none⟩) (Kd.R_far (p := ⟨gb715, 0, none⟩) (Kd.R_mono HO676.out (fun k_ hk => (⟨hk, hk.2⟩ : _ ∧ k_ ≠ gb715))) (fun _ hk => hk.2) (.string t712)) (fun _ hk => hk.2) (.int .i64 t713)) (fun _ h_ => h_.1))))) (Kd.R_lt (by (with_reducible repeat (first | apply Kd.R_alloc | apply Kd.R_drewN | apply Kd.R_drew)); exact (Kd.R_mono (Kd.R_far (p := ⟨gb715, 1, none⟩) (Kd.R_far (p := ⟨gb715, 0, none⟩) (Kd.R_mono HO680.out (fun k_ hk => (⟨hk, hk.2⟩ : _ ∧ k_ ≠ gb715))) (fun _ hk => hk.2) (.string t712)) (fun _ hk => hk.2) (.int .i64 t713)) (fun _ h_ => h_.1))))) (Kd.R_lt (by (with_reducible repeat (first | apply Kd.R_alloc | apply Kd.R_drewN | apply Kd.R_drew)); exact (Kd.R_mono (Kd.R_far (p := ⟨gb715, 1, none⟩) (Kd.R_far (p := ⟨gb715, 0, none⟩) (Kd.R_mono HO684.out (fun k_ hk => (⟨hk, hk.2⟩ : _ ∧ k_ ≠ gb715))) (fun _ hk => hk.2) (.string t712)) (fun _ hk => hk.2) (.int .i64 t713)) (fun _ h_ => h_.1))))) (Kd.R_lt (by (with_reducible repeat (first | apply Kd.R_alloc | apply Kd.R_drewN | apply Kd.R_drew)); exact (Kd.R_mono (Kd.R_far (p := ⟨gb715, 1, none⟩) (Kd.R_far (p := ⟨gb715, 0, none⟩) (Kd.R_mono HO687.out (fun k_ hk => (⟨hk, hk.2⟩ : _ ∧ k_ ≠ gb715))) (fun _ hk => hk.2) (.string t712)) (fun _ hk => hk.2) (.int .i64 t713)) (fun _ h_ => h_.1))))) (Kd.R_lt (by (with_reducible repeat (first | apply Kd.R_alloc | apply Kd.R_drewN | apply Kd.R_drew)); exact (Kd.R_mono (Kd.R_far (p := ⟨gb715, 1, none⟩) (Kd.R_far (p := ⟨gb715, 0, none⟩) (Kd.R_mono HO693.out (fun k_ hk => (⟨hk, hk.2⟩ : _ ∧ k_ ≠ gb715))) (fun _ hk => hk.2) (.string t712)) (fun _ hk => hk.2) (.int .i64 t713)) (fun _ h_ => h_.1))))) (Kd.R_lt (by (with_reducible repeat (first | apply Kd.R_alloc | apply Kd.R_drewN | apply Kd.R_drew)); exact (Kd.R_mono (Kd.R_far (p := ⟨gb715, 1, none⟩) (Kd.R_far (p := ⟨gb715, 0, none⟩) (Kd.R_mono HO697.out (fun k_ hk => (⟨hk, hk.2⟩ : _ ∧ k_ ≠ gb715))) (fun _ hk => hk.2) (.string t712)) (fun _ hk => hk.2) (.int .i64 t713)) (fun _ h_ => h_.1))))) (g := gb690) (o := .cells #[.string t688, .int .i64 t689] 23 (0, 0)) (by (with_reducible repeat (first | refine blk_drewN ?_ _ | refine blk_drew ?_ | refine blk_alloc ?_ _)); refine blk_far ?_ NB690_715.out _; (with_reducible repeat (first | refine blk_drewN ?_ _ | refine blk_drew ?_ | refine blk_alloc ?_ _)); refine blk_far ?_ NB690_715.out _; (with_reducible repeat (first | refine blk_drewN ?_ _ | refine blk_drew ?_ | refine blk_alloc ?_ _)); exact BK690.out)) (g := gb701) (o := .cells #[.string t699, .int .i64 t700] 23 (0, 0)) (by (with_reducible repeat (first | refine blk_drewN ?_ _ | refine blk_drew ?_ | refine blk_alloc ?_ _)); refine blk_far ?_ NB701_715.out _; (with_reducible repeat (first | refine blk_drewN ?_ _ | refine blk_drew ?_ | refine blk_alloc ?_ _)); refine blk_far ?_ NB701_715.out _; (with_reducible repeat (first | refine blk_drewN ?_ _ | refine blk_drew ?_ | refine blk_alloc ?_ _)); exact BK701.out)) (g := gb706) (o := .cells #[.string t703, .int .i64 t704] 23 (0, 0)) (by (with_reducible repeat (first | refine blk_drewN ?_ _ | refine blk_drew ?_ | refine blk_alloc ?_ _)); refine blk_far ?_ NB706_715.out _; (with_reducible repeat (first | refine blk_drewN ?_ _ | refine blk_drew ?_ | refine blk_alloc ?_ _)); refine blk_far ?_ NB706_715.out _; (with_reducible repeat (first | refine blk_drewN ?_ _ | refine blk_drew ?_ | refine blk_alloc ?_ _)); exact BK706.out)) (g := gb711) (o := .cells #[.string t708, .int .i64 t709] 23 (0, 0)) (by (with_reducible repeat (first | refine blk_drewN ?_ _ | refine blk_drew ?_ | refine blk_alloc ?_ _)); refine blk_far ?_ NB711_715.out _; (with_reducible repeat (first | refine blk_drewN ?_ _ | refine blk_drew ?_ | refine blk_alloc ?_ _)); refine blk_far ?_ NB711_715.out _; (with_reducible repeat (first | refine blk_drewN ?_ _ | refine blk_drew ?_ | refine blk_alloc ?_ _)); exact BK711.out)) (g := gb715) (o := .cells #[.string t712, .int .i64 t713] 23 (0, 0)) (by (with_reducible repeat (first | refine blk_drewN ?_ _ | refine blk_drew ?_ | refine blk_alloc ?_ _)); refine blk_put (cs := #[.string t712, .int .i64 0]) ?_ 1 _ rfl; (with_reducible repeat (first | refine blk_drewN ?_ _ | refine blk_drew ?_ | refine blk_alloc ?_ _)); refine blk_put (cs := #[.string (⟨#[]⟩ : ByteArray), .int .i64 0]) ?_ 0 _ rfl; (with_reducible repeat (first | refine blk_drewN ?_ _ | refine blk_drew ?_ | refine blk_alloc ?_ _)); exact BK715.out)) (below_size (by repeat (first | (with_reducible first | exact HB.out | apply below_alloc | apply pw_below_drewN | apply below_drew1 | refine below_set ?_ GE650.out | refine below_set ?_ GE690.out | refine below_set ?_ GE701.out | refine below_set ?_ GE706.out | refine below_set ?_ GE711.out | refine below_set ?_ GE715.out) | exact HB.out)))); have HO721 := ak_ (Kd.R_lower (Kd.R_newB (Kd.R_newB (Kd.R_newB (Kd.R_newB (Kd.R_newB (Kd.R_new' (Kd.R_new' (Kd.R_new' (Kd.R_new' (Kd.R_new' (Kd.R_new' (Kd.R_new' (Kd.R_new' (Kd.R_new' (Kd.R_new' ho1 (Kd.R_lt (by (with_reducible repeat (first | apply Kd.R_alloc | apply Kd.R_drewN | apply Kd.R_drew)); exact (Kd.R_mono (Kd.R_far (p := ⟨gb715, 1, none⟩) (Kd.R_far (p := ⟨gb715, 0, none⟩) (Kd.R_mono HO647.out (fun k_ hk => (⟨hk, hk.2⟩ : _ ∧ k_ ≠ gb715))) (fun _ hk => hk.2) (.string t712)) (fun _ hk => hk.2) (.int .i64 t713)) (fun _ h_ => h_.1))))) (Kd.R_lt (by (with_reducible repeat (first | apply Kd.R_alloc | apply Kd.R_drewN | apply Kd.R_drew)); exact (Kd.R_mono (Kd.R_far (p := ⟨gb715, 1, none⟩) (Kd.R_far (p := ⟨gb715, 0, none⟩) (Kd.R_mono HO653.out (fun k_ hk => (⟨hk, hk.2⟩ : _ ∧ k_ ≠ gb715))) (fun _ hk => hk.2) (.string t712)) (fun _ hk => hk.2) (.int .i64 t713)) (fun _ h_ => h_.1))))) (Kd.R_lt (by (with_reducible repeat (first | apply Kd.R_alloc | apply Kd.R_drewN | apply Kd.R_drew)); exact (Kd.R_mono (Kd.R_far (p := ⟨gb715, 1, none⟩) (Kd.R_far (p := ⟨gb715, 0, none⟩) (Kd.R_mono HO658.out (fun k_ hk => (⟨hk, hk.2⟩ : _ ∧ k_ ≠ gb715))) (fun _ hk => hk.2) (.string t712)) (fun _ hk => hk.2) (.int .i64 t713)) (fun _ h_ => h_.1))))) (Kd.R_lt (by (with_reducible repeat (first | apply Kd.R_alloc | apply Kd.R_drewN | apply Kd.R_drew)); exact (Kd.R_mono (Kd.R_far (p := ⟨gb715, 1, none⟩) (Kd.R_far (p := ⟨gb715, 0, none⟩) (Kd.R_mono HO668.out (fun k_ hk => (⟨hk, hk.2⟩ : _ ∧ k_ ≠ gb715))) (fun _ hk => hk.2) (.string t712)) (fun _ hk => hk.2) (.int .i64 t713)) (fun _ h_ => h_.1))))) (Kd.R_lt (by (with_reducible repeat (first | apply Kd.R_alloc | apply Kd.R_drewN | apply Kd.R_drew)); exact (Kd.R_mono (Kd.R_far (p := ⟨gb715, 1, none⟩) (Kd.R_far (p := ⟨gb715, 0, none⟩) (Kd.R_mono HO676.out (fun k_ hk => (⟨hk, hk.2⟩ : _ ∧ k_ ≠ gb715))) (fun _ hk => hk.2) (.string t712)) (fun _ hk => hk.2) (.int .i64 t713)) (fun _ h_ => h_.1))))) (Kd.R_lt (by (with_reducible repeat (first | apply Kd.R_alloc | apply Kd.R_drewN | apply Kd.R_drew)); exact (Kd.R_mono (Kd.R_far (p := ⟨gb715, 1, none⟩) (Kd.R_far (p := ⟨gb715, 0, none⟩) (Kd.R_mono HO680.out (fun k_ hk => (⟨hk, hk.2⟩ : _ ∧ k_ ≠ gb715))) (fun _ hk => hk.2) (.string t712)) (fun _ hk => hk.2) (.int .i64 t713)) (fun _ h_ => h_.1))))) (Kd.R_lt (by (with_reducible repeat (first | apply Kd.R_alloc | apply Kd.R_drewN | apply Kd.R_drew)); exact (Kd.R_mono (Kd.R_far (p := ⟨gb715, 1, none⟩) (Kd.R_far (p := ⟨gb715, 0, none⟩) (Kd.R_mono HO684.out (fun k_ hk => (⟨hk, hk.2⟩ : _ ∧ k_ ≠ gb715))) (fun _ hk => hk.2) (.string t712)) (fun _ hk => hk.2) (.int .i64 t713)) (fun _ h_ => h_.1))))) (Kd.R_lt (by (with_reducible repeat (first | apply Kd.R_alloc | apply Kd.R_drewN | apply Kd.R_drew)); exact (Kd.R_mono (Kd.R_far (p := ⟨gb715, 1, none⟩) (Kd.R_far (p := ⟨gb715, 0, none⟩) (Kd.R_mono HO687.out (fun k_ hk => (⟨hk, hk.2⟩ : _ ∧ k_ ≠ gb715))) (fun _ hk => hk.2) (.string t712)) (fun _ hk => hk.2) (.int .i64 t713)) (fun _ h_ => h_.1))))) (Kd.R_lt (by (with_reducible repeat (first | apply Kd.R_alloc | apply Kd.R_drewN | apply Kd.R_drew)); exact (Kd.R_mono (Kd.R_far (p := ⟨gb715, 1, none⟩) (Kd.R_far (p := ⟨gb715, 0, none⟩) (Kd.R_mono HO693.out (fun k_ hk => (⟨hk, hk.2⟩ : _ ∧ k_ ≠ gb715))) (fun _ hk => hk.2) (.string t712)) (fun _ hk => hk.2) (.int .i64 t713)) (fun _ h_ => h_.1))))) (Kd.R_lt (by (with_reducible repeat (first | apply Kd.R_alloc | apply Kd.R_drewN | apply Kd.R_drew)); exact (Kd.R_mono (Kd.R_far (p := ⟨gb715, 1, none⟩) (Kd.R_far (p := ⟨gb715, 0, none⟩) (Kd.R_mono HO697.out (fun k_ hk => (⟨hk, hk.2⟩ : _ ∧ k_ ≠ gb715))) (fun _ hk => hk.2) (.string t712)) (fun _ hk => hk.2) (.int .i64 t713)) (fun _ h_ => h_.1))))) (g := gb690) (o := .cells #[.string t688, .int .i64 t689] 23 (0, 0)) (by (with_reducible repeat (first | refine blk_drewN ?_ _ | refine blk_drew ?_ | refine blk_alloc ?_ _)); refine blk_far ?_ NB690_715.out _; (with_reducible repeat (first | refine blk_drewN ?_ _ | refine blk_drew ?_ | refine blk_alloc ?_ _)); refine blk_far ?_ NB690_715.out _; (with_reducible repeat (first | refine blk_drewN ?_ _ | refine blk_drew ?_ | refine blk_alloc ?_ _)); exact BK690.out)) (g := gb701) (o := .cells #[.string t699, .int .i64 t700] 23 (0, 0)) (by (with_reducible repeat (first | refine blk_drewN ?_ _ | refine blk_drew ?_ | refine blk_alloc ?_ _)); refine blk_far ?_ NB701_715.out _; (with_reducible repeat (first | refine blk_drewN ?_ _ | refine blk_drew ?_ | refine blk_alloc ?_ _)); refine blk_far ?_ NB701_715.out _; (with_reducible repeat (first | refine blk_drewN ?_ _ | refine blk_drew ?_ | refine blk_alloc ?_ _)); exact BK701.out)) (g := gb706) (o := .cells #[.string t703, .int .i64 t704] 23 (0, 0)) (by (with_reducible repeat (first | refine blk_drewN ?_ _ | refine blk_drew ?_ | refine blk_alloc ?_ _)); refine blk_far ?_ NB706_715.out _; (with_reducible repeat (first | refine blk_drewN ?_ _ | refine blk_drew ?_ | refine blk_alloc ?_ _)); refine blk_far ?_ NB706_715.out _; (with_reducible repeat (first | refine blk_drewN ?_ _ | refine blk_drew ?_ | refine blk_alloc ?_ _)); exact BK706.out)) (g := gb711) (o := .cells #[.string t708, .int .i64 t709] 23 (0, 0)) (by (with_reducible repeat (first | refine blk_drewN ?_ _ | refine blk_drew ?_ | refine blk_alloc ?_ _)); refine blk_far ?_ NB711_715.out _; (with_reducible repeat (first | refine blk_drewN ?_ _ | refine blk_drew ?_ | refine blk_alloc ?_ _)); refine blk_far ?_ NB711_715.out _; (with_reducible repeat (first | refine blk_drewN ?_ _ | refine blk_drew ?_ | refine blk_alloc ?_ _)); exact BK711.out)) (g := gb715) (o := .cells #[.string t712, .int .i64 t713] 23 (0, 0)) (by (with_reducible repeat (first | refine blk_drewN ?_ _ | refine blk_drew ?_ | refine blk_alloc ?_ _)); refine blk_put (cs := #[.string t712, .int .i64 0]) ?_ 1 _ rfl; (with_reducible repeat (first | refine blk_drewN ?_ _ | refine blk_drew ?_ | refine blk_alloc ?_ _)); refine blk_put (cs := #[.string (⟨#[]⟩ : ByteArray), .int .i64 0]) ?_ 0 _ rfl; (with_reducible repeat (first | refine blk_drewN ?_ _ | refine blk_drew ?_ | refine blk_alloc ?_ _)); exact BK715.out)) (below_size (by repeat (first | (with_reducible first | exact HB.out | apply below_alloc | apply pw_below_drewN | apply below_drew1 | refine below_set ?_ GE650.out | refine below_set ?_ GE690.out | refine below_set ?_ GE701.out | refine below_set ?_ GE706.out | refine below_set ?_ GE711.out | refine below_set ?_ GE715.out) | exact HB.out)))); replace HO647 := ak_ (Kd.R_mono (Kd.R_told (Kd.R_told (Kd.R_old (by (with_reducible repeat (first | apply Kd.R_alloc | apply Kd.R_drewN | apply Kd.R_drew)); exact (Kd.R_mono (Kd.R_far (p := ⟨gb715, 1, none⟩) (Kd.R_far (p := ⟨gb715, 0, none⟩) (Kd.R_mono HO647.out (fun k_ hk => (⟨hk, hk.2⟩ : _ ∧ k_ ≠ gb715))) (fun _ hk => hk.2) (.string t712)) (fun _ hk => hk.2) (.int .i64 t713)) (fun _ h_ => h_.1))) hb) (Kd.R_base ho0)) (Kd.R_base ho1)) (fun _ h_ => h_.1)); replace HO653 := ak_ (Kd.R_mono (Kd.R_told (Kd.R_told (Kd.R_old (by (with_reducible repeat (first | apply Kd.R_alloc | apply Kd.R_drewN | apply Kd.R_drew)); exact (Kd.R_mono (Kd.R_far (p := ⟨gb715, 1, none⟩) (Kd.R_far (p := ⟨gb715, 0, none⟩) (Kd.R_mono HO653.out (fun k_ hk => (⟨hk, hk.2⟩ : _ ∧ k_ ≠ gb715))) (fun _ hk => hk.2) (.string t712)) (fun _ hk => hk.2) (.int .i64 t713)) (fun _ h_ => h_.1))) hb) (Kd.R_base ho0)) (Kd.R_base ho1)) (fun _ h_ => h_.1)); replace HO658 := ak_ (Kd.R_mono (Kd.R_told (Kd.R_told (Kd.R_old (by (with_reducible repeat (first | apply Kd.R_alloc | apply Kd.R_drewN | apply Kd.R_drew)); exact (Kd.R_mono (Kd.R_far (p := ⟨gb715, 1, none⟩) (Kd.R_far (p := ⟨gb715, 0, none⟩) (Kd.R_mono HO658.out (fun k_ hk => (⟨hk, hk.2⟩ : _ ∧ k_ ≠ gb715))) (fun _ hk => hk.2) (.string t712)) (fun _ hk => hk.2) (.int .i64 t713)) (fun _ h_ => h_.1))) hb) (Kd.R_base ho0)) (Kd.R_base ho1)) (fun _ h_ => h_.1)); replace HO668 := ak_ (Kd.R_mono (Kd.R_told (Kd.R_told (Kd.R_old (by (with_reducible repeat (first | apply Kd.R_alloc | apply Kd.R_drewN | apply Kd.R_drew)); exact (Kd.R_mono (Kd.R_far (p := ⟨gb715, 1, none⟩) (Kd.R_far (p := ⟨gb715, 0, none⟩) (Kd.R_mono HO668.out (fun k_ hk => (⟨hk, hk.2⟩ : _ ∧ k_ ≠ gb715))) (fun _ hk => hk.2) (.string t712)) (fun _ hk => hk.2) (.int .i64 t713)) (fun _ h_ => h_.1))) hb) (Kd.R_base ho0)) (Kd.R_base ho1)) (fun _ h_ => h_.1)); replace HO676 := ak_ (Kd.R_mono (Kd.R_told (Kd.R_told (Kd.R_old (by (with_reducible repeat (first | apply Kd.R_alloc | apply Kd.R_drewN | apply Kd.R_drew)); exact (Kd.R_mono (Kd.R_far (p := ⟨gb715, 1, none⟩) (Kd.R_far (p := ⟨gb715, 0, none⟩) (Kd.R_mono HO676.out (fun k_ hk => (⟨hk, hk.2⟩ : _ ∧ k_ ≠ gb715))) (fun _ hk => hk.2) (.string t712)) (fun _ hk => hk.2) (.int .i64 t713)) (fun _ h_ => h_.1))) hb) (Kd.R_base ho0)) (Kd.R_base ho1)) (fun _ h_ => h_.1)); replace HO680 := ak_ (Kd.R_mono (Kd.R_told (Kd.R_told (Kd.R_old (by (with_reducible repeat (first | apply Kd.R_alloc | apply Kd.R_drewN | apply Kd.R_drew)); exact (Kd.R_mono (Kd.R_far (p := ⟨gb715, 1, none⟩) (Kd.R_far (p := ⟨gb715, 0, none⟩) (Kd.R_mono HO680.out (fun k_ hk => (⟨hk, hk.2⟩ : _ ∧ k_ ≠ gb715))) (fun _ hk => hk.2) (.string t712)) (fun _ hk => hk.2) (.int .i64 t713)) (fun _ h_ => h_.1))) hb) (Kd.R_base ho0)) (Kd.R_base ho1)) (fun _ h_ => h_.1)); replace HO684 := ak_ (Kd.R_mono (Kd.R_told (Kd.R_told (Kd.R_old (by (with_reducible repeat (first | apply Kd.R_alloc | apply Kd.R_drewN | apply Kd.R_drew)); exact (Kd.R_mono (Kd.R_far (p := ⟨gb715, 1, none⟩) (Kd.R_far (p := ⟨gb715, 0, none⟩) (Kd.R_mono HO684.out (fun k_ hk => (⟨hk, hk.2⟩ : _ ∧ k_ ≠ gb715))) (fun _ hk => hk.2) (.string t712)) (fun _ hk => hk.2) (.int .i64 t713)) (fun _ h_ => h_.1))) hb) (Kd.R_base ho0)) (Kd.R_base ho1)) (fun _ h_ => h_.1)); replace HO687 := ak_ (Kd.R_mono (Kd.R_told (Kd.R_told (Kd.R_old (by (with_reducible repeat (first | apply Kd.R_alloc | apply Kd.R_drewN | apply Kd.R_drew)); exact (Kd.R_mono (Kd.R_far (p := ⟨gb715, 1, none⟩) (Kd.R_far (p := ⟨gb715, 0, none⟩) (Kd.R_mono HO687.out (fun k_ hk => (⟨hk, hk.2⟩ : _ ∧ k_ ≠ gb715))) (fun _ hk => hk.2) (.string t712)) (fun _ hk => hk.2) (.int .i64 t713)) (fun _ h_ => h_.1))) hb) (Kd.R_base ho0)) (Kd.R_base ho1)) (fun _ h_ => h_.1)); replace HO693 := ak_ (Kd.R_mono (Kd.R_told (Kd.R_told (Kd.R_old (by (with_reducible repeat (first | apply Kd.R_alloc | apply Kd.R_drewN | apply Kd.R_drew)); exact (Kd.R_mono (Kd.R_far (p := ⟨gb715, 1, none⟩) (Kd.R_far (p := ⟨gb715, 0, none⟩) (Kd.R_mono HO693.out (fun k_ hk => (⟨hk, hk.2⟩ : _ ∧ k_ ≠ gb715))) (fun _ hk => hk.2) (.string t712)) (fun _ hk => hk.2) (.int .i64 t713)) (fun _ h_ => h_.1))) hb) (Kd.R_base ho0)) (Kd.R_base ho1)) (fun _ h_ => h_.1)); replace HO697 := ak_ (Kd.R_mono (Kd.R_told (Kd.R_told (Kd.R_old (by (with_reducible repeat (first | apply Kd.R_alloc | apply Kd.R_drewN | apply Kd.R_drew)); exact (Kd.R_mono (Kd.R_far (p := ⟨gb715, 1, none⟩) (Kd.R_far (p := ⟨gb715, 0, none⟩) (Kd.R_mono HO697.out (fun k_ hk => (⟨hk, hk.2⟩ : _ ∧ k_ ≠ gb715))) (fun _ hk => hk.2) (.string t712)) (fun _ hk => hk.2) (.int .i64 t713)) (fun _ h_ => h_.1))) hb) (Kd.R_base ho0)) (Kd.R_base ho1)) (fun _ h_ => h_.1)); replace BK650 := ak_ (blk_below (g := gb650) (o := .cells #[.string t648, .int .i64 t649] 32 (0, 0)) (by (with_reducible repeat (first | refine blk_drewN ?_ _ | refine blk_drew ?_ | refine blk_alloc ?_ _)); refine blk_far ?_ NB650_715.out _; (with_reducible repeat (first | refine blk_drewN ?_ _ | refine blk_drew ?_ | refine blk_alloc ?_ _)); refine blk_far ?_ NB650_715.out _; (with_reducible repeat (first | refine blk_drewN ?_ _ | refine blk_drew ?_ | refine blk_alloc ?_ _)); exact BK650.out) hb); replace BK690 := ak_ (blk_below (g := gb690) (o := .cells #[.string t688, .int .i64 t689] 23 (0, 0)) (by (with_reducible repeat (first | refine blk_drewN ?_ _ | refine blk_drew ?_ | refine blk_alloc ?_ _)); refine blk_far ?_ NB690_715.out _; (with_reducible repeat (first | refine blk_drewN ?_ _ | refine blk_drew ?_ | refine blk_alloc ?_ _)); refine blk_far ?_ NB690_715.out _; (with_reducible repeat (first | refine blk_drewN ?_ _ | refine blk_drew ?_ | refine blk_alloc ?_ _)); exact BK690.out) hb); replace BK701 := ak_ (blk_below (g := gb701) (o := .cells #[.string t699, .int .i64 t700] 23 (0, 0)) (by (with_reducible repeat (first | refine blk_drewN ?_ _ | refine blk_drew ?_ | refine blk_alloc ?_ _)); refine blk_far ?_ NB701_715.out _; (with_reducible repeat (first | refine blk_drewN ?_ _ | refine blk_drew ?_ | refine blk_alloc ?_ _)); refine blk_far ?_ NB701_715.out _; (with_reducible repeat (first | refine blk_drewN ?_ _ | refine blk_drew ?_ | refine blk_alloc ?_ _)); exact BK701.out) hb); replace BK706 := ak_ (blk_below (g := gb706) (o := .cells #[.string t703, .int .i64 t704] 23 (0, 0)) (by (with_reducible repeat (first | refine blk_drewN ?_ _ | refine blk_drew ?_ | refine blk_alloc ?_ _)); refine blk_far ?_ NB706_715.out _; (with_reducible repeat (first | refine blk_drewN ?_ _ | refine blk_drew ?_ | refine blk_alloc ?_ _)); refine blk_far ?_ NB706_715.out _; (with_reducible repeat (first | refine blk_drewN ?_ _ | refine blk_drew ?_ | refine blk_alloc ?_ _)); exact BK706.out) hb); replace BK711 := ak_ (blk_below (g := gb711) (o := .cells #[.string t708, .int .i64 t709] 23 (0, 0)) (by (with_reducible repeat (first | refine blk_drewN ?_ _ | refine blk_drew ?_ | refine blk_alloc ?_ _)); refine blk_far ?_ NB711_715.out _; (with_reducible repeat (first | refine blk_drewN ?_ _ | refine blk_drew ?_ | refine blk_alloc ?_ _)); refine blk_far ?_ NB711_715.out _; (with_reducible repeat (first | refine blk_drewN ?_ _ | refine blk_drew ?_ | refine blk_alloc ?_ _)); exact BK711.out) hb); replace BK715 := ak_ (blk_below (g := gb715) (o := .cells #[.string t712, .int .i64 t713] 23 (0, 0)) (by (with_reducible repeat (first | refine blk_drewN ?_ _ | refine blk_drew ?_ | refine blk_alloc ?_ _)); refine blk_put (cs := #[.string t712, .int .i64 0]) ?_ 1 _ rfl; (with_reducible repeat (first | refine blk_drewN ?_ _ | refine blk_drew ?_ | refine blk_alloc ?_ _)); refine blk_put (cs := #[.string (⟨#[]⟩ : ByteArray), .int .i64 0]) ?_ 0 _ rfl; (with_reducible repeat (first | refine blk_drewN ?_ _ | refine blk_drew ?_ | refine blk_alloc ?_ _)); exact BK715.out) hb); replace HB := ak_ (below_step (by repeat (first | (with_reducible first | exact HB.out | apply below_alloc | apply pw_below_drewN | apply below_drew1 | refine below_set ?_ GE650.out | refine below_set ?_ GE690.out | refine below_set ?_ GE701.out | refine below_set ?_ GE706.out | refine below_set ?_ GE711.out | refine below_set ?_ GE715.out) | exact HB.out)) hb); skip; clear hb ho0 ho1))
 (try simp only [Act.put, List.setIfInBounds_toArray, List.set_cons_zero, List.set_cons_succ])
 go_cut [261] (fun v261 wc => ∃ (kq : Nat) (x261_24 : Bool), v261 = .bool x261_24 ∧ Aside0 (laws_FnCoils.j0 kq t645 t651 t655 t659 t662 t663 t674 t681 x261_24 t648 t649 = some r) ∧ Aside0 (kq ≤ k) ∧ Aside0 (Kd.R k23 23 wc w.heap.size (fun k_ => some k_ ≠ (v652 : Value).ownBlock ∧ some k_ ≠ (v683 : Value).ownBlock ∧ k_ ≠ gb690 ∧ k_ ≠ gb701 ∧ k_ ≠ gb706 ∧ k_ ≠ gb711 ∧ k_ ≠ gb715) (.slice Ao29 t645.length co29) t645) ∧ Aside0 (Kd.R k23 23 wc w.heap.size (fun k_ => some k_ ≠ ((.slice Ao29 t645.length co29) : Value).ownBlock ∧ some k_ ≠ (v683 : Value).ownBlock ∧ k_ ≠ gb690 ∧ k_ ≠ gb701 ∧ k_ ≠ gb706 ∧ k_ ≠ gb711 ∧ k_ ≠ gb715) v652 t651) ∧ Aside0 (Kd.R k23 23 wc w.heap.size (fun k_ => some k_ ≠ ((.slice Ao29 t645.length co29) : Value).ownBlock ∧ some k_ ≠ (v652 : Value).ownBlock ∧ k_ ≠ gb690 ∧ k_ ≠ gb701 ∧ k_ ≠ gb706 ∧ k_ ≠ gb711 ∧ k_ ≠ gb715) v683 t681) ∧ Aside0 (wc.heap[gb650]? = some (.cells #[.string t648, .int .i64 t649] 32 (0, 0))) ∧ Aside0 (wc.heap[gb690]? = some (.cells #[.string t688, .int .i64 t689] 23 (0, 0))) ∧ Aside0 (wc.heap[gb701]? = some (.cells #[.string t699, .int .i64 t700] 23 (0, 0))) ∧ Aside0 (wc.heap[gb706]? = some (.cells #[.string t703, .int .i64 t704] 23 (0, 0))) ∧ Aside0 (wc.heap[gb711]? = some (.cells #[.string t708, .int .i64 t709] 23 (0, 0))) ∧ Aside0 (wc.heap[gb715]? = some (.cells #[.string t712, .int .i64 t713] 23 (0, 0))) ∧ Aside0 (Below w.heap.size w wc))
 case first =>
  as_aux_lemma =>
   have H := HC25.out
   clear HC25
   by_cases c82 : t655 = t660
   rotate_left
   ·rw [if_neg c82] at H
    exact absurd H (by simp)
   rw [if_pos c82] at H
   have c82b0 : (t655 == t660) = true := beq_iff_eq.mpr c82
   have c82b1 : (t655 != t660) = false := bne_eq_false_iff_eq.mpr c82
   clear c82
   (first | rw [c82b0] | (simp only [i64_w, i32_w]; rw [c82b0]) | skip)
   by_cases c83 : t654 = t659
   rotate_left
   ·rw [if_neg c83] at H
    exact absurd H (by simp)
   rw [if_pos c83] at H
   have c83b0 : (t654 == t659) = true := beq_iff_eq.mpr c83
   have c83b1 : (t654 != t659) = false := bne_eq_false_iff_eq.mpr c83
   clear c83
   replace H := ob_ H
   obtain ⟨t722, A840, H⟩ := H
   (try dsimp only at H)
   have A84 := ak_ A840
   clear A840
   by_cases c85 : t722 = true
   rotate_left
   ·replace c85 := Bool.eq_false_iff.mpr c85
    subst c85
    have H1 : (none) = some r := by rw [if_neg (show ¬ (false = true) by decide)] at H; exact H
    clear H
    have H := H1
    clear H1
    exact absurd H (by simp)
   subst c85
   have H1 : (if t662 = t664 then (if t661 = t663 then (if t670 = t672 then (if t669 = t671 then (if t678 = t682 then ((spec_SameCoils.f k t677 t681).bind fun t723 => (if t723 = true then (if t694 = t698 then ((spec_SameCoils.f k t691 t695).bind fun t724 => (if t724 = true then ((spec_CoilText.f k t699 t700).bind fun t725 => (if t702.toList = t725.toList then (if (t705 != (t702.toList != ([] : List UInt8))) = true then (none) else (if t705 = true then (if (!(t703.toList == t699.toList) || (!(t704 == t700))) = true then (none) else (if (t710 != t714) = true then (none) else (if (!(t708.toList == t712.toList) || (!(t709 == t713))) = true then (none) else ((impl_SameCoils.f k t716 t717).bind fun t726 => ((spec_SameCoils.f k t716 t717).bind fun t727 => (if (t726 != t727) = true then (none) else ((impl_ValidStockCoils.f k t645).bind fun t728 => ((spec_ValidStockCoils.f k t645).bind fun t729 => (laws_FnCoils.j0 k t645 t651 t655 t659 t662 t663 t674 t681 (t728 != t729) t648 t649))))))))) else (if (t710 != t714) = true then (none) else (if (!(t708.toList == t712.toList) || (!(t709 == t713))) = true then (none) else ((impl_SameCoils.f k t716 t717).bind fun t730 => ((spec_SameCoils.f k t716 t717).bind fun t731 => (if (t730 != t731) = true then (none) else ((impl_ValidStockCoils.f k t645).bind fun t732 => ((spec_ValidStockCoils.f k t645).bind fun t733 => (laws_FnCoils.j0 k t645 t651 t655 t659 t662 t663 t674 t681 (t732 != t733) t648 t649)))))))))) else (none))) else (none))) else (none)) else (none))) else (none)) else (none)) else (none)) else (none)) else (none)) = some r := by rw [if_pos rfl] at H; exact H
   clear H
   have H := H1
   clear H1
   by_cases c86 : t662 = t664
   rotate_left
   ·rw [if_neg c86] at H
    exact absurd H (by simp)
   rw [if_pos c86] at H
   have c86b0 : (t662 == t664) = true := beq_iff_eq.mpr c86
   have c86b1 : (t662 != t664) = false := bne_eq_false_iff_eq.mpr c86
   clear c86
   by_cases c87 : t661 = t663
   rotate_left
   ·rw [if_neg c87] at H
    exact absurd H (by simp)
   rw [if_pos c87] at H
   have c87b0 : (t661 == t663) = true := beq_iff_eq.mpr c87
   have c87b1 : (t661 != t663) = false := bne_eq_false_iff_eq.mpr c87
   clear c87
   by_cases c88 : t670 = t672
   rotate_left
   ·rw [if_neg c88] at H
    exact absurd H (by simp)
   rw [if_pos c88] at H
   have c88b0 : (t670 == t672) = true := beq_iff_eq.mpr c88
   have c88b1 : (t670 != t672) = false := bne_eq_false_iff_eq.mpr c88
   clear c88
   by_cases c89 : t669 = t671
   rotate_left
   ·rw [if_neg c89] at H
    exact absurd H (by simp)
   rw [if_pos c89] at H
   have c89b0 : (t669 == t671) = true := beq_iff_eq.mpr c89
   have c89b1 : (t669 != t671) = false := bne_eq_false_iff_eq.mpr c89
   clear c89
   by_cases c90 : t678 = t682
   rotate_left
   ·rw [if_neg c90] at H
    exact absurd H (by simp)
   rw [if_pos c90] at H
   have c90b0 : (t678 == t682) = true := beq_iff_eq.mpr c90
   have c90b1 : (t678 != t682) = false := bne_eq_false_iff_eq.mpr c90
   clear c90
   replace H := ob_ H
   obtain ⟨t723, A910, H⟩ := H
   (try dsimp only at H)
   have A91 := ak_ A910
   clear A910
   by_cases c92 : t723 = true
   rotate_left
   ·replace c92 := Bool.eq_false_iff.mpr c92
    subst c92
    have H1 : (none) = some r := by rw [if_neg (show ¬ (false = true) by decide)] at H; exact H
    clear H
    have H := H1
    clear H1
    exact absurd H (by simp)
   subst c92
   have H1 : (if t694 = t698 then ((spec_SameCoils.f k t691 t695).bind fun t724 => (if t724 = true then ((spec_CoilText.f k t699 t700).bind fun t725 => (if t702.toList = t725.toList then (if (t705 != (t702.toList != ([] : List UInt8))) = true then (none) else (if t705 = true then (if (!(t703.toList == t699.toList) || (!(t704 == t700))) = true then (none) else (if (t710 != t714) = true then (none) else (if (!(t708.toList == t712.toList) || (!(t709 == t713))) = true then (none) else ((impl_SameCoils.f k t716 t717).bind fun t726 => ((spec_SameCoils.f k t716 t717).bind fun t727 => (if (t726 != t727) = true then (none) else ((impl_ValidStockCoils.f k t645).bind fun t728 => ((spec_ValidStockCoils.f k t645).bind fun t729 => (laws_FnCoils.j0 k t645 t651 t655 t659 t662 t663 t674 t681 (t728 != t729) t648 t649))))))))) else (if (t710 != t714) = true then (none) else (if (!(t708.toList == t712.toList) || (!(t709 == t713))) = true then (none) else ((impl_SameCoils.f k t716 t717).bind fun t730 => ((spec_SameCoils.f k t716 t717).bind fun t731 => (if (t730 != t731) = true then (none) else ((impl_ValidStockCoils.f k t645).bind fun t732 => ((spec_ValidStockCoils.f k t645).bind fun t733 => (laws_FnCoils.j0 k t645 t651 t655 t659 t662 t663 t674 t681 (t732 != t733) t648 t649)))))))))) else (none))) else (none))) else (none)) = some r := by rw [if_pos rfl] at H; exact H
   clear H
   have H := H1
   clear H1
   by_cases c93 : t694 = t698
   rotate_left
   ·rw [if_neg c93] at H
    exact absurd H (by simp)
   rw [if_pos c93] at H
   have c93b0 : (t694 == t698) = true := beq_iff_eq.mpr c93
   have c93b1 : (t694 != t698) = false := bne_eq_false_iff_eq.mpr c93
   clear c93
   replace H := ob_ H
   obtain ⟨t724, A940, H⟩ := H
   (try dsimp only at H)
   have A94 := ak_ A940
   clear A940
   by_cases c95 : t724 = true
   rotate_left
   ·replace c95 := Bool.eq_false_iff.mpr c95
    subst c95
    have H1 : (none) = some r := by rw [if_neg (show ¬ (false = true) by decide)] at H; exact H
    clear H
    have H := H1
    clear H1
    exact absurd H (by simp)
   subst c95
   have H1 : ((spec_CoilText.f k t699 t700).bind fun t725 => (if t702.toList = t725.toList then (if (t705 != (t702.toList != ([] : List UInt8))) = true then (none) else (if t705 = true then (if (!(t703.toList == t699.toList) || (!(t704 == t700))) = true then (none) else (if (t710 != t714) = true then (none) else (if (!(t708.toList == t712.toList) || (!(t709 == t713))) = true then (none) else ((impl_SameCoils.f k t716 t717).bind fun t726 => ((spec_SameCoils.f k t716 t717).bind fun t727 => (if (t726 != t727) = true then (none) else ((impl_ValidStockCoils.f k t645).bind fun t728 => ((spec_ValidStockCoils.f k t645).bind fun t729 => (laws_FnCoils.j0 k t645 t651 t655 t659 t662 t663 t674 t681 (t728 != t729) t648 t649))))))))) else (if (t710 != t714) = true then (none) else (if (!(t708.toList == t712.toList) || (!(t709 == t713))) = true then (none) else ((impl_SameCoils.f k t716 t717).bind fun t730 => ((spec_SameCoils.f k t716 t717).bind fun t731 => (if (t730 != t731) = true then (none) else ((impl_ValidStockCoils.f k t645).bind fun t732 => ((spec_ValidStockCoils.f k t645).bind fun t733 => (laws_FnCoils.j0 k t645 t651 t655 t659 t662 t663 t674 t681 (t732 != t733) t648 t649)))))))))) else (none))) = some r := by rw [if_pos rfl] at H; exact H
   clear H
   have H := H1
   clear H1
   replace H := ob_ H
   obtain ⟨t725, A960, H⟩ := H
   (try dsimp only at H)
   have A96 := ak_ A960
   clear A960
   by_cases c97 : t702.toList = t725.toList
   rotate_left
   ·rw [if_neg c97] at H
    exact absurd H (by simp)
   rw [if_pos c97] at H
   have c97b0 : (t702.toList == t725.toList) = true := beq_iff_eq.mpr c97
   have c97b1 : (t702.toList != t725.toList) = false := bne_eq_false_iff_eq.mpr c97
   clear c97
   by_cases c98 : (t705 != (t702.toList != ([] : List UInt8))) = true
   ·rw [if_pos c98] at H
    exact absurd H (by simp)
   rw [if_neg c98] at H
   have c98b0 : (t705 != (t702.toList != ([] : List UInt8))) = false := by simpa using c98
   (try (have c98b1 : decide (t705 = (t702.toList != ([] : List UInt8))) = true := by simpa using c98))
   (try (have c98b2 : (t705 == (t702.toList != ([] : List UInt8))) = true := by simpa using c98))
   clear c98
   by_cases c99 : t705 = true
   rotate_left
   ·as_aux_lemma =>
     replace c99 := Bool.eq_false_iff.mpr c99
     subst c99
     (try (have c98n : ¬ t702.toList = [] := by simpa using c98b0)); (try (have c98d : decide (t702.toList = []) = false := decide_eq_false c98n)); (try (have c98i : t702.toList.isEmpty = false := by simpa using c98n)); (try (have c98m : t702.toList = [] := by simpa using c98b0)); (try (have c98e : decide (t702.toList = []) = true := dt_ c98m)); (try (have c98j : t702.toList.isEmpty = true := by rw [c98m]; rfl)); (try (have c98k : t725.toList = [] := by rw [← eq_of_beq c97b0]; exact c98m)); (try (have c98l : decide (t725.toList = []) = true := dt_ c98k)); (try (have c98o : t725.toList.isEmpty = true := by rw [c98k]; rfl))
     have H1 : (if (t710 != t714) = true then (none) else (if (!(t708.toList == t712.toList) || (!(t709 == t713))) = true then (none) else ((impl_SameCoils.f k t716 t717).bind fun t730 => ((spec_SameCoils.f k t716 t717).bind fun t731 => (if (t730 != t731) = true then (none) else ((impl_ValidStockCoils.f k t645).bind fun t732 => ((spec_ValidStockCoils.f k t645).bind fun t733 => (laws_FnCoils.j0 k t645 t651 t655 t659 t662 t663 t674 t681 (t732 != t733) t648 t649)))))))) = some r := by rw [if_neg (show ¬ (false = true) by decide)] at H; exact H
     clear H
     have H := H1
     clear H1
     by_cases c138 : (t710 != t714) = true
     ·rw [if_pos c138] at H
      exact absurd H (by simp)
     rw [if_neg c138] at H
     have c138b0 : (t710 != t714) = false := by simpa using c138
     (try (have c138b1 : decide (t710 = t714) = true := by simpa using c138))
     (try (have c138b2 : (t710 == t714) = true := by simpa using c138))
     clear c138
     by_cases c139 : (!(t708.toList == t712.toList) || (!(t709 == t713))) = true
     ·rw [if_pos c139] at H
      exact absurd H (by simp)
     rw [if_neg c139] at H
     have c139b0 : (!(t708.toList == t712.toList) || (!(t709 == t713))) = false := by simpa using c139
     clear c139
     replace H := ob_ H
     obtain ⟨t730, A1400, H⟩ := H
     (try dsimp only at H)
     have A140 := ak_ A1400
     clear A1400
     replace H := ob_ H
     obtain ⟨t731, A1410, H⟩ := H
     (try dsimp only at H)
     have A141 := ak_ A1410
     clear A1410
     by_cases c142 : (t730 != t731) = true
     ·rw [if_pos c142] at H
      exact absurd H (by simp)
     rw [if_neg c142] at H
     have c142b0 : (t730 != t731) = false := by simpa using c142
     (try (have c142b1 : decide (t730 = t731) = true := by simpa using c142))
     (try (have c142b2 : (t730 == t731) = true := by simpa using c142))
     clear c142
     replace H := ob_ H
     obtain ⟨t732, A1430, H⟩ := H
     (try dsimp only at H)
     have A143 := ak_ A1430
     clear A1430
     replace H := ob_ H
     obtain ⟨t733, A1440, H⟩ := H
     (try dsimp only at H)
     have A144 := ak_ A1440
     clear A1440
     have H' := ak_ H
     clear H
     obtain ⟨Ao145, co145, eo145⟩ := Kd.R_slice HO653.out
     subst eo145
     obtain ⟨Ao146, co146, eo146⟩ := Kd.R_slice HO658.out
     subst eo146
     go_wp2_with (first | (go_at_call 30; (with_reducible refine (spec_SameCoils.calls k _ _ t651 _ _ t656 true _ ?side1 ((Kd.R_reads' HO653.out).2.1) ?side3 ((Kd.R_reads' HO658.out).2.1) A84.out).mono ?_); (case side1 => repeat (first | exact (Kd.R_reads' HO653.out).2.2 | (with_reducible refine Kd.C_alloc ?_ _) | (with_reducible refine Kd.C_drewN ?_ _) | (with_reducible refine Kd.C_drew ?_))); (case side3 => repeat (first | exact (Kd.R_reads' HO658.out).2.2 | (with_reducible refine Kd.C_alloc ?_ _) | (with_reducible refine Kd.C_drewN ?_ _) | (with_reducible refine Kd.C_drew ?_))); rintro e w' ⟨rfl, ⟨nd, rfl⟩⟩; (try first | exact ⟨rfl, _, World.drewN_drewN _ _ _⟩ | exact ⟨rfl, _, Eq.trans (World.drewN_drewN _ _ _) (congrArg (World.drewN _) (Nat.add_assoc _ _ _))⟩); obtain ⟨Ao147, co147, eo147⟩ := Kd.R_slice HO680.out; subst eo147; obtain ⟨Ao148, co148, eo148⟩ := Kd.R_slice HO684.out; subst eo148) | (go_at_call 30; (with_reducible refine (spec_SameCoils.calls k _ _ t677 _ _ t681 true _ ?side1 ((Kd.R_reads' HO680.out).2.1) ?side3 ((Kd.R_reads' HO684.out).2.1) A91.out).mono ?_); (case side1 => repeat (first | exact (Kd.R_reads' HO680.out).2.2 | (with_reducible refine Kd.C_alloc ?_ _) | (with_reducible refine Kd.C_drewN ?_ _) | (with_reducible refine Kd.C_drew ?_))); (case side3 => repeat (first | exact (Kd.R_reads' HO684.out).2.2 | (with_reducible refine Kd.C_alloc ?_ _) | (with_reducible refine Kd.C_drewN ?_ _) | (with_reducible refine Kd.C_drew ?_))); rintro e w' ⟨rfl, ⟨nd, rfl⟩⟩; (try first | exact ⟨rfl, _, World.drewN_drewN _ _ _⟩ | exact ⟨rfl, _, Eq.trans (World.drewN_drewN _ _ _) (congrArg (World.drewN _) (Nat.add_assoc _ _ _))⟩); obtain ⟨Ao149, co149, eo149⟩ := Kd.R_slice HO693.out; subst eo149; obtain ⟨Ao150, co150, eo150⟩ := Kd.R_slice HO697.out; subst eo150) | (go_at_call 30; (with_reducible refine (spec_SameCoils.calls k _ _ t691 _ _ t695 true _ ?side1 ((Kd.R_reads' HO693.out).2.1) ?side3 ((Kd.R_reads' HO697.out).2.1) A94.out).mono ?_); (case side1 => repeat (first | exact (Kd.R_reads' HO693.out).2.2 | (with_reducible refine Kd.C_alloc ?_ _) | (with_reducible refine Kd.C_drewN ?_ _) | (with_reducible refine Kd.C_drew ?_))); (case side3 => repeat (first | exact (Kd.R_reads' HO697.out).2.2 | (with_reducible refine Kd.C_alloc ?_ _) | (with_reducible refine Kd.C_drewN ?_ _) | (with_reducible refine Kd.C_drew ?_))); rintro e w' ⟨rfl, ⟨nd, rfl⟩⟩; (try first | exact ⟨rfl, _, World.drewN_drewN _ _ _⟩ | exact ⟨rfl, _, Eq.trans (World.drewN_drewN _ _ _) (congrArg (World.drewN _) (Nat.add_assoc _ _ _))⟩); have hnb151 := NB701_650.out; have hnc151 := NB650_701.out; have hnb152 := NB701_690.out; have hnc152 := NB690_701.out; have hnb153 := NB701_706.out; have hnc153 := NB706_701.out; have hnb154 := NB701_711.out; have hnc154 := NB711_701.out; have hnb155 := NB701_715.out; have hnc155 := NB715_701.out; have hcz156_0 : w81.cell? ⟨gb701, 0, none⟩ = some (.string t699) := (blk_cell BK701.out 0).trans rfl; have hcz156_1 : w81.cell? ⟨gb701, 1, none⟩ = some (.int .i64 t700) := (blk_cell BK701.out 1).trans rfl; have hfz156_0 := blk_frozen BK701.out 0; have hfz156_1 := blk_frozen BK701.out 1) | (go_at_call 31; (with_reducible refine (spec_CoilText.calls k t699 t700 t725 _ A96.out).mono ?_); rintro e w157 ⟨rfl, hb⟩; replace HO647 := ak_ (Kd.R_below (kr_ HO647) hb); replace HO653 := ak_ (Kd.R_below (kr_ HO653) hb); replace HO658 := ak_ (Kd.R_below (kr_ HO658) hb); replace HO668 := ak_ (Kd.R_below (kr_ HO668) hb); replace HO676 := ak_ (Kd.R_below (kr_ HO676) hb); replace HO680 := ak_ (Kd.R_below (kr_ HO680) hb); replace HO684 := ak_ (Kd.R_below (kr_ HO684) hb); replace HO687 := ak_ (Kd.R_below (kr_ HO687) hb); replace HO693 := ak_ (Kd.R_below (kr_ HO693) hb); replace HO697 := ak_ (Kd.R_below (kr_ HO697) hb); replace HO719 := ak_ (Kd.R_below (kr_ HO719) hb); replace HO721 := ak_ (Kd.R_below (kr_ HO721) hb); replace BK650 := ak_ (blk_below (g := gb650) (o := .cells #[.string t648, .int .i64 t649] 32 (0, 0)) (bk_ BK650) hb); replace BK690 := ak_ (blk_below (g := gb690) (o := .cells #[.string t688, .int .i64 t689] 23 (0, 0)) (bk_ BK690) hb); replace BK701 := ak_ (blk_below (g := gb701) (o := .cells #[.string t699, .int .i64 t700] 23 (0, 0)) (bk_ BK701) hb); replace BK706 := ak_ (blk_below (g := gb706) (o := .cells #[.string t703, .int .i64 t704] 23 (0, 0)) (bk_ BK706) hb); replace BK711 := ak_ (blk_below (g := gb711) (o := .cells #[.string t708, .int .i64 t709] 23 (0, 0)) (bk_ BK711) hb); replace BK715 := ak_ (blk_below (g := gb715) (o := .cells #[.string t712, .int .i64 t713] 23 (0, 0)) (bk_ BK715) hb); replace HB := ak_ (below_step (by repeat (first | (with_reducible first | exact HB.out | apply below_alloc | apply pw_below_drewN | apply below_drew1 | refine below_set ?_ GE650.out | refine below_set ?_ GE690.out | refine below_set ?_ GE701.out | refine below_set ?_ GE706.out | refine below_set ?_ GE711.out | refine below_set ?_ GE715.out) | exact HB.out)) hb); skip; (try clear hb); (try clear hb2); (try clear hk); (try clear hi); have hnb158 := NB711_650.out; have hnc158 := NB650_711.out; have hnb159 := NB711_690.out; have hnc159 := NB690_711.out; have hnb160 := NB711_706.out; have hnc160 := NB706_711.out; have hnb161 := NB711_715.out; have hnc161 := NB715_711.out; have hcz162_0 : w157.cell? ⟨gb711, 0, none⟩ = some (.string t708) := (blk_cell BK711.out 0).trans rfl; have hcz162_1 : w157.cell? ⟨gb711, 1, none⟩ = some (.int .i64 t709) := (blk_cell BK711.out 1).trans rfl; have hfz162_0 := blk_frozen BK711.out 0; have hfz162_1 := blk_frozen BK711.out 1; have hnb163 := NB715_650.out; have hnc163 := NB650_715.out; have hnb164 := NB715_690.out; have hnc164 := NB690_715.out; have hnb165 := NB715_706.out; have hnc165 := NB706_715.out; have hcz166_0 : w157.cell? ⟨gb715, 0, none⟩ = some (.string t712) := (blk_cell BK715.out 0).trans rfl; have hcz166_1 : w157.cell? ⟨gb715, 1, none⟩ = some (.int .i64 t713) := (blk_cell BK715.out 1).trans rfl; have hfz166_0 := blk_frozen BK715.out 0; have hfz166_1 := blk_frozen BK715.out 1; obtain ⟨Ao167, co167, eo167⟩ := Kd.R_slice HO719.out; subst eo167; obtain ⟨Ao168, co168, eo168⟩ := Kd.R_slice HO721.out; subst eo168) | (go_at_call 32; (with_reducible refine (impl_SameCoils.calls k _ _ t716 _ _ t717 t730 _ ?side1 ((Kd.R_reads' HO719.out).2.1) ?side3 ((Kd.R_reads' HO721.out).2.1) A140.out).mono ?_); (case side1 => repeat (first | exact (Kd.R_reads' HO719.out).2.2 | (with_reducible refine Kd.C_alloc ?_ _) | (with_reducible refine Kd.C_drewN ?_ _) | (with_reducible refine Kd.C_drew ?_))); (case side3 => repeat (first | exact (Kd.R_reads' HO721.out).2.2 | (with_reducible refine Kd.C_alloc ?_ _) | (with_reducible refine Kd.C_drewN ?_ _) | (with_reducible refine Kd.C_drew ?_))); rintro e w' ⟨rfl, ⟨nd, rfl⟩⟩; (try first | exact ⟨rfl, _, World.drewN_drewN _ _ _⟩ | exact ⟨rfl, _, Eq.trans (World.drewN_drewN _ _ _) (congrArg (World.drewN _) (Nat.add_assoc _ _ _))⟩)) | (go_at_call 30; (with_reducible refine (spec_SameCoils.calls k _ _ t716 _ _ t717 t731 _ ?side1 ((Kd.R_reads' HO719.out).2.1) ?side3 ((Kd.R_reads' HO721.out).2.1) A141.out).mono ?_); (case side1 => repeat (first | exact (Kd.R_reads' HO719.out).2.2 | (with_reducible refine Kd.C_alloc ?_ _) | (with_reducible refine Kd.C_drewN ?_ _) | (with_reducible refine Kd.C_drew ?_))); (case side3 => repeat (first | exact (Kd.R_reads' HO721.out).2.2 | (with_reducible refine Kd.C_alloc ?_ _) | (with_reducible refine Kd.C_drewN ?_ _) | (with_reducible refine Kd.C_drew ?_))); rintro e w' ⟨rfl, ⟨nd, rfl⟩⟩; (try first | exact ⟨rfl, _, World.drewN_drewN _ _ _⟩ | exact ⟨rfl, _, Eq.trans (World.drewN_drewN _ _ _) (congrArg (World.drewN _) (Nat.add_assoc _ _ _))⟩)) | (go_at_call 33; (with_reducible refine (impl_ValidStockCoils.calls k _ _ t645 t732 _ ?side1 ((Kd.R_reads' HO647.out).2.1) A143.out).mono ?_); (case side1 => repeat (first | exact (Kd.R_reads' HO647.out).2.2 | (with_reducible refine Kd.C_alloc ?_ _) | (with_reducible refine Kd.C_drewN ?_ _) | (with_reducible refine Kd.C_drew ?_))); rintro e w169 ⟨rfl, hb⟩; replace HO647 := ak_ (Kd.R_below (kr_ HO647) hb); replace HO653 := ak_ (Kd.R_below (kr_ HO653) hb); replace HO658 := ak_ (Kd.R_below (kr_ HO658) hb); replace HO668 := ak_ (Kd.R_below (kr_ HO668) hb); replace HO676 := ak_ (Kd.R_below (kr_ HO676) hb); replace HO680 := ak_ (Kd.R_below (kr_ HO680) hb); replace HO684 := ak_ (Kd.R_below (kr_ HO684) hb); replace HO687 := ak_ (Kd.R_below (kr_ HO687) hb); replace HO693 := ak_ (Kd.R_below (kr_ HO693) hb); replace HO697 := ak_ (Kd.R_below (kr_ HO697) hb); replace HO719 := ak_ (Kd.R_below (kr_ HO719) hb); replace HO721 := ak_ (Kd.R_below (kr_ HO721) hb); replace BK650 := ak_ (blk_below (g := gb650) (o := .cells #[.string t648, .int .i64 t649] 32 (0, 0)) (bk_ BK650) hb); replace BK690 := ak_ (blk_below (g := gb690) (o := .cells #[.string t688, .int .i64 t689] 23 (0, 0)) (bk_ BK690) hb); replace BK701 := ak_ (blk_below (g := gb701) (o := .cells #[.string t699, .int .i64 t700] 23 (0, 0)) (bk_ BK701) hb); replace BK706 := ak_ (blk_below (g := gb706) (o := .cells #[.string t703, .int .i64 t704] 23 (0, 0)) (bk_ BK706) hb); replace BK711 := ak_ (blk_below (g := gb711) (o := .cells #[.string t708, .int .i64 t709] 23 (0, 0)) (bk_ BK711) hb); replace BK715 := ak_ (blk_below (g := gb715) (o := .cells #[.string t712, .int .i64 t713] 23 (0, 0)) (bk_ BK715) hb); replace HB := ak_ (below_step (by repeat (first | (with_reducible first | exact HB.out | apply below_alloc | apply pw_below_drewN | apply below_drew1 | refine below_set ?_ GE650.out | refine below_set ?_ GE690.out | refine below_set ?_ GE701.out | refine below_set ?_ GE706.out | refine below_set ?_ GE711.out | refine below_set ?_ GE715.out) | exact HB.out)) hb); skip; clear hb) | (go_at_call 34; (with_reducible refine (spec_ValidStockCoils.calls k _ _ t645 t733 _ ?side1 ((Kd.R_reads' HO647.out).2.1) A144.out).mono ?_); (case side1 => repeat (first | exact (Kd.R_reads' HO647.out).2.2 | (with_reducible refine Kd.C_alloc ?_ _) | (with_reducible refine Kd.C_drewN ?_ _) | (with_reducible refine Kd.C_drew ?_))); rintro e w170 ⟨rfl, hb⟩; replace HO647 := ak_ (Kd.R_below (kr_ HO647) hb); replace HO653 := ak_ (Kd.R_below (kr_ HO653) hb); replace HO658 := ak_ (Kd.R_below (kr_ HO658) hb); replace HO668 := ak_ (Kd.R_below (kr_ HO668) hb); replace HO676 := ak_ (Kd.R_below (kr_ HO676) hb); replace HO680 := ak_ (Kd.R_below (kr_ HO680) hb); replace HO684 := ak_ (Kd.R_below (kr_ HO684) hb); replace HO687 := ak_ (Kd.R_below (kr_ HO687) hb); replace HO693 := ak_ (Kd.R_below (kr_ HO693) hb); replace HO697 := ak_ (Kd.R_below (kr_ HO697) hb); replace HO719 := ak_ (Kd.R_below (kr_ HO719) hb); replace HO721 := ak_ (Kd.R_below (kr_ HO721) hb); replace BK650 := ak_ (blk_below (g := gb650) (o := .cells #[.string t648, .int .i64 t649] 32 (0, 0)) (bk_ BK650) hb); replace BK690 := ak_ (blk_below (g := gb690) (o := .cells #[.string t688, .int .i64 t689] 23 (0, 0)) (bk_ BK690) hb); replace BK701 := ak_ (blk_below (g := gb701) (o := .cells #[.string t699, .int .i64 t700] 23 (0, 0)) (bk_ BK701) hb); replace BK706 := ak_ (blk_below (g := gb706) (o := .cells #[.string t703, .int .i64 t704] 23 (0, 0)) (bk_ BK706) hb); replace BK711 := ak_ (blk_below (g := gb711) (o := .cells #[.string t708, .int .i64 t709] 23 (0, 0)) (bk_ BK711) hb); replace BK715 := ak_ (blk_below (g := gb715) (o := .cells #[.string t712, .int .i64 t713] 23 (0, 0)) (bk_ BK715) hb); replace HB := ak_ (below_step (by repeat (first | (with_reducible first | exact HB.out | apply below_alloc | apply pw_below_drewN | apply below_drew1 | refine below_set ?_ GE650.out | refine below_set ?_ GE690.out | refine below_set ?_ GE701.out | refine below_set ?_ GE706.out | refine below_set ?_ GE711.out | refine below_set ?_ GE715.out) | exact HB.out)) hb); skip; clear hb))
     go_meet
     case rel => exact ⟨_, ((t732 != t733)), fr_, H', ⟨by first | omega | exact Nat.le_refl _⟩, ⟨by (with_reducible repeat (first | apply Kd.R_alloc | apply Kd.R_drewN | apply Kd.R_drew)); exact Kd.R_mono HO647.out (fun _ hk => ⟨hk.1.1.1.1.1.1.1.1.1.1.1.1.1.1.1.2, ⟨hk.1.1.1.1.1.1.1.1.1.1.2, ⟨hk.1.1.1.1.1.1.1.1.2, ⟨hk.1.1.1.1.1.2, ⟨hk.1.1.1.1.2, ⟨hk.1.1.1.2, hk.1.1.2⟩⟩⟩⟩⟩⟩)⟩, ⟨by (with_reducible repeat (first | apply Kd.R_alloc | apply Kd.R_drewN | apply Kd.R_drew)); exact Kd.R_mono HO653.out (fun _ hk => ⟨hk.1.1.1.1.1.1.1.1.1.1.1.1.1.1.1.2, ⟨hk.1.1.1.1.1.1.1.1.1.1.2, ⟨hk.1.1.1.1.1.1.1.1.2, ⟨hk.1.1.1.1.1.2, ⟨hk.1.1.1.1.2, ⟨hk.1.1.1.2, hk.1.1.2⟩⟩⟩⟩⟩⟩)⟩, ⟨by (with_reducible repeat (first | apply Kd.R_alloc | apply Kd.R_drewN | apply Kd.R_drew)); exact Kd.R_mono HO684.out (fun _ hk => ⟨hk.1.1.1.1.1.1.1.1.1.1.1.1.1.1.1.2, ⟨hk.1.1.1.1.1.1.1.1.1.1.1.1.1.1.2, ⟨hk.1.1.1.1.1.1.1.1.2, ⟨hk.1.1.1.1.1.2, ⟨hk.1.1.1.1.2, ⟨hk.1.1.1.2, hk.1.1.2⟩⟩⟩⟩⟩⟩)⟩, ⟨by (with_reducible repeat (first | refine blk_drewN ?_ _ | refine blk_drew ?_ | refine blk_alloc ?_ _)); exact BK650.out⟩, ⟨by (with_reducible repeat (first | refine blk_drewN ?_ _ | refine blk_drew ?_ | refine blk_alloc ?_ _)); exact BK690.out⟩, ⟨by (with_reducible repeat (first | refine blk_drewN ?_ _ | refine blk_drew ?_ | refine blk_alloc ?_ _)); exact BK701.out⟩, ⟨by (with_reducible repeat (first | refine blk_drewN ?_ _ | refine blk_drew ?_ | refine blk_alloc ?_ _)); exact BK706.out⟩, ⟨by (with_reducible repeat (first | refine blk_drewN ?_ _ | refine blk_drew ?_ | refine blk_alloc ?_ _)); exact BK711.out⟩, ⟨by (with_reducible repeat (first | refine blk_drewN ?_ _ | refine blk_drew ?_ | refine blk_alloc ?_ _)); exact BK715.out⟩, ⟨by repeat (first | (with_reducible first | exact HB.out | apply below_alloc | apply pw_below_drewN | apply below_drew1 | refine below_set ?_ GE650.out | refine below_set ?_ GE690.out | refine below_set ?_ GE701.out | refine below_set ?_ GE706.out | refine below_set ?_ GE711.out | refine below_set ?_ GE715.out) | exact HB.out)⟩⟩
   subst c99
   (try (have c98n : ¬ t702.toList = [] := by simpa using c98b0)); (try (have c98d : decide (t702.toList = []) = false := decide_eq_false c98n)); (try (have c98i : t702.toList.isEmpty = false := by simpa using c98n)); (try (have c98m : t702.toList = [] := by simpa using c98b0)); (try (have c98e : decide (t702.toList = []) = true := dt_ c98m)); (try (have c98j : t702.toList.isEmpty = true := by rw [c98m]; rfl)); (try (have c98k : t725.toList = [] := by rw [← eq_of_beq c97b0]; exact c98m)); (try (have c98l : decide (t725.toList = []) = true := dt_ c98k)); (try (have c98o : t725.toList.isEmpty = true := by rw [c98k]; rfl))
   have H1 : (if (!(t703.toList == t699.toList) || (!(t704 == t700))) = true then (none) else (if (t710 != t714) = true then (none) else (if (!(t708.toList == t712.toList) || (!(t709 == t713))) = true then (none) else ((impl_SameCoils.f k t716 t717).bind fun t726 => ((spec_SameCoils.f k t716 t717).bind fun t727 => (if (t726 != t727) = true then (none) else ((impl_ValidStockCoils.f k t645).bind fun t728 => ((spec_ValidStockCoils.f k t645).bind fun t729 => (laws_FnCoils.j0 k t645 t651 t655 t659 t662 t663 t674 t681 (t728 != t729) t648 t649))))))))) = some r := by rw [if_pos rfl] at H; exact H
   clear H
   have H := H1
   clear H1
   by_cases c100 : (!(t703.toList == t699.toList) || (!(t704 == t700))) = true
   ·rw [if_pos c100] at H
    exact absurd H (by simp)
   rw [if_neg c100] at H
   have c100b0 : (!(t703.toList == t699.toList) || (!(t704 == t700))) = false := by simpa using c100
   clear c100
   by_cases c101 : (t710 != t714) = true
   ·rw [if_pos c101] at H
    exact absurd H (by simp)
   rw [if_neg c101] at H
   have c101b0 : (t710 != t714) = false := by simpa using c101
   (try (have c101b1 : decide (t710 = t714) = true := by simpa using c101))
   (try (have c101b2 : (t710 == t714) = true := by simpa using c101))
   clear c101
   by_cases c102 : (!(t708.toList == t712.toList) || (!(t709 == t713))) = true
   ·rw [if_pos c102] at H
    exact absurd H (by simp)
   rw [if_neg c102] at H
   have c102b0 : (!(t708.toList == t712.toList) || (!(t709 == t713))) = false := by simpa using c102
   clear c102
   replace H := ob_ H
   obtain ⟨t726, A1030, H⟩ := H
   (try dsimp only at H)
   have A103 := ak_ A1030
   clear A1030
   replace H := ob_ H
   obtain ⟨t727, A1040, H⟩ := H
   (try dsimp only at H)
   have A104 := ak_ A1040
   clear A1040
   by_cases c105 : (t726 != t727) = true
   ·rw [if_pos c105] at H
    exact absurd H (by simp)
   rw [if_neg c105] at H
   have c105b0 : (t726 != t727) = false := by simpa using c105
   (try (have c105b1 : decide (t726 = t727) = true := by simpa using c105))
   (try (have c105b2 : (t726 == t727) = true := by simpa using c105))
   clear c105
   replace H := ob_ H
   obtain ⟨t728, A1060, H⟩ := H
   (try dsimp only at H)
   have A106 := ak_ A1060
   clear A1060
   replace H := ob_ H
   obtain ⟨t729, A1070, H⟩ := H
   (try dsimp only at H)
   have A107 := ak_ A1070
   clear A1070
   have H' := ak_ H
   clear H
   obtain ⟨Ao108, co108, eo108⟩ := Kd.R_slice HO653.out
   subst eo108
   obtain ⟨Ao109, co109, eo109⟩ := Kd.R_slice HO658.out
   subst eo109
   go_wp2_with (first | (go_at_call 30; (with_reducible refine (spec_SameCoils.calls k _ _ t651 _ _ t656 true _ ?side1 ((Kd.R_reads' HO653.out).2.1) ?side3 ((Kd.R_reads' HO658.out).2.1) A84.out).mono ?_); (case side1 => repeat (first | exact (Kd.R_reads' HO653.out).2.2 | (with_reducible refine Kd.C_alloc ?_ _) | (with_reducible refine Kd.C_drewN ?_ _) | (with_reducible refine Kd.C_drew ?_))); (case side3 => repeat (first | exact (Kd.R_reads' HO658.out).2.2 | (with_reducible refine Kd.C_alloc ?_ _) | (with_reducible refine Kd.C_drewN ?_ _) | (with_reducible refine Kd.C_drew ?_))); rintro e w' ⟨rfl, ⟨nd, rfl⟩⟩; (try first | exact ⟨rfl, _, World.drewN_drewN _ _ _⟩ | exact ⟨rfl, _, Eq.trans (World.drewN_drewN _ _ _) (congrArg (World.drewN _) (Nat.add_assoc _ _ _))⟩); obtain ⟨Ao110, co110, eo110⟩ := Kd.R_slice HO680.out; subst eo110; obtain ⟨Ao111, co111, eo111⟩ := Kd.R_slice HO684.out; subst eo111) | (go_at_call 30; (with_reducible refine (spec_SameCoils.calls k _ _ t677 _ _ t681 true _ ?side1 ((Kd.R_reads' HO680.out).2.1) ?side3 ((Kd.R_reads' HO684.out).2.1) A91.out).mono ?_); (case side1 => repeat (first | exact (Kd.R_reads' HO680.out).2.2 | (with_reducible refine Kd.C_alloc ?_ _) | (with_reducible refine Kd.C_drewN ?_ _) | (with_reducible refine Kd.C_drew ?_))); (case side3 => repeat (first | exact (Kd.R_reads' HO684.out).2.2 | (with_reducible refine Kd.C_alloc ?_ _) | (with_reducible refine Kd.C_drewN ?_ _) | (with_reducible refine Kd.C_drew ?_))); rintro e w' ⟨rfl, ⟨nd, rfl⟩⟩; (try first | exact ⟨rfl, _, World.drewN_drewN _ _ _⟩ | exact ⟨rfl, _, Eq.trans (World.drewN_drewN _ _ _) (congrArg (World.drewN _) (Nat.add_assoc _ _ _))⟩); obtain ⟨Ao112, co112, eo112⟩ := Kd.R_slice HO693.out; subst eo112; obtain ⟨Ao113, co113, eo113⟩ := Kd.R_slice HO697.out; subst eo113) | (go_at_call 30; (with_reducible refine (spec_SameCoils.calls k _ _ t691 _ _ t695 true _ ?side1 ((Kd.R_reads' HO693.out).2.1) ?side3 ((Kd.R_reads' HO697.out).2.1) A94.out).mono ?_); (case side1 => repeat (first | exact (Kd.R_reads' HO693.out).2.2 | (with_reducible refine Kd.C_alloc ?_ _) | (with_reducible refine Kd.C_drewN ?_ _) | (with_reducible refine Kd.C_drew ?_))); (case side3 => repeat (first | exact (Kd.R_reads' HO697.out).2.2 | (with_reducible refine Kd.C_alloc ?_ _) | (with_reducible refine Kd.C_drewN ?_ _) | (with_reducible refine Kd.C_drew ?_))); rintro e w' ⟨rfl, ⟨nd, rfl⟩⟩; (try first | exact ⟨rfl, _, World.drewN_drewN _ _ _⟩ | exact ⟨rfl, _, Eq.trans (World.drewN_drewN _ _ _) (congrArg (World.drewN _) (Nat.add_assoc _ _ _))⟩); have hnb114 := NB701_650.out; have hnc114 := NB650_701.out; have hnb115 := NB701_690.out; have hnc115 := NB690_701.out; have hnb116 := NB701_706.out; have hnc116 := NB706_701.out; have hnb117 := NB701_711.out; have hnc117 := NB711_701.out; have hnb118 := NB701_715.out; have hnc118 := NB715_701.out; have hcz119_0 : w81.cell? ⟨gb701, 0, none⟩ = some (.string t699) := (blk_cell BK701.out 0).trans rfl; have hcz119_1 : w81.cell? ⟨gb701, 1, none⟩ = some (.int .i64 t700) := (blk_cell BK701.out 1).trans rfl; have hfz119_0 := blk_frozen BK701.out 0; have hfz119_1 := blk_frozen BK701.out 1) | (go_at_call 31; (with_reducible refine (spec_CoilText.calls k t699 t700 t725 _ A96.out).mono ?_); rintro e w120 ⟨rfl, hb⟩; replace HO647 := ak_ (Kd.R_below (kr_ HO647) hb); replace HO653 := ak_ (Kd.R_below (kr_ HO653) hb); replace HO658 := ak_ (Kd.R_below (kr_ HO658) hb); replace HO668 := ak_ (Kd.R_below (kr_ HO668) hb); replace HO676 := ak_ (Kd.R_below (kr_ HO676) hb); replace HO680 := ak_ (Kd.R_below (kr_ HO680) hb); replace HO684 := ak_ (Kd.R_below (kr_ HO684) hb); replace HO687 := ak_ (Kd.R_below (kr_ HO687) hb); replace HO693 := ak_ (Kd.R_below (kr_ HO693) hb); replace HO697 := ak_ (Kd.R_below (kr_ HO697) hb); replace HO719 := ak_ (Kd.R_below (kr_ HO719) hb); replace HO721 := ak_ (Kd.R_below (kr_ HO721) hb); replace BK650 := ak_ (blk_below (g := gb650) (o := .cells #[.string t648, .int .i64 t649] 32 (0, 0)) (bk_ BK650) hb); replace BK690 := ak_ (blk_below (g := gb690) (o := .cells #[.string t688, .int .i64 t689] 23 (0, 0)) (bk_ BK690) hb); replace BK701 := ak_ (blk_below (g := gb701) (o := .cells #[.string t699, .int .i64 t700] 23 (0, 0)) (bk_ BK701) hb); replace BK706 := ak_ (blk_below (g := gb706) (o := .cells #[.string t703, .int .i64 t704] 23 (0, 0)) (bk_ BK706) hb); replace BK711 := ak_ (blk_below (g := gb711) (o := .cells #[.string t708, .int .i64 t709] 23 (0, 0)) (bk_ BK711) hb); replace BK715 := ak_ (blk_below (g := gb715) (o := .cells #[.string t712, .int .i64 t713] 23 (0, 0)) (bk_ BK715) hb); replace HB := ak_ (below_step (by repeat (first | (with_reducible first | exact HB.out | apply below_alloc | apply pw_below_drewN | apply below_drew1 | refine below_set ?_ GE650.out | refine below_set ?_ GE690.out | refine below_set ?_ GE701.out | refine below_set ?_ GE706.out | refine below_set ?_ GE711.out | refine below_set ?_ GE715.out) | exact HB.out)) hb); skip; (try clear hb); (try clear hb2); (try clear hk); (try clear hi); have hnb121 := NB706_650.out; have hnc121 := NB650_706.out; have hnb122 := NB706_690.out; have hnc122 := NB690_706.out; have hnb123 := NB706_711.out; have hnc123 := NB711_706.out; have hnb124 := NB706_715.out; have hnc124 := NB715_706.out; have hcz125_0 : w120.cell? ⟨gb706, 0, none⟩ = some (.string t703) := (blk_cell BK706.out 0).trans rfl; have hcz125_1 : w120.cell? ⟨gb706, 1, none⟩ = some (.int .i64 t704) := (blk_cell BK706.out 1).trans rfl; have hfz125_0 := blk_frozen BK706.out 0; have hfz125_1 := blk_frozen BK706.out 1; have hcz126_0 : w120.cell? ⟨gb701, 0, none⟩ = some (.string t699) := (blk_cell BK701.out 0).trans rfl; have hcz126_1 : w120.cell? ⟨gb701, 1, none⟩ = some (.int .i64 t700) := (blk_cell BK701.out 1).trans rfl; have hfz126_0 := blk_frozen BK701.out 0; have hfz126_1 := blk_frozen BK701.out 1; have hnb127 := NB711_650.out; have hnc127 := NB650_711.out; have hnb128 := NB711_690.out; have hnc128 := NB690_711.out; have hnb129 := NB711_715.out; have hnc129 := NB715_711.out; have hcz130_0 : w120.cell? ⟨gb711, 0, none⟩ = some (.string t708) := (blk_cell BK711.out 0).trans rfl; have hcz130_1 : w120.cell? ⟨gb711, 1, none⟩ = some (.int .i64 t709) := (blk_cell BK711.out 1).trans rfl; have hfz130_0 := blk_frozen BK711.out 0; have hfz130_1 := blk_frozen BK711.out 1; have hnb131 := NB715_650.out; have hnc131 := NB650_715.out; have hnb132 := NB715_690.out; have hnc132 := NB690_715.out; have hcz133_0 : w120.cell? ⟨gb715, 0, none⟩ = some (.string t712) := (blk_cell BK715.out 0).trans rfl; have hcz133_1 : w120.cell? ⟨gb715, 1, none⟩ = some (.int .i64 t713) := (blk_cell BK715.out 1).trans rfl; have hfz133_0 := blk_frozen BK715.out 0; have hfz133_1 := blk_frozen BK715.out 1; obtain ⟨Ao134, co134, eo134⟩ := Kd.R_slice HO719.out; subst eo134; obtain ⟨Ao135, co135, eo135⟩ := Kd.R_slice HO721.out; subst eo135) | (go_at_call 32; (with_reducible refine (impl_SameCoils.calls k _ _ t716 _ _ t717 t726 _ ?side1 ((Kd.R_reads' HO719.out).2.1) ?side3 ((Kd.R_reads' HO721.out).2.1) A103.out).mono ?_); (case side1 => repeat (first | exact (Kd.R_reads' HO719.out).2.2 | (with_reducible refine Kd.C_alloc ?_ _) | (with_reducible refine Kd.C_drewN ?_ _) | (with_reducible refine Kd.C_drew ?_))); (case side3 => repeat (first | exact (Kd.R_reads' HO721.out).2.2 | (with_reducible refine Kd.C_alloc ?_ _) | (with_reducible refine Kd.C_drewN ?_ _) | (with_reducible refine Kd.C_drew ?_))); rintro e w' ⟨rfl, ⟨nd, rfl⟩⟩; (try first | exact ⟨rfl, _, World.drewN_drewN _ _ _⟩ | exact ⟨rfl, _, Eq.trans (World.drewN_drewN _ _ _) (congrArg (World.drewN _) (Nat.add_assoc _ _ _))⟩)) | (go_at_call 30; (with_reducible refine (spec_SameCoils.calls k _ _ t716 _ _ t717 t727 _ ?side1 ((Kd.R_reads' HO719.out).2.1) ?side3 ((Kd.R_reads' HO721.out).2.1) A104.out).mono ?_); (case side1 => repeat (first | exact (Kd.R_reads' HO719.out).2.2 | (with_reducible refine Kd.C_alloc ?_ _) | (with_reducible refine Kd.C_drewN ?_ _) | (with_reducible refine Kd.C_drew ?_))); (case side3 => repeat (first | exact (Kd.R_reads' HO721.out).2.2 | (with_reducible refine Kd.C_alloc ?_ _) | (with_reducible refine Kd.C_drewN ?_ _) | (with_reducible refine Kd.C_drew ?_))); rintro e w' ⟨rfl, ⟨nd, rfl⟩⟩; (try first | exact ⟨rfl, _, World.drewN_drewN _ _ _⟩ | exact ⟨rfl, _, Eq.trans (World.drewN_drewN _ _ _) (congrArg (World.drewN _) (Nat.add_assoc _ _ _))⟩)) | (go_at_call 33; (with_reducible refine (impl_ValidStockCoils.calls k _ _ t645 t728 _ ?side1 ((Kd.R_reads' HO647.out).2.1) A106.out).mono ?_); (case side1 => repeat (first | exact (Kd.R_reads' HO647.out).2.2 | (with_reducible refine Kd.C_alloc ?_ _) | (with_reducible refine Kd.C_drewN ?_ _) | (with_reducible refine Kd.C_drew ?_))); rintro e w136 ⟨rfl, hb⟩; replace HO647 := ak_ (Kd.R_below (kr_ HO647) hb); replace HO653 := ak_ (Kd.R_below (kr_ HO653) hb); replace HO658 := ak_ (Kd.R_below (kr_ HO658) hb); replace HO668 := ak_ (Kd.R_below (kr_ HO668) hb); replace HO676 := ak_ (Kd.R_below (kr_ HO676) hb); replace HO680 := ak_ (Kd.R_below (kr_ HO680) hb); replace HO684 := ak_ (Kd.R_below (kr_ HO684) hb); replace HO687 := ak_ (Kd.R_below (kr_ HO687) hb); replace HO693 := ak_ (Kd.R_below (kr_ HO693) hb); replace HO697 := ak_ (Kd.R_below (kr_ HO697) hb); replace HO719 := ak_ (Kd.R_below (kr_ HO719) hb); replace HO721 := ak_ (Kd.R_below (kr_ HO721) hb); replace BK650 := ak_ (blk_below (g := gb650) (o := .cells #[.string t648, .int .i64 t649] 32 (0, 0)) (bk_ BK650) hb); replace BK690 := ak_ (blk_below (g := gb690) (o := .cells #[.string t688, .int .i64 t689] 23 (0, 0)) (bk_ BK690) hb); replace BK701 := ak_ (blk_below (g := gb701) (o := .cells #[.string t699, .int .i64 t700] 23 (0, 0)) (bk_ BK701) hb); replace BK706 := ak_ (blk_below (g := gb706) (o := .cells #[.string t703, .int .i64 t704] 23 (0, 0)) (bk_ BK706) hb); replace BK711 := ak_ (blk_below (g := gb711) (o := .cells #[.string t708, .int .i64 t709] 23 (0, 0)) (bk_ BK711) hb); replace BK715 := ak_ (blk_below (g := gb715) (o := .cells #[.string t712, .int .i64 t713] 23 (0, 0)) (bk_ BK715) hb); replace HB := ak_ (below_step (by repeat (first | (with_reducible first | exact HB.out | apply below_alloc | apply pw_below_drewN | apply below_drew1 | refine below_set ?_ GE650.out | refine below_set ?_ GE690.out | refine below_set ?_ GE701.out | refine below_set ?_ GE706.out | refine below_set ?_ GE711.out | refine below_set ?_ GE715.out) | exact HB.out)) hb); skip; clear hb) | (go_at_call 34; (with_reducible refine (spec_ValidStockCoils.calls k _ _ t645 t729 _ ?side1 ((Kd.R_reads' HO647.out).2.1) A107.out).mono ?_); (case side1 => repeat (first | exact (Kd.R_reads' HO647.out).2.2 | (with_reducible refine Kd.C_alloc ?_ _) | (with_reducible refine Kd.C_drewN ?_ _) | (with_reducible refine Kd.C_drew ?_))); rintro e w137 ⟨rfl, hb⟩; replace HO647 := ak_ (Kd.R_below (kr_ HO647) hb); replace HO653 := ak_ (Kd.R_below (kr_ HO653) hb); replace HO658 := ak_ (Kd.R_below (kr_ HO658) hb); replace HO668 := ak_ (Kd.R_below (kr_ HO668) hb); replace HO676 := ak_ (Kd.R_below (kr_ HO676) hb); replace HO680 := ak_ (Kd.R_below (kr_ HO680) hb); replace HO684 := ak_ (Kd.R_below (kr_ HO684) hb); replace HO687 := ak_ (Kd.R_below (kr_ HO687) hb); replace HO693 := ak_ (Kd.R_below (kr_ HO693) hb); replace HO697 := ak_ (Kd.R_below (kr_ HO697) hb); replace HO719 := ak_ (Kd.R_below (kr_ HO719) hb); replace HO721 := ak_ (Kd.R_below (kr_ HO721) hb); replace BK650 := ak_ (blk_below (g := gb650) (o := .cells #[.string t648, .int .i64 t649] 32 (0, 0)) (bk_ BK650) hb); replace BK690 := ak_ (blk_below (g := gb690) (o := .cells #[.string t688, .int .i64 t689] 23 (0, 0)) (bk_ BK690) hb); replace BK701 := ak_ (blk_below (g := gb701) (o := .cells #[.string t699, .int .i64 t700] 23 (0, 0)) (bk_ BK701) hb); replace BK706 := ak_ (blk_below (g := gb706) (o := .cells #[.string t703, .int .i64 t704] 23 (0, 0)) (bk_ BK706) hb); replace BK711 := ak_ (blk_below (g := gb711) (o := .cells #[.string t708, .int .i64 t709] 23 (0, 0)) (bk_ BK711) hb); replace BK715 := ak_ (blk_below (g := gb715) (o := .cells #[.string t712, .int .i64 t713] 23 (0, 0)) (bk_ BK715) hb); replace HB := ak_ (below_step (by repeat (first | (with_reducible first | exact HB.out | apply below_alloc | apply pw_below_drewN | apply below_drew1 | refine below_set ?_ GE650.out | refine below_set ?_ GE690.out | refine below_set ?_ GE701.out | refine below_set ?_ GE706.out | refine below_set ?_ GE711.out | refine below_set ?_ GE715.out) | exact HB.out)) hb); skip; clear hb))
   go_meet
   case rel => exact ⟨_, ((t728 != t729)), fr_, H', ⟨by first | omega | exact Nat.le_refl _⟩, ⟨by (with_reducible repeat (first | apply Kd.R_alloc | apply Kd.R_drewN | apply Kd.R_drew)); exact Kd.R_mono HO647.out (fun _ hk => ⟨hk.1.1.1.1.1.1.1.1.1.1.1.1.1.1.1.2, ⟨hk.1.1.1.1.1.1.1.1.1.1.2, ⟨hk.1.1.1.1.1.1.1.1.2, ⟨hk.1.1.1.1.1.2, ⟨hk.1.1.1.1.2, ⟨hk.1.1.1.2, hk.1.1.2⟩⟩⟩⟩⟩⟩)⟩, ⟨by (with_reducible repeat (first | apply Kd.R_alloc | apply Kd.R_drewN | apply Kd.R_drew)); exact Kd.R_mono HO653.out (fun _ hk => ⟨hk.1.1.1.1.1.1.1.1.1.1.1.1.1.1.1.2, ⟨hk.1.1.1.1.1.1.1.1.1.1.2, ⟨hk.1.1.1.1.1.1.1.1.2, ⟨hk.1.1.1.1.1.2, ⟨hk.1.1.1.1.2, ⟨hk.1.1.1.2, hk.1.1.2⟩⟩⟩⟩⟩⟩)⟩, ⟨by (with_reducible repeat (first | apply Kd.R_alloc | apply Kd.R_drewN | apply Kd.R_drew)); exact Kd.R_mono HO684.out (fun _ hk => ⟨hk.1.1.1.1.1.1.1.1.1.1.1.1.1.1.1.2, ⟨hk.1.1.1.1.1.1.1.1.1.1.1.1.1.1.2, ⟨hk.1.1.1.1.1.1.1.1.2, ⟨hk.1.1.1.1.1.2, ⟨hk.1.1.1.1.2, ⟨hk.1.1.1.2, hk.1.1.2⟩⟩⟩⟩⟩⟩)⟩, ⟨by (with_reducible repeat (first | refine blk_drewN ?_ _ | refine blk_drew ?_ | refine blk_alloc ?_ _)); exact BK650.out⟩, ⟨by (with_reducible repeat (first | refine blk_drewN ?_ _ | refine blk_drew ?_ | refine blk_alloc ?_ _)); exact BK690.out⟩, ⟨by (with_reducible repeat (first | refine blk_drewN ?_ _ | refine blk_drew ?_ | refine blk_alloc ?_ _)); exact BK701.out⟩, ⟨by (with_reducible repeat (first | refine blk_drewN ?_ _ | refine blk_drew ?_ | refine blk_alloc ?_ _)); exact BK706.out⟩, ⟨by (with_reducible repeat (first | refine blk_drewN ?_ _ | refine blk_drew ?_ | refine blk_alloc ?_ _)); exact BK711.out⟩, ⟨by (with_reducible repeat (first | refine blk_drewN ?_ _ | refine blk_drew ?_ | refine blk_alloc ?_ _)); exact BK715.out⟩, ⟨by repeat (first | (with_reducible first | exact HB.out | apply below_alloc | apply pw_below_drewN | apply below_drew1 | refine below_set ?_ GE650.out | refine below_set ?_ GE690.out | refine below_set ?_ GE701.out | refine below_set ?_ GE706.out | refine below_set ?_ GE711.out | refine below_set ?_ GE715.out) | exact HB.out)⟩⟩
 case rest =>
  clear HC25
  try clear c1
  try clear p2
  try clear c3
  try clear c4
  try clear c5
  try clear c6
  try clear c7
  try clear c8
  try clear c9
  try clear c10
  try clear c11
  try clear c12
  try clear c13
  try clear c14
  try clear c15
  try clear c16
  try clear c47
  try clear c55
  try clear c56
  try clear c61
  try clear c62
  try clear c63
  try clear c68
  try clear c69
  try clear c70
  try clear c71
  try clear c75
  try clear c76
  try clear c77
  try clear c78
  try clear c79
  try clear c82
  try clear c82b0
  try clear c82b1
  try clear c83
  try clear c83b0
  try clear c83b1
  try clear c85
  try clear c86
  try clear c86b0
  try clear c86b1
  try clear c87
  try clear c87b0
  try clear c87b1
  try clear c88
  try clear c88b0
  try clear c88b1
  try clear c89
  try clear c89b0
  try clear c89b1
  try clear c90
  try clear c90b0
  try clear c90b1
  try clear c92
  try clear c93
  try clear c93b0
  try clear c93b1
  try clear c95
  try clear c97
  try clear c97b0
  try clear c97b1
  try clear c98
  try clear c98b0
  try clear c98b1
  try clear c98b2
  try clear c99
  try clear c100
  try clear c100b0
  try clear c101
  try clear c101b0
  try clear c101b1
  try clear c101b2
  try clear c102
  try clear c102b0
  try clear c105
  try clear c105b0
  try clear c105b1
  try clear c105b2
  try clear c114
  try clear c115
  try clear c116
  try clear c117
  try clear c118
  try clear c121
  try clear c122
  try clear c123
  try clear c124
  try clear c127
  try clear c128
  try clear c129
  try clear c131
  try clear c132
  try clear c138
  try clear c138b0
  try clear c138b1
  try clear c138b2
  try clear c139
  try clear c139b0
  try clear c142
  try clear c142b0
  try clear c142b1
  try clear c142b2
  try clear c151
  try clear c152
  try clear c153
  try clear c154
  try clear c155
  try clear c158
  try clear c159
  try clear c160
  try clear c161
  try clear c163
  try clear c164
  try clear c165
  try clear hcz119_0
  try clear hcz119_1
  try clear hcz125_0
  try clear hcz125_1
  try clear hcz126_0
  try clear hcz126_1
  try clear hcz130_0
  try clear hcz130_1
  try clear hcz133_0
  try clear hcz133_1
  try clear hcz156_0
  try clear hcz156_1
  try clear hcz162_0
  try clear hcz162_1
  try clear hcz166_0
  try clear hcz166_1
  try clear hcz28_0
  try clear hcz28_1
  try clear hcz31_0
  try clear hcz31_1
  try clear hcz33_0
  try clear hcz33_1
  try clear hcz35_0
  try clear hcz35_1
  try clear hcz48_0
  try clear hcz48_1
  try clear hcz51_0
  try clear hcz51_1
  try clear hcz57_0
  try clear hcz57_1
  try clear hcz64_0
  try clear hcz64_1
  try clear hcz72_0
  try clear hcz72_1
  try clear hcz80_0
  try clear hcz80_1
  try clear hfz119_0
  try clear hfz119_1
  try clear hfz125_0
  try clear hfz125_1
  try clear hfz126_0
  try clear hfz126_1
  try clear hfz130_0
  try clear hfz130_1
  try clear hfz133_0
  try clear hfz133_1
  try clear hfz156_0
  try clear hfz156_1
  try clear hfz162_0
  try clear hfz162_1
  try clear hfz166_0
  try clear hfz166_1
  try clear hfz28_0
  try clear hfz28_1
  try clear hfz31_0
  try clear hfz31_1
  try clear hfz33_0
  try clear hfz33_1
  try clear hfz35_0
  try clear hfz35_1
  try clear hfz48_0
  try clear hfz48_1
  try clear hfz51_0
  try clear hfz51_1
  try clear hfz57_0
  try clear hfz57_1
  try clear hfz64_0
  try clear hfz64_1
  try clear hfz72_0
  try clear hfz72_1
  try clear hfz80_0
  try clear hfz80_1
  obtain ⟨kq, x261_24, rfl, HA, HJ24, HO_3, HO_5, HO_25, BK650, BK690, BK701, BK706, BK711, BK715, HB⟩ := hcut
  cases kq with
  | zero => exact absurd HA.out (by simp [laws_FnCoils.j0])
  | succ kj24 =>
   have H := HA.out
   clear HA
   simp only [laws_FnCoils.j0] at H
   by_cases c171 : x261_24 = true
   ·subst c171
    have H1 : (none) = some r := by rw [if_pos rfl] at H; exact H
    clear H
    have H := H1
    clear H1
    exact absurd H (by simp)
   ·as_aux_lemma =>
     replace c171 := Bool.eq_false_iff.mpr c171
     subst c171
     have H1 : (laws_FnCoils.l0 kj24 t645 t651 t655 t659 t662 t663 t674 t681 0 t648 t649) = some r := by rw [if_neg (show ¬ (false = true) by decide)] at H; exact H
     clear H
     have H := H1
     clear H1
     have H' := ak_ H
     clear H
     go_wp2
     repeat (go_quiet (fail); try go_wp2)
     go_loopg [44] kj24 (fun kq v44 w' => ∃ (x44_2 : Int), v44 = .int .i64 x44_2 ∧ Aside0 (laws_FnCoils.l0 kq t645 t651 t655 t659 t662 t663 t674 t681 x44_2 t648 t649 = some r) ∧ Aside0 (kq ≤ kj24) ∧ Aside0 (Kd.R k23 23 w' w.heap.size (fun k_ => some k_ ≠ (v652 : Value).ownBlock ∧ some k_ ≠ (v683 : Value).ownBlock ∧ k_ ≠ gb690 ∧ k_ ≠ gb701 ∧ k_ ≠ gb706 ∧ k_ ≠ gb711 ∧ k_ ≠ gb715) (.slice Ao29 t645.length co29) t645) ∧ Aside0 (Kd.R k23 23 w' w.heap.size (fun k_ => some k_ ≠ ((.slice Ao29 t645.length co29) : Value).ownBlock ∧ some k_ ≠ (v683 : Value).ownBlock ∧ k_ ≠ gb690 ∧ k_ ≠ gb701 ∧ k_ ≠ gb706 ∧ k_ ≠ gb711 ∧ k_ ≠ gb715) v652 t651) ∧ Aside0 (Kd.R k23 23 w' w.heap.size (fun k_ => some k_ ≠ ((.slice Ao29 t645.length co29) : Value).ownBlock ∧ some k_ ≠ (v652 : Value).ownBlock ∧ k_ ≠ gb690 ∧ k_ ≠ gb701 ∧ k_ ≠ gb706 ∧ k_ ≠ gb711 ∧ k_ ≠ gb715) v683 t681) ∧ Aside0 (w'.heap[gb650]? = some (.cells #[.string t648, .int .i64 t649] 32 (0, 0))) ∧ Aside0 (w'.heap[gb690]? = some (.cells #[.string t688, .int .i64 t689] 23 (0, 0))) ∧ Aside0 (w'.heap[gb701]? = some (.cells #[.string t699, .int .i64 t700] 23 (0, 0))) ∧ Aside0 (w'.heap[gb706]? = some (.cells #[.string t703, .int .i64 t704] 23 (0, 0))) ∧ Aside0 (w'.heap[gb711]? = some (.cells #[.string t708, .int .i64 t709] 23 (0, 0))) ∧ Aside0 (w'.heap[gb715]? = some (.cells #[.string t712, .int .i64 t713] 23 (0, 0))) ∧ Aside0 (Below w.heap.size w w'))
     case atStart => exact ⟨(0), fr_, H', ⟨Nat.le_refl _⟩, ⟨kr_ HO_3⟩, ⟨kr_ HO_5⟩, ⟨kr_ HO_25⟩, ⟨by (with_reducible repeat (first | refine blk_drewN ?_ _ | refine blk_drew ?_ | refine blk_alloc ?_ _)); exact BK650.out⟩, ⟨by (with_reducible repeat (first | refine blk_drewN ?_ _ | refine blk_drew ?_ | refine blk_alloc ?_ _)); exact BK690.out⟩, ⟨by (with_reducible repeat (first | refine blk_drewN ?_ _ | refine blk_drew ?_ | refine blk_alloc ?_ _)); exact BK701.out⟩, ⟨by (with_reducible repeat (first | refine blk_drewN ?_ _ | refine blk_drew ?_ | refine blk_alloc ?_ _)); exact BK706.out⟩, ⟨by (with_reducible repeat (first | refine blk_drewN ?_ _ | refine blk_drew ?_ | refine blk_alloc ?_ _)); exact BK711.out⟩, ⟨by (with_reducible repeat (first | refine blk_drewN ?_ _ | refine blk_drew ?_ | refine blk_alloc ?_ _)); exact BK715.out⟩, ⟨by repeat (first | (with_reducible first | exact HB.out | apply below_alloc | apply pw_below_drewN | apply below_drew1 | refine below_set ?_ GE650.out | refine below_set ?_ GE690.out | refine below_set ?_ GE701.out | refine below_set ?_ GE706.out | refine below_set ?_ GE711.out | refine below_set ?_ GE715.out) | exact HB.out)⟩⟩
     case round =>
      clear H'
      try clear c1
      try clear p2
      try clear c3
      try clear c4
      try clear c5
      try clear c6
      try clear c7
      try clear c8
      try clear c9
      try clear c10
      try clear c11
      try clear c12
      try clear c13
      try clear c14
      try clear c15
      try clear c16
      try clear c17
      try clear c47
      try clear c55
      try clear c56
      try clear c61
      try clear c62
      try clear c63
      try clear c68
      try clear c69
      try clear c70
      try clear c71
      try clear c75
      try clear c76
      try clear c77
      try clear c78
      try clear c79
      try clear c82
      try clear c82b0
      try clear c82b1
      try clear c83
      try clear c83b0
      try clear c83b1
      try clear c85
      try clear c86
      try clear c86b0
      try clear c86b1
      try clear c87
      try clear c87b0
      try clear c87b1
      try clear c88
      try clear c88b0
      try clear c88b1
      try clear c89
      try clear c89b0
      try clear c89b1
      try clear c90
      try clear c90b0
      try clear c90b1
      try clear c92
      try clear c93
      try clear c93b0
      try clear c93b1
      try clear c95
      try clear c97
      try clear c97b0
      try clear c97b1
      try clear c98
      try clear c98b0
      try clear c98b1
      try clear c98b2
      try clear c99
      try clear c100
      try clear c100b0
      try clear c101
      try clear c101b0
      try clear c101b1
      try clear c101b2
      try clear c102
      try clear c102b0
      try clear c105
      try clear c105b0
      try clear c105b1
      try clear c105b2
      try clear c114
      try clear c115
      try clear c116
      try clear c117
      try clear c118
      try clear c121
      try clear c122
      try clear c123
      try clear c124
      try clear c127
      try clear c128
      try clear c129
      try clear c131
      try clear c132
      try clear c138
      try clear c138b0
      try clear c138b1
      try clear c138b2
      try clear c139
      try clear c139b0
      try clear c142
      try clear c142b0
      try clear c142b1
      try clear c142b2
      try clear c151
      try clear c152
      try clear c153
      try clear c154
      try clear c155
      try clear c158
      try clear c159
      try clear c160
      try clear c161
      try clear c163
      try clear c164
      try clear c165
      try clear c171
      try clear hcz119_0
      try clear hcz119_1
      try clear hcz125_0
      try clear hcz125_1
      try clear hcz126_0
      try clear hcz126_1
      try clear hcz130_0
      try clear hcz130_1
      try clear hcz133_0
      try clear hcz133_1
      try clear hcz156_0
      try clear hcz156_1
      try clear hcz162_0
      try clear hcz162_1
      try clear hcz166_0
      try clear hcz166_1
      try clear hcz28_0
      try clear hcz28_1
      try clear hcz31_0
      try clear hcz31_1
      try clear hcz33_0
      try clear hcz33_1
      try clear hcz35_0
      try clear hcz35_1
      try clear hcz48_0
      try clear hcz48_1
      try clear hcz51_0
      try clear hcz51_1
      try clear hcz57_0
      try clear hcz57_1
      try clear hcz64_0
      try clear hcz64_1
      try clear hcz72_0
      try clear hcz72_1
      try clear hcz80_0
      try clear hcz80_1
      try clear hfz119_0
      try clear hfz119_1
      try clear hfz125_0
      try clear hfz125_1
      try clear hfz126_0
      try clear hfz126_1
      try clear hfz130_0
      try clear hfz130_1
      try clear hfz133_0
      try clear hfz133_1
      try clear hfz156_0
      try clear hfz156_1
      try clear hfz162_0
      try clear hfz162_1
      try clear hfz166_0
      try clear hfz166_1
      try clear hfz28_0
      try clear hfz28_1
      try clear hfz31_0
      try clear hfz31_1
      try clear hfz33_0
      try clear hfz33_1
      try clear hfz35_0
      try clear hfz35_1
      try clear hfz48_0
      try clear hfz48_1
      try clear hfz51_0
      try clear hfz51_1
      try clear hfz57_0
      try clear hfz57_1
      try clear hfz64_0
      try clear hfz64_1
      try clear hfz72_0
      try clear hfz72_1
      try clear hfz80_0
      try clear hfz80_1
      try clear p2
      obtain ⟨x44_2, rfl, HA, HK2, HO_3, HO_5, HO_25, BK650, BK690, BK701, BK706, BK711, BK715, HB⟩ := hrel
      cases gk with
      | zero => exact absurd HA.out (by simp [laws_FnCoils.l0])
      | succ k2 =>
       have H := HA.out
       clear HA
       simp only [laws_FnCoils.l0] at H
       by_cases c172 : x44_2 < (t681.length : Int)
       ·rw [if_pos c172] at H
        have c172b0 : decide (x44_2 < (t681.length : Int)) = true := dt_ c172
        clear c172
        by_cases c173 : 0 ≤ x44_2
        ·rw [if_pos c173] at H
         have c173b0 : decide (0 ≤ x44_2) = true := dt_ c173
         clear c173
         by_cases c174 : ((rd_T23 t681 x44_2).f1) < t674
         ·rw [if_pos c174] at H
          exact absurd H (by simp)
         ·rw [if_neg c174] at H
          have c174b0 : decide (((rd_T23 t681 x44_2).f1) < t674) = false := decide_eq_false c174
          clear c174
          have H' := ak_ H
          clear H
          obtain ⟨Ao175, co175, eo175⟩ := Kd.R_slice HO_25.out
          subst eo175
          have p734 : 0 ≤ (x44_2 : Int) := od_
          have q734 : x44_2 < (t681.length : Int) := od_
          obtain ⟨ad734, e734, hx734_0, hx734_1⟩ := at_T23 (Kd.R_reads' HO_25.out).2.2 x44_2 p734 q734
          cases e734
          replace p734 := eq_true p734
          replace q734 := eq_true q734
          go_wp2
          repeat (go_quiet (fail); try go_wp2)
          go_roundg k2
          case measure => have := HJ24.out; have := HK2.out; omega
          case rel => exact ⟨(wrap64 (x44_2 + 1)), fr_, H', ⟨by have := HJ24.out; have := HK2.out; omega⟩, ⟨kr_ HO_3⟩, ⟨kr_ HO_5⟩, ⟨kr_ HO_25⟩, ⟨by (with_reducible repeat (first | refine blk_drewN ?_ _ | refine blk_drew ?_ | refine blk_alloc ?_ _)); exact BK650.out⟩, ⟨by (with_reducible repeat (first | refine blk_drewN ?_ _ | refine blk_drew ?_ | refine blk_alloc ?_ _)); exact BK690.out⟩, ⟨by (with_reducible repeat (first | refine blk_drewN ?_ _ | refine blk_drew ?_ | refine blk_alloc ?_ _)); exact BK701.out⟩, ⟨by (with_reducible repeat (first | refine blk_drewN ?_ _ | refine blk_drew ?_ | refine blk_alloc ?_ _)); exact BK706.out⟩, ⟨by (with_reducible repeat (first | refine blk_drewN ?_ _ | refine blk_drew ?_ | refine blk_alloc ?_ _)); exact BK711.out⟩, ⟨by (with_reducible repeat (first | refine blk_drewN ?_ _ | refine blk_drew ?_ | refine blk_alloc ?_ _)); exact BK715.out⟩, ⟨by repeat (first | (with_reducible first | exact HB.out | apply below_alloc | apply pw_below_drewN | apply below_drew1 | refine below_set ?_ GE650.out | refine below_set ?_ GE690.out | refine below_set ?_ GE701.out | refine below_set ?_ GE706.out | refine below_set ?_ GE711.out | refine below_set ?_ GE715.out) | exact HB.out)⟩⟩
        ·rw [if_neg c173] at H
         exact absurd H (by simp)
       ·as_aux_lemma =>
         rw [if_neg c172] at H
         have c172b0 : decide (x44_2 < (t681.length : Int)) = false := decide_eq_false c172
         clear c172
         have HC176 := ak_ H
         clear H
         obtain ⟨Ao177, co177, eo177⟩ := Kd.R_slice HO_25.out
         subst eo177
         go_upto_region 31 with (fail)
         repeat (go_quiet (fail); go_upto_region 31 with (fail))
         go_cut [286] (fun v286 wc => ∃ (kq : Nat) (x286_175 : Bool), v286 = .bool x286_175 ∧ Aside0 (laws_FnCoils.j2 kq t645 t651 t655 t663 x286_175 t648 t649 = some r) ∧ Aside0 (kq ≤ k2) ∧ Aside0 (Kd.R k23 23 wc w.heap.size (fun k_ => some k_ ≠ (v652 : Value).ownBlock ∧ k_ ≠ gb690 ∧ k_ ≠ gb701 ∧ k_ ≠ gb706 ∧ k_ ≠ gb711 ∧ k_ ≠ gb715) (.slice Ao29 t645.length co29) t645) ∧ Aside0 (Kd.R k23 23 wc w.heap.size (fun k_ => some k_ ≠ ((.slice Ao29 t645.length co29) : Value).ownBlock ∧ k_ ≠ gb690 ∧ k_ ≠ gb701 ∧ k_ ≠ gb706 ∧ k_ ≠ gb711 ∧ k_ ≠ gb715) v652 t651) ∧ Aside0 (wc.heap[gb650]? = some (.cells #[.string t648, .int .i64 t649] 32 (0, 0))) ∧ Aside0 (wc.heap[gb690]? = some (.cells #[.string t688, .int .i64 t689] 23 (0, 0))) ∧ Aside0 (wc.heap[gb701]? = some (.cells #[.string t699, .int .i64 t700] 23 (0, 0))) ∧ Aside0 (wc.heap[gb706]? = some (.cells #[.string t703, .int .i64 t704] 23 (0, 0))) ∧ Aside0 (wc.heap[gb711]? = some (.cells #[.string t708, .int .i64 t709] 23 (0, 0))) ∧ Aside0 (wc.heap[gb715]? = some (.cells #[.string t712, .int .i64 t713] 23 (0, 0))) ∧ Aside0 (Below w.heap.size w wc))
         case first =>
          have H := HC176.out
          clear HC176
          by_cases c178 : t655 = t662
          ·rw [if_pos c178] at H
           have c178b0 : (t655 == t662) = true := beq_iff_eq.mpr c178
           have c178b1 : (t655 != t662) = false := bne_eq_false_iff_eq.mpr c178
           clear c178
           (first | rw [c178b0] | (simp only [i64_w, i32_w]; rw [c178b0]) | skip)
           by_cases c179 : t655 = 0
           ·rw [if_pos c179] at H
            have c179b0 : (t655 == 0) = true := beq_iff_eq.mpr c179
            have c179b1 : (t655 != 0) = false := bne_eq_false_iff_eq.mpr c179
            clear c179
            have H' := ak_ H
            clear H
            go_wp2
            repeat (go_quiet (fail); try go_wp2)
            go_meet
            case rel => exact ⟨_, ((t659 != t663)), fr_, H', ⟨by have := HJ24.out; have := HK2.out; first | omega | exact Nat.le_refl _⟩, ⟨by (with_reducible repeat (first | apply Kd.R_alloc | apply Kd.R_drewN | apply Kd.R_drew)); exact Kd.R_mono HO_3.out (fun _ hk => ⟨hk.1, ⟨hk.2.2.1, ⟨hk.2.2.2.1, ⟨hk.2.2.2.2.1, ⟨hk.2.2.2.2.2.1, hk.2.2.2.2.2.2⟩⟩⟩⟩⟩)⟩, ⟨by (with_reducible repeat (first | apply Kd.R_alloc | apply Kd.R_drewN | apply Kd.R_drew)); exact Kd.R_mono HO_5.out (fun _ hk => ⟨hk.1, ⟨hk.2.2.1, ⟨hk.2.2.2.1, ⟨hk.2.2.2.2.1, ⟨hk.2.2.2.2.2.1, hk.2.2.2.2.2.2⟩⟩⟩⟩⟩)⟩, ⟨by (with_reducible repeat (first | refine blk_drewN ?_ _ | refine blk_drew ?_ | refine blk_alloc ?_ _)); exact BK650.out⟩, ⟨by (with_reducible repeat (first | refine blk_drewN ?_ _ | refine blk_drew ?_ | refine blk_alloc ?_ _)); exact BK690.out⟩, ⟨by (with_reducible repeat (first | refine blk_drewN ?_ _ | refine blk_drew ?_ | refine blk_alloc ?_ _)); exact BK701.out⟩, ⟨by (with_reducible repeat (first | refine blk_drewN ?_ _ | refine blk_drew ?_ | refine blk_alloc ?_ _)); exact BK706.out⟩, ⟨by (with_reducible repeat (first | refine blk_drewN ?_ _ | refine blk_drew ?_ | refine blk_alloc ?_ _)); exact BK711.out⟩, ⟨by (with_reducible repeat (first | refine blk_drewN ?_ _ | refine blk_drew ?_ | refine blk_alloc ?_ _)); exact BK715.out⟩, ⟨by repeat (first | (with_reducible first | exact HB.out | apply below_alloc | apply pw_below_drewN | apply below_drew1 | refine below_set ?_ GE650.out | refine below_set ?_ GE690.out | refine below_set ?_ GE701.out | refine below_set ?_ GE706.out | refine below_set ?_ GE711.out | refine below_set ?_ GE715.out) | exact HB.out)⟩⟩
           ·rw [if_neg c179] at H
            have c179b0 : (t655 == 0) = false := beq_eq_false_iff_ne.mpr c179
            have c179b1 : (t655 != 0) = true := bne_iff_ne.mpr c179
            have H' := ak_ H
            clear H
            go_wp2
            repeat (go_quiet (fail); try go_wp2)
            go_meet
            case rel => exact ⟨_, (false), fr_, H', ⟨by have := HJ24.out; have := HK2.out; first | omega | exact Nat.le_refl _⟩, ⟨by (with_reducible repeat (first | apply Kd.R_alloc | apply Kd.R_drewN | apply Kd.R_drew)); exact Kd.R_mono HO_3.out (fun _ hk => ⟨hk.1, ⟨hk.2.2.1, ⟨hk.2.2.2.1, ⟨hk.2.2.2.2.1, ⟨hk.2.2.2.2.2.1, hk.2.2.2.2.2.2⟩⟩⟩⟩⟩)⟩, ⟨by (with_reducible repeat (first | apply Kd.R_alloc | apply Kd.R_drewN | apply Kd.R_drew)); exact Kd.R_mono HO_5.out (fun _ hk => ⟨hk.1, ⟨hk.2.2.1, ⟨hk.2.2.2.1, ⟨hk.2.2.2.2.1, ⟨hk.2.2.2.2.2.1, hk.2.2.2.2.2.2⟩⟩⟩⟩⟩)⟩, ⟨by (with_reducible repeat (first | refine blk_drewN ?_ _ | refine blk_drew ?_ | refine blk_alloc ?_ _)); exact BK650.out⟩, ⟨by (with_reducible repeat (first | refine blk_drewN ?_ _ | refine blk_drew ?_ | refine blk_alloc ?_ _)); exact BK690.out⟩, ⟨by (with_reducible repeat (first | refine blk_drewN ?_ _ | refine blk_drew ?_ | refine blk_alloc ?_ _)); exact BK701.out⟩, ⟨by (with_reducible repeat (first | refine blk_drewN ?_ _ | refine blk_drew ?_ | refine blk_alloc ?_ _)); exact BK706.out⟩, ⟨by (with_reducible repeat (first | refine blk_drewN ?_ _ | refine blk_drew ?_ | refine blk_alloc ?_ _)); exact BK711.out⟩, ⟨by (with_reducible repeat (first | refine blk_drewN ?_ _ | refine blk_drew ?_ | refine blk_alloc ?_ _)); exact BK715.out⟩, ⟨by repeat (first | (with_reducible first | exact HB.out | apply below_alloc | apply pw_below_drewN | apply below_drew1 | refine below_set ?_ GE650.out | refine below_set ?_ GE690.out | refine below_set ?_ GE701.out | refine below_set ?_ GE706.out | refine below_set ?_ GE711.out | refine below_set ?_ GE715.out) | exact HB.out)⟩⟩
          ·rw [if_neg c178] at H
           exact absurd H (by simp)
         case rest =>
          clear HC176
          try clear c1
          try clear p2
          try clear c3
          try clear c4
          try clear c5
          try clear c6
          try clear p6
          try clear c7
          try clear p7
          try clear q7
          try clear hx7
          try clear c8
          try clear c9
          try clear c10
          try clear c11
          try clear c12
          try clear c13
          try clear c14
          try clear c15
          try clear c16
          try clear c17
          try clear c47
          try clear c55
          try clear c56
          try clear c61
          try clear c62
          try clear c63
          try clear p64
          try clear c68
          try clear c69
          try clear c70
          try clear c71
          try clear p73
          try clear q73
          try clear hx73
          try clear c75
          try clear c76
          try clear c77
          try clear c78
          try clear c79
          try clear c82
          try clear c82b0
          try clear c82b1
          try clear c83
          try clear c83b0
          try clear c83b1
          try clear c85
          try clear c86
          try clear c86b0
          try clear c86b1
          try clear c87
          try clear c87b0
          try clear c87b1
          try clear c88
          try clear c88b0
          try clear c88b1
          try clear c89
          try clear c89b0
          try clear c89b1
          try clear c90
          try clear c90b0
          try clear c90b1
          try clear c92
          try clear c93
          try clear c93b0
          try clear c93b1
          try clear c95
          try clear c97
          try clear c97b0
          try clear c97b1
          try clear c98
          try clear c98b0
          try clear c98b1
          try clear c98b2
          try clear c99
          try clear c100
          try clear c100b0
          try clear c101
          try clear c101b0
          try clear c101b1
          try clear c101b2
          try clear c102
          try clear c102b0
          try clear c105
          try clear c105b0
          try clear c105b1
          try clear c105b2
          try clear c114
          try clear c115
          try clear c116
          try clear c117
          try clear c118
          try clear c121
          try clear c122
          try clear c123
          try clear c124
          try clear c127
          try clear c128
          try clear c129
          try clear c131
          try clear c132
          try clear c138
          try clear c138b0
          try clear c138b1
          try clear c138b2
          try clear c139
          try clear c139b0
          try clear c142
          try clear c142b0
          try clear c142b1
          try clear c142b2
          try clear c151
          try clear c152
          try clear c153
          try clear c154
          try clear c155
          try clear c158
          try clear c159
          try clear c160
          try clear c161
          try clear c163
          try clear c164
          try clear c165
          try clear c171
          try clear c172
          try clear c172b0
          try clear c173
          try clear c173b0
          try clear c174
          try clear c174b0
          try clear c178
          try clear c178b0
          try clear c178b1
          try clear c179
          try clear c179b0
          try clear c179b1
          try clear hcz119_0
          try clear hcz119_1
          try clear hcz125_0
          try clear hcz125_1
          try clear hcz126_0
          try clear hcz126_1
          try clear hcz130_0
          try clear hcz130_1
          try clear hcz133_0
          try clear hcz133_1
          try clear hcz156_0
          try clear hcz156_1
          try clear hcz162_0
          try clear hcz162_1
          try clear hcz166_0
          try clear hcz166_1
          try clear hcz28_0
          try clear hcz28_1
          try clear hcz31_0
          try clear hcz31_1
          try clear hcz33_0
          try clear hcz33_1
          try clear hcz35_0
          try clear hcz35_1
          try clear hcz48_0
          try clear hcz48_1
          try clear hcz51_0
          try clear hcz51_1
          try clear hcz57_0
          try clear hcz57_1
          try clear hcz64_0
          try clear hcz64_1
          try clear hcz72_0
          try clear hcz72_1
          try clear hcz80_0
          try clear hcz80_1
          try clear hfz119_0
          try clear hfz119_1
          try clear hfz125_0
          try clear hfz125_1
          try clear hfz126_0
          try clear hfz126_1
          try clear hfz130_0
          try clear hfz130_1
          try clear hfz133_0
          try clear hfz133_1
          try clear hfz156_0
          try clear hfz156_1
          try clear hfz162_0
          try clear hfz162_1
          try clear hfz166_0
          try clear hfz166_1
          try clear hfz28_0
          try clear hfz28_1
          try clear hfz31_0
          try clear hfz31_1
          try clear hfz33_0
          try clear hfz33_1
          try clear hfz35_0
          try clear hfz35_1
          try clear hfz48_0
          try clear hfz48_1
          try clear hfz51_0
          try clear hfz51_1
          try clear hfz57_0
          try clear hfz57_1
          try clear hfz64_0
          try clear hfz64_1
          try clear hfz72_0
          try clear hfz72_1
          try clear hfz80_0
          try clear hfz80_1
          try clear hx734_0
          try clear hx734_1
          try clear p2
          try clear p734
          try clear q734
          obtain ⟨kq, x286_175, rfl, HA, HJ175, HO_3, HO_5, BK650, BK690, BK701, BK706, BK711, BK715, HB⟩ := hcut
          cases kq with
          | zero => exact absurd HA.out (by simp [laws_FnCoils.j2])
          | succ kj175 =>
           have H := HA.out
           clear HA
           simp only [laws_FnCoils.j2] at H
           by_cases c180 : x286_175 = true
           ·subst c180
            have H1 : (none) = some r := by rw [if_pos rfl] at H; exact H
            clear H
            have H := H1
            clear H1
            exact absurd H (by simp)
           ·replace c180 := Bool.eq_false_iff.mpr c180
            subst c180
            have H1 : (if t655 = 0 then ((impl_LeftOf.f kj175 t645 t648).bind fun bt735 => ((impl_LeftOf.f kj175 t651 t648).bind fun bt737 => (if bt735.2 = 0 then (if bt737.2 = 0 then (if (wrap64 (bt735.1 - bt737.1)) = t649 then (laws_FnCoils.l1 kj175 t645 t663 0 t648 t649) else (none)) else (none)) else (none)))) else (some true)) = some r := by rw [if_neg (show ¬ (false = true) by decide)] at H; exact H
            clear H
            have H := H1
            clear H1
            by_cases c181 : t655 = 0
            ·rw [if_pos c181] at H
             have c181b0 : (t655 == 0) = true := beq_iff_eq.mpr c181
             have c181b1 : (t655 != 0) = false := bne_eq_false_iff_eq.mpr c181
             clear c181
             replace H := ob_ H
             obtain ⟨⟨t735, t736⟩, A1820, H⟩ := H
             (try dsimp only at H)
             have A182 := ak_ A1820
             clear A1820
             replace H := ob_ H
             obtain ⟨⟨t737, t738⟩, A1830, H⟩ := H
             (try dsimp only at H)
             have A183 := ak_ A1830
             clear A1830
             by_cases c184 : t736 = 0
             ·as_aux_lemma =>
               rw [if_pos c184] at H
               have c184b0 : (t736 == 0) = true := beq_iff_eq.mpr c184
               have c184b1 : (t736 != 0) = false := bne_eq_false_iff_eq.mpr c184
               clear c184
               by_cases c185 : t738 = 0
               ·rw [if_pos c185] at H
                have c185b0 : (t738 == 0) = true := beq_iff_eq.mpr c185
                have c185b1 : (t738 != 0) = false := bne_eq_false_iff_eq.mpr c185
                clear c185
                by_cases c186 : (wrap64 (t735 - t737)) = t649
                ·rw [if_pos c186] at H
                 have c186b0 : ((wrap64 (t735 - t737)) == t649) = true := beq_iff_eq.mpr c186
                 have c186b1 : ((wrap64 (t735 - t737)) != t649) = false := bne_eq_false_iff_eq.mpr c186
                 clear c186
                 have H' := ak_ H
                 clear H
                 have hnb187 := NB650_690.out
                 have hnc187 := NB690_650.out
                 have hnb188 := NB650_701.out
                 have hnc188 := NB701_650.out
                 have hnb189 := NB650_706.out
                 have hnc189 := NB706_650.out
                 have hnb190 := NB650_711.out
                 have hnc190 := NB711_650.out
                 have hnb191 := NB650_715.out
                 have hnc191 := NB715_650.out
                 have hcz192_0 : wc.cell? ⟨gb650, 0, none⟩ = some (.string t648) := (blk_cell BK650.out 0).trans rfl
                 have hcz192_1 : wc.cell? ⟨gb650, 1, none⟩ = some (.int .i64 t649) := (blk_cell BK650.out 1).trans rfl
                 have hfz192_0 := blk_frozen BK650.out 0
                 have hfz192_1 := blk_frozen BK650.out 1
                 go_wp2_with (first | (go_at_call 18; (with_reducible refine (impl_LeftOf.calls kj175 _ _ t645 t648 t735 t736 _ ?side1 ((Kd.R_reads' HO_3.out).2.1) A182.out).mono ?_); (case side1 => repeat (first | exact (Kd.R_reads' HO_3.out).2.2 | (with_reducible refine Kd.C_alloc ?_ _) | (with_reducible refine Kd.C_drewN ?_ _) | (with_reducible refine Kd.C_drew ?_))); rintro e w193 ⟨rfl, hb⟩; replace HO_3 := ak_ (Kd.R_below (kr_ HO_3) hb); replace HO_5 := ak_ (Kd.R_below (kr_ HO_5) hb); replace BK650 := ak_ (blk_below (g := gb650) (o := .cells #[.string t648, .int .i64 t649] 32 (0, 0)) (bk_ BK650) hb); replace BK690 := ak_ (blk_below (g := gb690) (o := .cells #[.string t688, .int .i64 t689] 23 (0, 0)) (bk_ BK690) hb); replace BK701 := ak_ (blk_below (g := gb701) (o := .cells #[.string t699, .int .i64 t700] 23 (0, 0)) (bk_ BK701) hb); replace BK706 := ak_ (blk_below (g := gb706) (o := .cells #[.string t703, .int .i64 t704] 23 (0, 0)) (bk_ BK706) hb); replace BK711 := ak_ (blk_below (g := gb711) (o := .cells #[.string t708, .int .i64 t709] 23 (0, 0)) (bk_ BK711) hb); replace BK715 := ak_ (blk_below (g := gb715) (o := .cells #[.string t712, .int .i64 t713] 23 (0, 0)) (bk_ BK715) hb); replace HB := ak_ (below_step (by repeat (first | (with_reducible first | exact HB.out | apply below_alloc | apply pw_below_drewN | apply below_drew1 | refine below_set ?_ GE650.out | refine below_set ?_ GE690.out | refine below_set ?_ GE701.out | refine below_set ?_ GE706.out | refine below_set ?_ GE711.out | refine below_set ?_ GE715.out) | exact HB.out)) hb); skip; (try clear hb); (try clear hb2); (try clear hk); (try clear hi); have hcz194_0 : w193.cell? ⟨gb650, 0, none⟩ = some (.string t648) := (blk_cell BK650.out 0).trans rfl; have hcz194_1 : w193.cell? ⟨gb650, 1, none⟩ = some (.int .i64 t649) := (blk_cell BK650.out 1).trans rfl; have hfz194_0 := blk_frozen BK650.out 0; have hfz194_1 := blk_frozen BK650.out 1; obtain ⟨Ao195, co195, eo195⟩ := Kd.R_slice HO_5.out; subst eo195) | (go_at_call 18; (with_reducible refine (impl_LeftOf.calls kj175 _ _ t651 t648 t737 t738 _ ?side1 ((Kd.R_reads' HO_5.out).2.1) A183.out).mono ?_); (case side1 => repeat (first | exact (Kd.R_reads' HO_5.out).2.2 | (with_reducible refine Kd.C_alloc ?_ _) | (with_reducible refine Kd.C_drewN ?_ _) | (with_reducible refine Kd.C_drew ?_))); rintro e w196 ⟨rfl, hb⟩; replace HO_3 := ak_ (Kd.R_below (kr_ HO_3) hb); replace HO_5 := ak_ (Kd.R_below (kr_ HO_5) hb); replace BK650 := ak_ (blk_below (g := gb650) (o := .cells #[.string t648, .int .i64 t649] 32 (0, 0)) (bk_ BK650) hb); replace BK690 := ak_ (blk_below (g := gb690) (o := .cells #[.string t688, .int .i64 t689] 23 (0, 0)) (bk_ BK690) hb); replace BK701 := ak_ (blk_below (g := gb701) (o := .cells #[.string t699, .int .i64 t700] 23 (0, 0)) (bk_ BK701) hb); replace BK706 := ak_ (blk_below (g := gb706) (o := .cells #[.string t703, .int .i64 t704] 23 (0, 0)) (bk_ BK706) hb); replace BK711 := ak_ (blk_below (g := gb711) (o := .cells #[.string t708, .int .i64 t709] 23 (0, 0)) (bk_ BK711) hb); replace BK715 := ak_ (blk_below (g := gb715) (o := .cells #[.string t712, .int .i64 t713] 23 (0, 0)) (bk_ BK715) hb); replace HB := ak_ (below_step (by repeat (first | (with_reducible first | exact HB.out | apply below_alloc | apply pw_below_drewN | apply below_drew1 | refine below_set ?_ GE650.out | refine below_set ?_ GE690.out | refine below_set ?_ GE701.out | refine below_set ?_ GE706.out | refine below_set ?_ GE711.out | refine below_set ?_ GE715.out) | exact HB.out)) hb); skip; (try clear hb); (try clear hb2); (try clear hk); (try clear hi); have hcz197_0 : w196.cell? ⟨gb650, 0, none⟩ = some (.string t648) := (blk_cell BK650.out 0).trans rfl; have hcz197_1 : w196.cell? ⟨gb650, 1, none⟩ = some (.int .i64 t649) := (blk_cell BK650.out 1).trans rfl; have hfz197_0 := blk_frozen BK650.out 0; have hfz197_1 := blk_frozen BK650.out 1))
                 go_loopg [49] kj175 (fun kq v49 w' => ∃ (x49_4 : Int), v49 = .int .i64 x49_4 ∧ Aside0 (laws_FnCoils.l1 kq t645 t663 x49_4 t648 t649 = some r) ∧ Aside0 (kq ≤ kj175) ∧ Aside0 (Kd.R k23 23 w' w.heap.size (fun k_ => k_ ≠ gb690 ∧ k_ ≠ gb701 ∧ k_ ≠ gb706 ∧ k_ ≠ gb711 ∧ k_ ≠ gb715) (.slice Ao29 t645.length co29) t645) ∧ Aside0 (w'.heap[gb650]? = some (.cells #[.string t648, .int .i64 t649] 32 (0, 0))) ∧ Aside0 (w'.heap[gb690]? = some (.cells #[.string t688, .int .i64 t689] 23 (0, 0))) ∧ Aside0 (w'.heap[gb701]? = some (.cells #[.string t699, .int .i64 t700] 23 (0, 0))) ∧ Aside0 (w'.heap[gb706]? = some (.cells #[.string t703, .int .i64 t704] 23 (0, 0))) ∧ Aside0 (w'.heap[gb711]? = some (.cells #[.string t708, .int .i64 t709] 23 (0, 0))) ∧ Aside0 (w'.heap[gb715]? = some (.cells #[.string t712, .int .i64 t713] 23 (0, 0))) ∧ Aside0 (Below w.heap.size w w'))
                 case atStart => exact ⟨(0), fr_, H', ⟨Nat.le_refl _⟩, ⟨by (with_reducible repeat (first | apply Kd.R_alloc | apply Kd.R_drewN | apply Kd.R_drew)); exact Kd.R_mono HO_3.out (fun _ hk => ⟨hk.2.1, ⟨hk.2.2.1, ⟨hk.2.2.2.1, ⟨hk.2.2.2.2.1, hk.2.2.2.2.2⟩⟩⟩⟩)⟩, ⟨by (with_reducible repeat (first | refine blk_drewN ?_ _ | refine blk_drew ?_ | refine blk_alloc ?_ _)); exact BK650.out⟩, ⟨by (with_reducible repeat (first | refine blk_drewN ?_ _ | refine blk_drew ?_ | refine blk_alloc ?_ _)); exact BK690.out⟩, ⟨by (with_reducible repeat (first | refine blk_drewN ?_ _ | refine blk_drew ?_ | refine blk_alloc ?_ _)); exact BK701.out⟩, ⟨by (with_reducible repeat (first | refine blk_drewN ?_ _ | refine blk_drew ?_ | refine blk_alloc ?_ _)); exact BK706.out⟩, ⟨by (with_reducible repeat (first | refine blk_drewN ?_ _ | refine blk_drew ?_ | refine blk_alloc ?_ _)); exact BK711.out⟩, ⟨by (with_reducible repeat (first | refine blk_drewN ?_ _ | refine blk_drew ?_ | refine blk_alloc ?_ _)); exact BK715.out⟩, ⟨by repeat (first | (with_reducible first | exact HB.out | apply below_alloc | apply pw_below_drewN | apply below_drew1 | refine below_set ?_ GE650.out | refine below_set ?_ GE690.out | refine below_set ?_ GE701.out | refine below_set ?_ GE706.out | refine below_set ?_ GE711.out | refine below_set ?_ GE715.out) | exact HB.out)⟩⟩
                 case round =>
                  as_aux_lemma =>
                   clear H'
                   try clear c1
                   try clear p2
                   try clear c3
                   try clear c4
                   try clear c5
                   try clear c6
                   try clear p6
                   try clear c7
                   try clear p7
                   try clear q7
                   try clear hx7
                   try clear c8
                   try clear c9
                   try clear c10
                   try clear c11
                   try clear c12
                   try clear c13
                   try clear c14
                   try clear c15
                   try clear c16
                   try clear c17
                   try clear c18
                   try clear c19
                   try clear c47
                   try clear c55
                   try clear c56
                   try clear c61
                   try clear c62
                   try clear c63
                   try clear p64
                   try clear c68
                   try clear c69
                   try clear c70
                   try clear c71
                   try clear p73
                   try clear q73
                   try clear hx73
                   try clear c75
                   try clear c76
                   try clear c77
                   try clear c78
                   try clear c79
                   try clear c82
                   try clear c82b0
                   try clear c82b1
                   try clear c83
                   try clear c83b0
                   try clear c83b1
                   try clear c85
                   try clear c86
                   try clear c86b0
                   try clear c86b1
                   try clear c87
                   try clear c87b0
                   try clear c87b1
                   try clear c88
                   try clear c88b0
                   try clear c88b1
                   try clear c89
                   try clear c89b0
                   try clear c89b1
                   try clear c90
                   try clear c90b0
                   try clear c90b1
                   try clear c92
                   try clear c93
                   try clear c93b0
                   try clear c93b1
                   try clear c95
                   try clear c97
                   try clear c97b0
                   try clear c97b1
                   try clear c98
                   try clear c98b0
                   try clear c98b1
                   try clear c98b2
                   try clear c99
                   try clear c100
                   try clear c100b0
                   try clear c101
                   try clear c101b0
                   try clear c101b1
                   try clear c101b2
                   try clear c102
                   try clear c102b0
                   try clear c105
                   try clear c105b0
                   try clear c105b1
                   try clear c105b2
                   try clear c114
                   try clear c115
                   try clear c116
                   try clear c117
                   try clear c118
                   try clear c121
                   try clear c122
                   try clear c123
                   try clear c124
                   try clear c127
                   try clear c128
                   try clear c129
                   try clear c131
                   try clear c132
                   try clear c138
                   try clear c138b0
                   try clear c138b1
                   try clear c138b2
                   try clear c139
                   try clear c139b0
                   try clear c142
                   try clear c142b0
                   try clear c142b1
                   try clear c142b2
                   try clear c151
                   try clear c152
                   try clear c153
                   try clear c154
                   try clear c155
                   try clear c158
                   try clear c159
                   try clear c160
                   try clear c161
                   try clear c163
                   try clear c164
                   try clear c165
                   try clear c171
                   try clear c172
                   try clear c172b0
                   try clear c173
                   try clear c173b0
                   try clear c174
                   try clear c174b0
                   try clear c178
                   try clear c178b0
                   try clear c178b1
                   try clear c179
                   try clear c179b0
                   try clear c179b1
                   try clear c180
                   try clear c181
                   try clear c181b0
                   try clear c181b1
                   try clear c184
                   try clear c184b0
                   try clear c184b1
                   try clear c185
                   try clear c185b0
                   try clear c185b1
                   try clear c186
                   try clear c186b0
                   try clear c186b1
                   try clear c187
                   try clear c188
                   try clear c189
                   try clear c190
                   try clear c191
                   try clear hcz119_0
                   try clear hcz119_1
                   try clear hcz125_0
                   try clear hcz125_1
                   try clear hcz126_0
                   try clear hcz126_1
                   try clear hcz130_0
                   try clear hcz130_1
                   try clear hcz133_0
                   try clear hcz133_1
                   try clear hcz156_0
                   try clear hcz156_1
                   try clear hcz162_0
                   try clear hcz162_1
                   try clear hcz166_0
                   try clear hcz166_1
                   try clear hcz192_0
                   try clear hcz192_1
                   try clear hcz194_0
                   try clear hcz194_1
                   try clear hcz197_0
                   try clear hcz197_1
                   try clear hcz28_0
                   try clear hcz28_1
                   try clear hcz31_0
                   try clear hcz31_1
                   try clear hcz33_0
                   try clear hcz33_1
                   try clear hcz35_0
                   try clear hcz35_1
                   try clear hcz48_0
                   try clear hcz48_1
                   try clear hcz51_0
                   try clear hcz51_1
                   try clear hcz57_0
                   try clear hcz57_1
                   try clear hcz64_0
                   try clear hcz64_1
                   try clear hcz72_0
                   try clear hcz72_1
                   try clear hcz80_0
                   try clear hcz80_1
                   try clear hfz119_0
                   try clear hfz119_1
                   try clear hfz125_0
                   try clear hfz125_1
                   try clear hfz126_0
                   try clear hfz126_1
                   try clear hfz130_0
                   try clear hfz130_1
                   try clear hfz133_0
                   try clear hfz133_1
                   try clear hfz156_0
                   try clear hfz156_1
                   try clear hfz162_0
                   try clear hfz162_1
                   try clear hfz166_0
                   try clear hfz166_1
                   try clear hfz192_0
                   try clear hfz192_1
                   try clear hfz194_0
                   try clear hfz194_1
                   try clear hfz197_0
                   try clear hfz197_1
                   try clear hfz28_0
                   try clear hfz28_1
                   try clear hfz31_0
                   try clear hfz31_1
                   try clear hfz33_0
                   try clear hfz33_1
                   try clear hfz35_0
                   try clear hfz35_1
                   try clear hfz48_0
                   try clear hfz48_1
                   try clear hfz51_0
                   try clear hfz51_1
                   try clear hfz57_0
                   try clear hfz57_1
                   try clear hfz64_0
                   try clear hfz64_1
                   try clear hfz72_0
                   try clear hfz72_1
                   try clear hfz80_0
                   try clear hfz80_1
                   try clear hx734_0
                   try clear hx734_1
                   try clear p2
                   try clear p6
                   try clear p64
                   try clear p7
                   try clear p73
                   try clear p734
                   try clear q7
                   try clear q73
                   try clear q734
                   obtain ⟨x49_4, rfl, HA, HK4, HO_3, BK650, BK690, BK701, BK706, BK711, BK715, HB⟩ := hrel
                   cases gk with
                   | zero => exact absurd HA.out (by simp [laws_FnCoils.l1])
                   | succ k4 =>
                    have H := HA.out
                    clear HA
                    simp only [laws_FnCoils.l1] at H
                    by_cases c198 : x49_4 < (t645.length : Int)
                    ·rw [if_pos c198] at H
                     have c198b0 : decide (x49_4 < (t645.length : Int)) = true := dt_ c198
                     clear c198
                     by_cases c199 : 0 ≤ x49_4
                     ·rw [if_pos c199] at H
                      have c199b0 : decide (0 ≤ x49_4) = true := dt_ c199
                      clear c199
                      by_cases c200 : ((rd_T23 t645 x49_4).f0).toList = t648.toList
                      ·as_aux_lemma =>
                        rw [if_pos c200] at H
                        have c200b0 : (((rd_T23 t645 x49_4).f0).toList == t648.toList) = true := beq_iff_eq.mpr c200
                        have c200b1 : (((rd_T23 t645 x49_4).f0).toList != t648.toList) = false := bne_eq_false_iff_eq.mpr c200
                        clear c200
                        by_cases c201 : ((rd_T23 t645 x49_4).f1) ≥ t649
                        ·rw [if_pos c201] at H
                         have c201b0 : decide (t649 ≤ ((rd_T23 t645 x49_4).f1)) = true := dt_ c201
                         clear c201
                         by_cases c202 : 0 ≤ t663
                         ·rw [if_pos c202] at H
                          have c202b0 : decide (0 ≤ t663) = true := dt_ c202
                          clear c202
                          by_cases c203 : t663 < (t645.length : Int)
                          ·rw [if_pos c203] at H
                           have c203b0 : decide (t663 < (t645.length : Int)) = true := dt_ c203
                           clear c203
                           by_cases c204 : ((rd_T23 t645 x49_4).f1) < ((rd_T23 t645 t663).f1)
                           ·rw [if_pos c204] at H
                            exact absurd H (by simp)
                           ·rw [if_neg c204] at H
                            have c204b0 : decide (((rd_T23 t645 x49_4).f1) < ((rd_T23 t645 t663).f1)) = false := decide_eq_false c204
                            clear c204
                            have H' := ak_ H
                            clear H
                            have p739 : 0 ≤ (x49_4 : Int) := od_
                            have q739 : x49_4 < (t645.length : Int) := od_
                            obtain ⟨ad739, e739, hx739_0, hx739_1⟩ := at_T23 (Kd.R_reads' HO_3.out).2.2 x49_4 p739 q739
                            cases e739
                            replace p739 := eq_true p739
                            replace q739 := eq_true q739
                            have hnb205 := NB650_690.out
                            have hnc205 := NB690_650.out
                            have hnb206 := NB650_701.out
                            have hnc206 := NB701_650.out
                            have hnb207 := NB650_706.out
                            have hnc207 := NB706_650.out
                            have hnb208 := NB650_711.out
                            have hnc208 := NB711_650.out
                            have hnb209 := NB650_715.out
                            have hnc209 := NB715_650.out
                            have hcz210_0 : wr.cell? ⟨gb650, 0, none⟩ = some (.string t648) := (blk_cell BK650.out 0).trans rfl
                            have hcz210_1 : wr.cell? ⟨gb650, 1, none⟩ = some (.int .i64 t649) := (blk_cell BK650.out 1).trans rfl
                            have hfz210_0 := blk_frozen BK650.out 0
                            have hfz210_1 := blk_frozen BK650.out 1
                            have p740 : 0 ≤ (x49_4 : Int) := od_
                            have q740 : x49_4 < (t645.length : Int) := od_
                            obtain ⟨ad740, e740, hx740_0, hx740_1⟩ := at_T23 (Kd.R_reads' HO_3.out).2.2 x49_4 p740 q740
                            obtain rfl : ad739 = ad740 := (by injection e740)
                            replace p740 := eq_true p740
                            replace q740 := eq_true q740
                            have p741 : 0 ≤ (x49_4 : Int) := od_
                            have q741 : x49_4 < (t645.length : Int) := od_
                            obtain ⟨ad741, e741, hx741_0, hx741_1⟩ := at_T23 (Kd.R_reads' HO_3.out).2.2 x49_4 p741 q741
                            obtain rfl : ad739 = ad741 := (by injection e741)
                            replace p741 := eq_true p741
                            replace q741 := eq_true q741
                            have p742 : 0 ≤ (t663 : Int) := od_
                            have q742 : t663 < (t645.length : Int) := od_
                            obtain ⟨ad742, e742, hx742_0, hx742_1⟩ := at_T23 (Kd.R_reads' HO_3.out).2.2 t663 p742 q742
                            obtain rfl : ad739 = ad742 := (by injection e742)
                            replace p742 := eq_true p742
                            replace q742 := eq_true q742
                            go_wp2
                            repeat (go_quiet (fail); try go_wp2)
                            go_roundg k4
                            case measure => have := HJ24.out; have := HK2.out; have := HJ175.out; have := HK4.out; omega
                            case rel => exact ⟨(wrap64 (x49_4 + 1)), fr_, H', ⟨by have := HJ24.out; have := HK2.out; have := HJ175.out; have := HK4.out; omega⟩, ⟨kr_ HO_3⟩, ⟨by (with_reducible repeat (first | refine blk_drewN ?_ _ | refine blk_drew ?_ | refine blk_alloc ?_ _)); exact BK650.out⟩, ⟨by (with_reducible repeat (first | refine blk_drewN ?_ _ | refine blk_drew ?_ | refine blk_alloc ?_ _)); exact BK690.out⟩, ⟨by (with_reducible repeat (first | refine blk_drewN ?_ _ | refine blk_drew ?_ | refine blk_alloc ?_ _)); exact BK701.out⟩, ⟨by (with_reducible repeat (first | refine blk_drewN ?_ _ | refine blk_drew ?_ | refine blk_alloc ?_ _)); exact BK706.out⟩, ⟨by (with_reducible repeat (first | refine blk_drewN ?_ _ | refine blk_drew ?_ | refine blk_alloc ?_ _)); exact BK711.out⟩, ⟨by (with_reducible repeat (first | refine blk_drewN ?_ _ | refine blk_drew ?_ | refine blk_alloc ?_ _)); exact BK715.out⟩, ⟨by repeat (first | (with_reducible first | exact HB.out | apply below_alloc | apply pw_below_drewN | apply below_drew1 | refine below_set ?_ GE650.out | refine below_set ?_ GE690.out | refine below_set ?_ GE701.out | refine below_set ?_ GE706.out | refine below_set ?_ GE711.out | refine below_set ?_ GE715.out) | exact HB.out)⟩⟩
                          ·rw [if_neg c203] at H
                           exact absurd H (by simp)
                         ·rw [if_neg c202] at H
                          exact absurd H (by simp)
                        ·rw [if_neg c201] at H
                         have c201b0 : decide (t649 ≤ ((rd_T23 t645 x49_4).f1)) = false := decide_eq_false c201
                         clear c201
                         have H' := ak_ H
                         clear H
                         have p739 : 0 ≤ (x49_4 : Int) := od_
                         have q739 : x49_4 < (t645.length : Int) := od_
                         obtain ⟨ad739, e739, hx739_0, hx739_1⟩ := at_T23 (Kd.R_reads' HO_3.out).2.2 x49_4 p739 q739
                         cases e739
                         replace p739 := eq_true p739
                         replace q739 := eq_true q739
                         have hnb211 := NB650_690.out
                         have hnc211 := NB690_650.out
                         have hnb212 := NB650_701.out
                         have hnc212 := NB701_650.out
                         have hnb213 := NB650_706.out
                         have hnc213 := NB706_650.out
                         have hnb214 := NB650_711.out
                         have hnc214 := NB711_650.out
                         have hnb215 := NB650_715.out
                         have hnc215 := NB715_650.out
                         have hcz216_0 : wr.cell? ⟨gb650, 0, none⟩ = some (.string t648) := (blk_cell BK650.out 0).trans rfl
                         have hcz216_1 : wr.cell? ⟨gb650, 1, none⟩ = some (.int .i64 t649) := (blk_cell BK650.out 1).trans rfl
                         have hfz216_0 := blk_frozen BK650.out 0
                         have hfz216_1 := blk_frozen BK650.out 1
                         have p740 : 0 ≤ (x49_4 : Int) := od_
                         have q740 : x49_4 < (t645.length : Int) := od_
                         obtain ⟨ad740, e740, hx740_0, hx740_1⟩ := at_T23 (Kd.R_reads' HO_3.out).2.2 x49_4 p740 q740
                         obtain rfl : ad739 = ad740 := (by injection e740)
                         replace p740 := eq_true p740
                         replace q740 := eq_true q740
                         go_wp2
                         repeat (go_quiet (fail); try go_wp2)
                         go_roundg k4
                         case measure => have := HJ24.out; have := HK2.out; have := HJ175.out; have := HK4.out; omega
                         case rel => exact ⟨(wrap64 (x49_4 + 1)), fr_, H', ⟨by have := HJ24.out; have := HK2.out; have := HJ175.out; have := HK4.out; omega⟩, ⟨kr_ HO_3⟩, ⟨by (with_reducible repeat (first | refine blk_drewN ?_ _ | refine blk_drew ?_ | refine blk_alloc ?_ _)); exact BK650.out⟩, ⟨by (with_reducible repeat (first | refine blk_drewN ?_ _ | refine blk_drew ?_ | refine blk_alloc ?_ _)); exact BK690.out⟩, ⟨by (with_reducible repeat (first | refine blk_drewN ?_ _ | refine blk_drew ?_ | refine blk_alloc ?_ _)); exact BK701.out⟩, ⟨by (with_reducible repeat (first | refine blk_drewN ?_ _ | refine blk_drew ?_ | refine blk_alloc ?_ _)); exact BK706.out⟩, ⟨by (with_reducible repeat (first | refine blk_drewN ?_ _ | refine blk_drew ?_ | refine blk_alloc ?_ _)); exact BK711.out⟩, ⟨by (with_reducible repeat (first | refine blk_drewN ?_ _ | refine blk_drew ?_ | refine blk_alloc ?_ _)); exact BK715.out⟩, ⟨by repeat (first | (with_reducible first | exact HB.out | apply below_alloc | apply pw_below_drewN | apply below_drew1 | refine below_set ?_ GE650.out | refine below_set ?_ GE690.out | refine below_set ?_ GE701.out | refine below_set ?_ GE706.out | refine below_set ?_ GE711.out | refine below_set ?_ GE715.out) | exact HB.out)⟩⟩
                      ·rw [if_neg c200] at H
                       have c200b0 : (((rd_T23 t645 x49_4).f0).toList == t648.toList) = false := beq_eq_false_iff_ne.mpr c200
                       have c200b1 : (((rd_T23 t645 x49_4).f0).toList != t648.toList) = true := bne_iff_ne.mpr c200
                       have H' := ak_ H
                       clear H
                       have p739 : 0 ≤ (x49_4 : Int) := od_
                       have q739 : x49_4 < (t645.length : Int) := od_
                       obtain ⟨ad739, e739, hx739_0, hx739_1⟩ := at_T23 (Kd.R_reads' HO_3.out).2.2 x49_4 p739 q739
                       cases e739
                       replace p739 := eq_true p739
                       replace q739 := eq_true q739
                       have hnb217 := NB650_690.out
                       have hnc217 := NB690_650.out
                       have hnb218 := NB650_701.out
                       have hnc218 := NB701_650.out
                       have hnb219 := NB650_706.out
                       have hnc219 := NB706_650.out
                       have hnb220 := NB650_711.out
                       have hnc220 := NB711_650.out
                       have hnb221 := NB650_715.out
                       have hnc221 := NB715_650.out
                       have hcz222_0 : wr.cell? ⟨gb650, 0, none⟩ = some (.string t648) := (blk_cell BK650.out 0).trans rfl
                       have hcz222_1 : wr.cell? ⟨gb650, 1, none⟩ = some (.int .i64 t649) := (blk_cell BK650.out 1).trans rfl
                       have hfz222_0 := blk_frozen BK650.out 0
                       have hfz222_1 := blk_frozen BK650.out 1
                       go_wp2
                       repeat (go_quiet (fail); try go_wp2)
                       go_roundg k4
                       case measure => have := HJ24.out; have := HK2.out; have := HJ175.out; have := HK4.out; omega
                       case rel => exact ⟨(wrap64 (x49_4 + 1)), fr_, H', ⟨by have := HJ24.out; have := HK2.out; have := HJ175.out; have := HK4.out; omega⟩, ⟨kr_ HO_3⟩, ⟨by (with_reducible repeat (first | refine blk_drewN ?_ _ | refine blk_drew ?_ | refine blk_alloc ?_ _)); exact BK650.out⟩, ⟨by (with_reducible repeat (first | refine blk_drewN ?_ _ | refine blk_drew ?_ | refine blk_alloc ?_ _)); exact BK690.out⟩, ⟨by (with_reducible repeat (first | refine blk_drewN ?_ _ | refine blk_drew ?_ | refine blk_alloc ?_ _)); exact BK701.out⟩, ⟨by (with_reducible repeat (first | refine blk_drewN ?_ _ | refine blk_drew ?_ | refine blk_alloc ?_ _)); exact BK706.out⟩, ⟨by (with_reducible repeat (first | refine blk_drewN ?_ _ | refine blk_drew ?_ | refine blk_alloc ?_ _)); exact BK711.out⟩, ⟨by (with_reducible repeat (first | refine blk_drewN ?_ _ | refine blk_drew ?_ | refine blk_alloc ?_ _)); exact BK715.out⟩, ⟨by repeat (first | (with_reducible first | exact HB.out | apply below_alloc | apply pw_below_drewN | apply below_drew1 | refine below_set ?_ GE650.out | refine below_set ?_ GE690.out | refine below_set ?_ GE701.out | refine below_set ?_ GE706.out | refine below_set ?_ GE711.out | refine below_set ?_ GE715.out) | exact HB.out)⟩⟩
                     ·rw [if_neg c199] at H
                      exact absurd H (by simp)
                    ·rw [if_neg c198] at H
                     have c198b0 : decide (x49_4 < (t645.length : Int)) = false := decide_eq_false c198
                     clear c198
                     obtain rfl := Option.some.inj H
                     go_wp2
                     repeat (go_quiet (fail); try go_wp2)
                     go_ret
                     exact ⟨ew_, by repeat (first | (with_reducible first | exact HB.out | apply below_alloc | apply pw_below_drewN | apply below_drew1 | refine below_set ?_ GE650.out | refine below_set ?_ GE690.out | refine below_set ?_ GE701.out | refine below_set ?_ GE706.out | refine below_set ?_ GE711.out | refine below_set ?_ GE715.out) | exact HB.out)⟩
                ·rw [if_neg c186] at H
                 exact absurd H (by simp)
               ·rw [if_neg c185] at H
                exact absurd H (by simp)
             ·rw [if_neg c184] at H
              exact absurd H (by simp)
            ·rw [if_neg c181] at H
             have c181b0 : (t655 == 0) = false := beq_eq_false_iff_ne.mpr c181
             have c181b1 : (t655 != 0) = true := bne_iff_ne.mpr c181
             obtain rfl := Option.some.inj H
             go_wp2
             repeat (go_quiet (fail); try go_wp2)
             go_ret
             exact ⟨ew_, by repeat (first | (with_reducible first | exact HB.out | apply below_alloc | apply pw_below_drewN | apply below_drew1 | refine below_set ?_ GE650.out | refine below_set ?_ GE690.out | refine below_set ?_ GE701.out | refine below_set ?_ GE706.out | refine below_set ?_ GE711.out | refine below_set ?_ GE715.out) | exact HB.out)⟩

/-- THE ONE PURE STATEMENT of laws_FnCoils: yours. -/
def laws_FnCoils.Pure : Prop := ∀ (l0 : List Int), l0.length ≤ maxLen → l0.length * 1 ≤ 140737488351232 → (∀ x ∈ l0, (Lit.int .u8 x).wf = true) → ∃ k, laws_FnCoils.f k l0 = some true
theorem laws_FnCoils.walk (P : laws_FnCoils.Pure) (a0 : Option Addr) (len0 cap0 : Nat) (z0 : List Int) (w : World) (w0 : (a0 = none ∧ len0 = 0 ∧ cap0 = 0 ∧ z0 = []) ∨ ∃ x, a0 = some x ∧ len0 ≤ cap0 ∧ cap0 ≤ maxLen ∧ z0.length = cap0 ∧ (∀ i, i < z0.length → w.cell? (x.add i) = some (.int .u8 (z0.getD i 0))) ∧ ∀ n ∈ z0, (Lit.int .u8 n).wf = true) (y0 : len0 * 1 ≤ 140737488351232) (hT : TB w) (hU : TU w) :
  Calls Tryd.prog 4 #[.slice a0 len0 cap0] w fun e w' => e = .returned (.bool true) ∧ Below w.heap.size w w' := by
 obtain ⟨l0, rfl, hr0, hm0, hw0, hc0⟩ := ReadsInt.ofRowC w0
 obtain ⟨k, h⟩ := P l0 hm0 y0 hw0
 refine (laws_FnCoils.calls k _ _ l0 true w (Kd.C_of_reads (d := (0 : Int)) (h1 := fun _ => rfl) hr0) hc0 hT hU h).mono ?_
 rintro e w' ⟨rfl, hd⟩
 exact ⟨rfl, hd⟩

end Go.Proofs.YtfenjlkopofopaaDoor.P
end

section
/- Plain words for the laws' statements over lists: an answer with enough rounds (Ev), step by step; one loop's round over a list that is told as what lies behind and what lies ahead. -/
namespace Go.Proofs.YtfenjlkopofopaaDoorB
open Go.RowKit Go.Proofs.YtfenjlkopofopaaDoorW.PrintWords Go.Proofs.YtfenjlkopofopaaDoorW.PrintLast

theorem ev_pos {α : Type} {c : Prop} [Decidable c] {A B : Nat → Option α} {r : α} (h : c) (e : Ev A r) : Ev (fun k => if c then A k else B k) r := by
  simpa only [if_pos h] using e
theorem ev_neg {α : Type} {c : Prop} [Decidable c] {A B : Nat → Option α} {r : α} (h : ¬ c) (e : Ev B r) : Ev (fun k => if c then A k else B k) r := by
  simpa only [if_neg h] using e
theorem ev_ite {α : Type} {c : Prop} [Decidable c] {A B : Nat → Option α} {r : α} (h : c → Ev A r) (h2 : ¬ c → Ev B r) : Ev (fun k => if c then A k else B k) r := by
  by_cases hc : c
  · exact ev_pos hc (h hc)
  · exact ev_neg hc (h2 hc)
theorem ev_bind0 {α β : Type} {g : Option α} {f : Nat → α → Option β} {a : α} {r : β} (h : g = some a) (k : Ev (fun n => f n a) r) : Ev (fun n => g.bind (f n)) r := by
  subst h
  exact k
theorem ev_of {α : Type} {g : Nat → Option α} {a r : α} (h : Ev g a) (e : a = r) : Ev g r := e ▸ h

theorem wrap_small {i : Int} (h0 : -9223372036854775808 ≤ i) (h1 : i ≤ 9223372036854775807) : wrap64 i = i := by
  unfold wrap64
  omega
theorem wrap_next {α : Type} (p : List α) (x : α) (h : p.length ≤ 4611686018427387904) : wrap64 ((p.length : Int) + 1) = ((p ++ [x]).length : Int) := by
  rw [wrap_small (by omega) (by omega), List.length_append]
  simp
theorem getD_at {α : Type} (p : List α) (x : α) (xs : List α) (z : α) : (p ++ x :: xs).getD ((p.length : Int)).toNat z = x := by
  simp
theorem rd_mid (p : List Int) (x : Int) (xs : List Int) : rd (p ++ x :: xs) (p.length : Int) = x := by
  unfold rd
  exact getD_at p x xs 0
theorem set_mid {α : Type} (p : List α) (x y : α) (xs : List α) : (p ++ x :: xs).set ((p.length : Int)).toNat y = p ++ y :: xs := by
  simp
theorem push_mid {α : Type} (p : List α) (x : α) (xs : List α) : p ++ x :: xs = (p ++ [x]) ++ xs := by simp
theorem lt_mid {α : Type} (p : List α) (x : α) (xs : List α) : (p.length : Int) < ((p ++ x :: xs).length : Int) := by
  simp
  omega
theorem not_lt_end {α : Type} (p : List α) : ¬ (p.length : Int) < ((p ++ []).length : Int) := by simp

theorem bt_rd (s : ByteArray) (i : Int) : bt s i = rd (bytesOf s) i := by
  unfold bt rd bytesOf
  by_cases h : i.toNat < s.size
  · rw [dif_pos h]
    have h2 : i.toNat < s.data.toList.length := by rw [data_length]; exact h
    rw [List.getD_eq_getElem?_getD, List.getElem?_map, List.getElem?_eq_getElem h2]
    rfl
  · rw [dif_neg h]
    have h2 : ¬ i.toNat < s.data.toList.length := by rw [data_length]; exact h
    rw [List.getD_eq_getElem?_getD, List.getElem?_map, List.getElem?_eq_none (by omega)]
    rfl
theorem bytes_length (s : ByteArray) : (bytesOf s).length = s.size := by
  unfold bytesOf
  rw [List.length_map, data_length]
theorem bytes_nil (s : ByteArray) : s.toList = [] ↔ bytesOf s = [] := by
  unfold bytesOf
  rw [Lib.toList_data]
  simp
theorem bytes_inj {a b : ByteArray} (h : bytesOf a = bytesOf b) : a = b := by
  unfold bytesOf at h
  have h2 : a.data.toList = b.data.toList := by
    refine (List.map_inj_right ?_).1 h
    intro x y hxy
    exact UInt8.toNat_inj.1 (by omega)
  cases a
  cases b
  congr
  exact Array.toList_inj.1 h2
theorem toList_inj {a b : ByteArray} (h : a.toList = b.toList) : a = b := by
  rw [Lib.toList_data, Lib.toList_data] at h
  cases a
  cases b
  congr
  exact Array.toList_inj.1 h
theorem toList_iff {a b : ByteArray} : a.toList = b.toList ↔ a = b := ⟨toList_inj, fun h => by rw [h]⟩

/-- A number of 64 bits. -/
def I64 (n : Int) : Prop := -9223372036854775808 ≤ n ∧ n ≤ 9223372036854775807
/-- Two readings come to one answer, of which P holds. -/
def Both {α : Type} (P : α → Prop) (A B : Nat → Option α) : Prop := ∃ r, Ev A r ∧ Ev B r ∧ P r
section
variable {α β : Type} {P : α → Prop} {Q : β → Prop} {A B A2 B2 C : Nat → Option α}
theorem both_now (r : α) (h : P r) : Both P (fun _ => some r) (fun _ => some r) := ⟨r, Ev.now r, Ev.now r, h⟩
theorem both_step (hA : ∀ k, A (k + 1) = A2 k) (hB : ∀ k, B (k + 1) = B2 k) (h : Both P A2 B2) : Both P A B := by
  obtain ⟨r, h1, h2, hp⟩ := h
  exact ⟨r, Ev.step hA h1, Ev.step hB h2, hp⟩
theorem both_stepL (hA : ∀ k, A (k + 1) = A2 k) (h : Both P A2 B) : Both P A B := by
  obtain ⟨r, h1, h2, hp⟩ := h
  exact ⟨r, Ev.step hA h1, h2, hp⟩
theorem both_ite {c : Prop} [Decidable c] (h : c → Both P A A2) (h2 : ¬ c → Both P B B2) : Both P (fun k => if c then A k else B k) (fun k => if c then A2 k else B2 k) := by
  by_cases hc : c
  · obtain ⟨r, h3, h4, hp⟩ := h hc
    exact ⟨r, ev_pos hc h3, ev_pos hc h4, hp⟩
  · obtain ⟨r, h3, h4, hp⟩ := h2 hc
    exact ⟨r, ev_neg hc h3, ev_neg hc h4, hp⟩
theorem both_posL {c : Prop} [Decidable c] (hc : c) (h : Both P A C) : Both P (fun k => if c then A k else B k) C := by
  obtain ⟨r, h3, h4, hp⟩ := h
  exact ⟨r, ev_pos hc h3, h4, hp⟩
theorem both_negL {c : Prop} [Decidable c] (hc : ¬ c) (h : Both P B C) : Both P (fun k => if c then A k else B k) C := by
  obtain ⟨r, h3, h4, hp⟩ := h
  exact ⟨r, ev_neg hc h3, h4, hp⟩
theorem both_posR {c : Prop} [Decidable c] (hc : c) (h : Both P C A) : Both P C (fun k => if c then A k else B k) := by
  obtain ⟨r, h3, h4, hp⟩ := h
  exact ⟨r, h3, ev_pos hc h4, hp⟩
theorem both_negR {c : Prop} [Decidable c] (hc : ¬ c) (h : Both P C B) : Both P C (fun k => if c then A k else B k) := by
  obtain ⟨r, h3, h4, hp⟩ := h
  exact ⟨r, h3, ev_neg hc h4, hp⟩
theorem both_bind {F G : Nat → α → Option β} (h : Both P A B) (h2 : ∀ r, P r → Both Q (fun k => F k r) (fun k => G k r)) : Both Q (fun k => (A k).bind (F k)) (fun k => (B k).bind (G k)) := by
  obtain ⟨r, h3, h4, hp⟩ := h
  obtain ⟨q, h5, h6, hq⟩ := h2 r hp
  exact ⟨q, Ev.bind h3 h5, Ev.bind h4 h6, hq⟩
theorem both_bindL {D : Nat → Option β} {F : Nat → α → Option β} {a : α} (h : Ev A a) (h2 : Both Q (fun k => F k a) D) : Both Q (fun k => (A k).bind (F k)) D := by
  obtain ⟨r, h3, h4, hq⟩ := h2
  exact ⟨r, Ev.bind h h3, h4, hq⟩
theorem both_bindR {D : Nat → Option β} {F : Nat → α → Option β} {a : α} (h : Ev A a) (h2 : Both Q D (fun k => F k a)) : Both Q D (fun k => (A k).bind (F k)) := by
  obtain ⟨r, h3, h4, hq⟩ := h2
  exact ⟨r, h3, Ev.bind h h4, hq⟩
theorem both_bind0L {D : Nat → Option β} {F : Nat → α → Option β} {g : Option α} {a : α} (h : g = some a) (h2 : Both Q (fun k => F k a) D) : Both Q (fun k => g.bind (F k)) D := by
  subst h
  exact h2
theorem both_bind0R {D : Nat → Option β} {F : Nat → α → Option β} {g : Option α} {a : α} (h : g = some a) (h2 : Both Q D (fun k => F k a)) : Both Q D (fun k => g.bind (F k)) := by
  subst h
  exact h2
theorem both_imp {P2 : α → Prop} (h : Both P A B) (hi : ∀ r, P r → P2 r) : Both P2 A B := by
  obtain ⟨r, h1, h2, hp⟩ := h
  exact ⟨r, h1, h2, hi r hp⟩
end

def rangeB (n : Int) : Bool := decide (1 ≤ n) && decide (n ≤ 100000)
theorem max_of {s : ByteArray} (h : s.size ≤ 1048576) : s.size ≤ maxLen := by
  unfold maxLen
  omega


/-- A name, as the document has it, over its bytes. -/
def smallB (c : Int) : Bool := decide (97 ≤ c) && decide (c ≤ 122)
def partB (c : Int) : Bool := smallB c || (decide (48 ≤ c) && decide (c ≤ 57)) || decide (c = 45)
def nameL (l : List Int) : Bool := match l with
  | [] => false
  | c :: cs => decide ((c :: cs).length ≤ 12) && smallB c && (c :: cs).all partB
def nameB (s : ByteArray) : Bool := nameL (bytesOf s)
end Go.Proofs.YtfenjlkopofopaaDoorB
end

section
/- IsName, within and their kin: the reference's and the program's functions, as one plain function of the bytes. -/
namespace Go.Proofs.YtfenjlkopofopaaDoorB
open Go.RowKit Go.Proofs.YtfenjlkopofopaaDoorW.PrintWords Go.Proofs.YtfenjlkopofopaaDoorW.PrintLast Go.Proofs.YtfenjlkopofopaaDoor.P

theorem in_some (a b c : Int) : spec_l00In.f a b c = some (decide (b ≤ a) && decide (a ≤ c)) := by
  unfold spec_l00In.f
  by_cases h : a ≥ b
  · rw [if_pos h, decide_eq_true (show b ≤ a from h)]
    simp
  · rw [if_neg h, decide_eq_false (show ¬ b ≤ a from h)]
    simp
theorem within_some (a b c : Int) : impl_within.f a b c = some (decide (b ≤ a) && decide (a ≤ c)) := by
  unfold impl_within.f
  by_cases h : a ≥ b
  · rw [if_pos h, decide_eq_true (show b ≤ a from h)]
    simp
  · rw [if_neg h, decide_eq_false (show ¬ b ≤ a from h)]
    simp
theorem small_some (a : Int) : spec_l01Small.f a = some (smallB a) := by
  unfold spec_l01Small.f smallB
  by_cases h : a ≥ 97
  · rw [if_pos h, decide_eq_true (show 97 ≤ a from h)]
    simp
  · rw [if_neg h, decide_eq_false (show ¬ 97 ≤ a from h)]
    simp
theorem digit_some (a : Int) : spec_l01Digit.f a = some (decide (48 ≤ a) && decide (a ≤ 57)) := by
  unfold spec_l01Digit.f
  by_cases h : a ≥ 48
  · rw [if_pos h, decide_eq_true (show 48 ≤ a from h)]
    simp
  · rw [if_neg h, decide_eq_false (show ¬ 48 ≤ a from h)]
    simp

theorem spec_name_loop (s : ByteArray) (hs : s.size ≤ 1048576) : ∀ (xs p : List Int), bytesOf s = p ++ xs → Ev (fun k => spec_IsName.l0 k s (p.length : Int)) (xs.all partB) := by
  intro xs
  induction xs with
  | nil =>
    intro p hp
    have hz : (s.size : Int) = p.length := by rw [← bytes_length, hp]; simp
    refine Ev.step (fun k => by rw [spec_IsName.l0]) ?_
    exact ev_neg (by omega) (Ev.now _)
  | cons x xs ih =>
    intro p hp
    have hz : (s.size : Int) = p.length + (xs.length + 1) := by rw [← bytes_length, hp]; simp
    have hb : bt s (p.length : Int) = x := by rw [bt_rd, hp]; exact rd_mid p x xs
    have hw : wrap64 ((p.length : Int) + 1) = ((p ++ [x]).length : Int) := wrap_next p x (by omega)
    have hi := ih (p ++ [x]) (by rw [hp]; simp)
    refine Ev.step (fun k => by rw [spec_IsName.l0]) ?_
    refine ev_pos (by omega) (ev_pos (by omega) ?_)
    rw [hb, hw]
    refine ev_bind0 (small_some x) ?_
    refine ev_ite (fun h => ?_) (fun h => ?_)
    · refine ev_of hi ?_
      simp [partB, h]
    · refine ev_bind0 (digit_some x) (ev_ite (fun h2 => ?_) (fun h2 => ?_))
      · refine ev_of hi ?_
        simp [partB, h2]
      · refine ev_ite (fun h3 => ?_) (fun h3 => ?_)
        · refine ev_of hi ?_
          simp [partB, h3]
        · refine ev_of (Ev.now _) ?_
          simp only [Bool.not_eq_true] at h h2
          simp [partB, h, h2, h3]

theorem impl_name_loop (s : ByteArray) (hs : s.size ≤ 1048576) : ∀ (xs p : List Int), bytesOf s = p ++ xs → Ev (fun k => impl_IsName.l0 k s (p.length : Int)) (xs.all partB) := by
  intro xs
  induction xs with
  | nil =>
    intro p hp
    have hz : (s.size : Int) = p.length := by rw [← bytes_length, hp]; simp
    refine Ev.step (fun k => by rw [impl_IsName.l0]) ?_
    exact ev_neg (by omega) (Ev.now _)
  | cons x xs ih =>
    intro p hp
    have hz : (s.size : Int) = p.length + (xs.length + 1) := by rw [← bytes_length, hp]; simp
    have hb : bt s (p.length : Int) = x := by rw [bt_rd, hp]; exact rd_mid p x xs
    have hw : wrap64 ((p.length : Int) + 1) = ((p ++ [x]).length : Int) := wrap_next p x (by omega)
    have hi := ih (p ++ [x]) (by rw [hp]; simp)
    have hy : partB x = true → Ev (fun k => impl_IsName.l0 k s ((p ++ [x]).length : Int)) ((x :: xs).all partB) := fun h => ev_of hi (by simp [h])
    have hn : partB x = false → Ev (fun _ => some false) ((x :: xs).all partB) := fun h => ev_of (Ev.now _) (by simp [h])
    refine Ev.step (fun k => by rw [impl_IsName.l0]) ?_
    refine ev_pos (by omega) (ev_pos (by omega) ?_)
    rw [hb, hw]
    have tail : (¬ smallB x = true) → Ev (fun k => if x < 48 then if x = 45 then impl_IsName.l0 k s ((p ++ [x]).length : Int) else some false else if x > 57 then if x = 45 then impl_IsName.l0 k s ((p ++ [x]).length : Int) else some false else impl_IsName.l0 k s ((p ++ [x]).length : Int)) ((x :: xs).all partB) := by
      intro hsm
      refine ev_ite (fun h => ?_) (fun h => ?_)
      · refine ev_ite (fun h2 => hy ?_) (fun h2 => hn ?_)
        · simp [partB, h2]
        · simp only [Bool.not_eq_true] at hsm
          simp [partB, hsm, h2]; omega
      · refine ev_ite (fun h2 => ?_) (fun h2 => hy ?_)
        · refine ev_ite (fun h3 => hy ?_) (fun h3 => hn ?_)
          · simp [partB, h3]
          · simp only [Bool.not_eq_true] at hsm
            simp [partB, hsm, h3]; omega
        · simp [partB]; omega
    refine ev_ite (fun h => tail (by simp [smallB]; omega)) (fun h => ?_)
    refine ev_ite (fun h2 => tail (by simp [smallB]; omega)) (fun h2 => hy ?_)
    simp [partB, smallB]; omega

theorem spec_name (s : ByteArray) (_hs : s.size ≤ maxLen) : Ev (fun k => spec_IsName.f k s) (nameB s) := by
  have hl := bytes_length s
  unfold spec_IsName.f nameB nameL
  refine ev_ite (fun h => ?_) (fun h => ?_)
  · rw [bytes_nil] at h
    rw [h]
    refine Ev.step (fun k => by rw [spec_IsName.j0]) ?_
    exact ev_pos rfl (Ev.now _)
  · rw [bytes_nil] at h
    cases hb : bytesOf s with
    | nil => exact absurd hb h
    | cons c cs =>
      rw [hb] at hl
      have hl2 : (s.size : Int) = cs.length + 1 := by rw [← hl]; simp
      have hc : bt s 0 = c := by rw [bt_rd, hb]; rfl
      refine ev_ite (fun h1 => ?_) (fun h1 => ?_)
      · refine Ev.step (fun k => by rw [spec_IsName.j0]) ?_
        refine ev_pos rfl (ev_of (Ev.now _) ?_)
        simp; omega
      · refine ev_pos (by omega) ?_
        rw [hc]
        refine ev_bind0 (small_some c) ?_
        refine Ev.step (fun k => by rw [spec_IsName.j0]) ?_
        refine ev_ite (fun h2 => ?_) (fun h2 => ?_)
        · refine ev_of (Ev.now _) ?_
          simp at h2
          simp [h2]
        · simp at h2
          refine ev_of (spec_name_loop s (by omega) (c :: cs) [] hb) ?_
          simp [h2]; omega
theorem impl_name (s : ByteArray) (_hs : s.size ≤ maxLen) : Ev (fun k => impl_IsName.f k s) (nameB s) := by
  have hl := bytes_length s
  unfold impl_IsName.f nameB nameL
  have no : ∀ v : Bool, v = false → Ev (fun k => impl_IsName.j0 k s true) v := fun v h => Ev.step (fun k => by rw [impl_IsName.j0]) (ev_pos rfl (ev_of (Ev.now _) h.symm))
  cases hb : bytesOf s with
  | nil =>
    rw [hb] at hl
    exact ev_pos (by simp at hl; omega) (no _ rfl)
  | cons c cs =>
    rw [hb] at hl
    have hl2 : (s.size : Int) = cs.length + 1 := by rw [← hl]; simp
    have hc : bt s 0 = c := by rw [bt_rd, hb]; rfl
    refine ev_neg (by omega) (ev_ite (fun h1 => no _ ?_) (fun h1 => ?_))
    · simp; omega
    · refine ev_pos (by omega) ?_
      rw [hc]
      refine ev_ite (fun h2 => no _ ?_) (fun h2 => ?_)
      · simp [smallB]; omega
      · refine Ev.step (fun k => by rw [impl_IsName.j0]) ?_
        refine ev_ite (fun h3 => ?_) (fun h3 => ?_)
        · refine ev_of (Ev.now _) ?_
          simp at h3
          simp [smallB]; omega
        · simp at h3
          refine ev_of (impl_name_loop s (by omega) (c :: cs) [] hb) ?_
          simp [smallB]; omega
end Go.Proofs.YtfenjlkopofopaaDoorB
end

section
/- One coil, valid or not, of both. -/
namespace Go.Proofs.YtfenjlkopofopaaDoorB
open Go.RowKit Go.Proofs.YtfenjlkopofopaaDoorW.PrintWords Go.Proofs.YtfenjlkopofopaaDoorW.PrintLast Go.Proofs.YtfenjlkopofopaaDoor.P

theorem spec_one (s : ByteArray) (n : Int) (hs : s.size ≤ maxLen) : Ev (fun k => spec_l23One.f k s n) (nameB s && rangeB n) := by
  unfold spec_l23One.f
  refine Ev.bind (spec_name s hs) ?_
  cases nameB s with
  | true => exact ev_pos rfl (ev_bind0 (in_some _ _ _) (Ev.now _))
  | false => exact ev_neg (by simp) (Ev.now _)
theorem impl_one (s : ByteArray) (n : Int) (hs : s.size ≤ maxLen) : Ev (fun k => impl_validCoil.f k s n) (nameB s && rangeB n) := by
  unfold impl_validCoil.f
  refine Ev.bind (impl_name s hs) ?_
  cases nameB s with
  | true => exact ev_pos rfl (ev_bind0 (within_some _ _ _) (Ev.now _))
  | false => exact ev_neg (by simp) (Ev.now _)
end Go.Proofs.YtfenjlkopofopaaDoorB
end

section
/- Coil: what is asked of one. -/
namespace Go.Proofs.YtfenjlkopofopaaDoorB
open Go.RowKit Go.Proofs.YtfenjlkopofopaaDoorW.PrintWords Go.Proofs.YtfenjlkopofopaaDoorW.PrintLast Go.Proofs.YtfenjlkopofopaaDoor.P

theorem rd23_mid (p : List S23) (x : S23) (xs : List S23) : rd_T23 (p ++ x :: xs) (p.length : Int) = x := by
  unfold rd_T23
  exact getD_at p x xs _
def GoodCoil (x : S23) : Prop := x.f0.size ≤ 1048576 ∧ I64 x.f1
end Go.Proofs.YtfenjlkopofopaaDoorB
end

section
/- Coils: whether one, and a list of them, is valid. -/
namespace Go.Proofs.YtfenjlkopofopaaDoorB
open Go.RowKit Go.Proofs.YtfenjlkopofopaaDoorW.PrintWords Go.Proofs.YtfenjlkopofopaaDoorW.PrintLast Go.Proofs.YtfenjlkopofopaaDoor.P

abbrev C := S23
def coilB (x : C) : Bool := nameB x.f0 && rangeB x.f1
def okCoils (l : List C) : Bool := l.all coilB && decide ((l.length : Int) ≤ 40)
theorem spec_ok_loop : ∀ (xs p : List C), p.length + xs.length ≤ 1048576 → (∀ x ∈ xs, x.f0.size ≤ maxLen) → Ev (fun k => spec_l23Ok.l0 k (p ++ xs) (p.length : Int)) (xs.all coilB && decide (((p ++ xs).length : Int) ≤ 40)) := by
  intro xs
  induction xs with
  | nil =>
    intro p _ _
    refine Ev.step (fun k => by rw [spec_l23Ok.l0]) ?_
    refine ev_neg (not_lt_end p) (ev_of (Ev.now _) ?_)
    simp
  | cons x xs ih =>
    intro p hl hs
    rw [List.length_cons] at hl
    have hw : wrap64 ((p.length : Int) + 1) = ((p ++ [x]).length : Int) := wrap_next p x (by omega)
    have hi := ih (p ++ [x]) (by rw [List.length_append]; simp; omega) (fun y hy => hs y (List.mem_cons_of_mem _ hy))
    refine Ev.step (fun k => by rw [spec_l23Ok.l0]) ?_
    refine ev_pos (lt_mid p x xs) (ev_pos (Int.natCast_nonneg _) ?_)
    rw [rd23_mid, hw]
    refine Ev.bind (spec_one x.f0 x.f1 (hs x List.mem_cons_self)) (ev_ite (fun h => ?_) (fun h => ?_))
    · rw [push_mid p x xs]
      refine ev_of hi ?_
      simp [coilB, h]
    · refine ev_of (Ev.now _) ?_
      simp only [Bool.not_eq_true] at h
      simp [coilB, h]
theorem spec_ok (l : List C) (hl : l.length ≤ 1048576) (hs : ∀ x ∈ l, x.f0.size ≤ maxLen) : Ev (fun k => spec_l23Ok.f k l) (okCoils l) := by
  unfold spec_l23Ok.f
  exact spec_ok_loop l [] (by simp; omega) hs
theorem impl_ok_loop : ∀ (xs p : List C), p.length + xs.length ≤ 1048576 → (∀ x ∈ xs, x.f0.size ≤ maxLen) → Ev (fun k => impl_ValidStockCoils.l0 k (p ++ xs) ((p ++ xs).length : Int) (p.length : Int)) (xs.all coilB) := by
  intro xs
  induction xs with
  | nil =>
    intro p _ _
    refine Ev.step (fun k => by rw [impl_ValidStockCoils.l0]) ?_
    exact ev_neg (not_lt_end p) (Ev.now _)
  | cons x xs ih =>
    intro p hl hs
    rw [List.length_cons] at hl
    have hw : wrap64 ((p.length : Int) + 1) = ((p ++ [x]).length : Int) := wrap_next p x (by omega)
    have hi := ih (p ++ [x]) (by rw [List.length_append]; simp; omega) (fun y hy => hs y (List.mem_cons_of_mem _ hy))
    refine Ev.step (fun k => by rw [impl_ValidStockCoils.l0]) ?_
    refine ev_pos (lt_mid p x xs) (ev_pos (Int.natCast_nonneg _) (ev_pos (lt_mid p x xs) ?_))
    rw [rd23_mid, hw]
    refine Ev.bind (impl_one x.f0 x.f1 (hs x List.mem_cons_self)) (ev_ite (fun h => ?_) (fun h => ?_))
    · rw [push_mid p x xs]
      refine ev_of hi ?_
      simp [coilB, h]
    · refine ev_of (Ev.now _) ?_
      simp only [Bool.not_eq_true] at h
      simp [coilB, h]
theorem impl_ok (l : List C) (hl : l.length ≤ 1048576) (hs : ∀ x ∈ l, x.f0.size ≤ maxLen) : Ev (fun k => impl_ValidStockCoils.f k l) (okCoils l) := by
  unfold impl_ValidStockCoils.f
  refine ev_ite (fun h => ?_) (fun h => ?_)
  · refine ev_of (Ev.now _) ?_
    simp [okCoils]
    omega
  · refine ev_of (impl_ok_loop l [] (by simp; omega) hs) ?_
    simp [okCoils]
    omega

abbrev GoodCoils (l : List C) : Prop := l.length ≤ 1048576 ∧ ∀ x ∈ l, GoodCoil x
theorem good_sizes {l : List C} (h : GoodCoils l) : ∀ x ∈ l, x.f0.size ≤ maxLen := fun x hx => by
  have := (h.2 x hx).1
  unfold maxLen
  omega
end Go.Proofs.YtfenjlkopofopaaDoorB
end

section
/- The choices that are read from bytes: each lies in its bounds. -/
namespace Go.Proofs.YtfenjlkopofopaaDoorB
open Go.RowKit Go.Proofs.YtfenjlkopofopaaDoorW.PrintWords Go.Proofs.YtfenjlkopofopaaDoorW.PrintLast Go.Proofs.YtfenjlkopofopaaDoor.P

abbrev Code (c : List Int) : Prop := ∀ x ∈ c, 0 ≤ x ∧ x ≤ 255
theorem code_of {c : List Int} (h : ∀ x ∈ c, (Lit.int .u8 x).wf = true) : Code c := fun x hx => by
  have := h x hx
  simp [Lit.wf, IntKind.min, IntKind.max, IntKind.signed, IntKind.bits] at this
  omega
theorem rd_code {c : List Int} (h : Code c) (i : Int) : 0 ≤ rd c i ∧ rd c i ≤ 255 := by
  unfold rd
  rw [List.getD_eq_getElem?_getD]
  cases e : c[i.toNat]? with
  | none => simp
  | some x => simpa using h x (List.mem_of_getElem? e)
theorem wraps_u64 (n : Int) (h0 : 0 ≤ n) (h1 : n < 2 ^ 64) : IntKind.u64.wrap n = n := by
  simp [IntKind.wrap, IntKind.bits, IntKind.signed]
  omega
theorem u64_bound (n : Int) : 0 ≤ IntKind.u64.wrap n ∧ IntKind.u64.wrap n < 18446744073709551616 := by
  simp [IntKind.wrap, IntKind.bits, IntKind.signed]
  omega
theorem and255 (x : Int) (h0 : 0 ≤ x) (h1 : x < 18446744073709551616) : 0 ≤ bits .and .u64 x 255 ∧ bits .and .u64 x 255 ≤ 255 := by
  have := bits_mask .u64 64 (by decide) wraps_u64 8 (by decide) x h0 (by simpa using h1)
  have h2 : bits .and .u64 x 255 = x % 256 := by simpa using this
  rw [h2]
  omega
theorem seed_and (n : Int) : 0 ≤ bits .and .u64 (IntKind.u64.wrap n / 1099511627776) 255 ∧ bits .and .u64 (IntKind.u64.wrap n / 1099511627776) 255 ≤ 255 := by
  have := u64_bound n
  exact and255 _ (by omega) (by omega)
/-- Where the reading stands: there is room for n steps. -/
def Room (n at_ : Int) : Prop := 0 ≤ at_ ∧ at_ + n ≤ 4611686018427387904
theorem next_some {c : List Int} (hc : Code c) (at_ seed : Int) (h : Room 1 at_) : ∃ v s', spec_l00Src_next.f c at_ seed = some (v, at_ + 1, s') ∧ 0 ≤ v ∧ v ≤ 255 := by
  obtain ⟨h0, h1⟩ := h
  have hw : wrap64 (at_ + 1) = at_ + 1 := wrap_small (by omega) (by omega)
  have hr := rd_code hc at_
  have hv : wrap64 (rd c at_) = rd c at_ := wrap_small (by omega) (by omega)
  have hs : ∀ n, wrap64 (bits .and .u64 (IntKind.u64.wrap n / 1099511627776) 255) = bits .and .u64 (IntKind.u64.wrap n / 1099511627776) 255 := fun n => wrap_small (by have := seed_and n; omega) (by have := seed_and n; omega)
  unfold spec_l00Src_next.f
  rw [hw]
  by_cases h2 : at_ < (c.length : Int)
  · rw [if_pos h2, if_pos h0, if_pos (by omega), hv]
    exact ⟨_, _, rfl, hr.1, hr.2⟩
  · rw [if_neg h2, if_neg (by omega), hs]
    exact ⟨_, _, rfl, (seed_and _).1, (seed_and _).2⟩
theorem pick_some {c : List Int} (hc : Code c) (at_ seed n : Int) (h : Room 2 at_) (hn : n ≤ 4611686018427387904) : ∃ r at' s', spec_l00Src_pick.f c at_ seed n = some (r, at', s') ∧ 0 ≤ r ∧ (1 ≤ n → r < n) ∧ at_ ≤ at' ∧ at' ≤ at_ + 2 := by
  have h' := h
  obtain ⟨h0, h1⟩ := h'
  unfold spec_l00Src_pick.f
  by_cases h2 : n ≤ 1
  · rw [if_pos h2]
    exact ⟨_, _, _, rfl, by omega, fun _ => by omega, by omega, by omega⟩
  · obtain ⟨v, s1, e1, hv0, hv1⟩ := next_some hc at_ seed ⟨h0, by omega⟩
    rw [if_neg h2, e1, Option.bind_some]
    by_cases h3 : n > 200
    · obtain ⟨v2, s2, e2, hu0, hu1⟩ := next_some hc (at_ + 1) s1 ⟨by omega, by omega⟩
      rw [if_pos h3]
      dsimp only
      rw [e2, Option.bind_some, if_neg (by omega)]
      dsimp only
      rw [wrap_small (i := v * 256) (by omega) (by omega), wrap_small (by omega) (by omega)]
      exact ⟨_, _, _, rfl, Int.tmod_nonneg _ (by omega), fun _ => Int.tmod_lt_of_pos _ (by omega), by omega, by omega⟩
    · rw [if_neg h3, if_neg (by omega)]
      dsimp only
      exact ⟨_, _, _, rfl, Int.tmod_nonneg _ (by omega), fun _ => Int.tmod_lt_of_pos _ (by omega), by omega, by omega⟩
end Go.Proofs.YtfenjlkopofopaaDoorB
end

section
/- Further choices that are read from bytes: one of some numbers, one of some texts. -/
namespace Go.Proofs.YtfenjlkopofopaaDoorB
open Go.RowKit Go.Proofs.YtfenjlkopofopaaDoorW.PrintWords Go.Proofs.YtfenjlkopofopaaDoorW.PrintLast Go.Proofs.YtfenjlkopofopaaDoor.P

theorem one_some {c : List Int} (hc : Code c) (at_ seed n : Int) (h0 : 0 ≤ at_) (h1 : at_ ≤ 1000000) (hn : n ≤ 1000000) : ∃ b at' s', spec_l00Src_one.f c at_ seed n = some (b, at', s') ∧ at_ ≤ at' ∧ at' ≤ at_ + 2 := by
  obtain ⟨v, t, s, e, _, _, t0, t1⟩ := pick_some hc at_ seed n ⟨h0, by omega⟩ (by omega)
  unfold spec_l00Src_one.f
  rw [e, Option.bind_some]
  exact ⟨_, _, _, rfl, t0, t1⟩
theorem among_some {c : List Int} (hc : Code c) (at_ seed : Int) (l : List Int) (h0 : 0 ≤ at_) (h1 : at_ ≤ 1000000) (hl : 1 ≤ l.length) (hl2 : l.length ≤ 1000000) : ∃ b at' s', spec_l00Src_among.f c at_ seed l = some (b, at', s') ∧ b ∈ l ∧ at_ ≤ at' ∧ at' ≤ at_ + 2 := by
  obtain ⟨v, t, s, e, v0, v1, t0, t1⟩ := pick_some hc at_ seed (l.length : Int) ⟨h0, by omega⟩ (by omega)
  have v2 := v1 (by omega)
  unfold spec_l00Src_among.f
  rw [e, Option.bind_some]
  dsimp only
  rw [if_pos v0, if_pos v2]
  refine ⟨_, _, _, rfl, ?_, t0, t1⟩
  unfold rd
  rw [List.getD_eq_getElem?_getD, List.getElem?_eq_getElem (by omega)]
  exact List.getElem_mem _
theorem text_some {c : List Int} (hc : Code c) (at_ seed : Int) (l : List ByteArray) (h0 : 0 ≤ at_) (h1 : at_ ≤ 1000000) (hl : 1 ≤ l.length) (hl2 : l.length ≤ 1000000) : ∃ b at' s', spec_l00Src_text.f c at_ seed l = some (b, at', s') ∧ b ∈ l ∧ at_ ≤ at' ∧ at' ≤ at_ + 2 := by
  obtain ⟨v, t, s, e, v0, v1, t0, t1⟩ := pick_some hc at_ seed (l.length : Int) ⟨h0, by omega⟩ (by omega)
  have v2 := v1 (by omega)
  unfold spec_l00Src_text.f
  rw [e, Option.bind_some]
  dsimp only
  rw [if_pos v0, if_pos v2]
  refine ⟨_, _, _, rfl, ?_, t0, t1⟩
  unfold rdOf
  rw [List.getD_eq_getElem?_getD, List.getElem?_eq_getElem (by omega)]
  exact List.getElem_mem _
end Go.Proofs.YtfenjlkopofopaaDoorB
end

section
/- The coils that are drawn: small lists. -/
namespace Go.Proofs.YtfenjlkopofopaaDoorB
open Go.RowKit Go.Proofs.YtfenjlkopofopaaDoorW.PrintWords Go.Proofs.YtfenjlkopofopaaDoorW.PrintLast Go.Proofs.YtfenjlkopofopaaDoor.P

theorem rdC_mem (l : List C) (i : Int) (h0 : 0 ≤ i) (h1 : i < (l.length : Int)) : rd_T23 l i ∈ l := by
  unfold rd_T23
  rw [List.getD_eq_getElem?_getD, List.getElem?_eq_getElem (by omega)]
  exact List.getElem_mem _
section
variable {c : List Int} (hc : Code c)
include hc
theorem kind_some (at_ seed : Int) (h0 : 0 ≤ at_) (h1 : at_ ≤ 1000000) : ∃ b at' s', spec_l23Kind.f c at_ seed = some (b, at', s') ∧ b.size ≤ 1048576 ∧ at_ ≤ at' ∧ at' ≤ at_ + 2 := by
  obtain ⟨b, t, s, e, hb, h2, h3⟩ := text_some hc at_ seed [(⟨#[104, 101, 109, 112]⟩ : ByteArray), (⟨#[104, 101, 109, 112]⟩ : ByteArray), (⟨#[109, 97, 110, 105, 108, 97]⟩ : ByteArray), (⟨#[119, 105, 114, 101, 45, 54]⟩ : ByteArray)] h0 h1 (by simp) (by simp)
  have hs : ∀ x ∈ [(⟨#[104, 101, 109, 112]⟩ : ByteArray), (⟨#[104, 101, 109, 112]⟩ : ByteArray), (⟨#[109, 97, 110, 105, 108, 97]⟩ : ByteArray), (⟨#[119, 105, 114, 101, 45, 54]⟩ : ByteArray)], x.size ≤ 1048576 := of_decide_eq_true rfl
  refine ⟨b, t, s, ?_, hs b hb, h2, h3⟩
  unfold spec_l23Kind.f
  rw [e]
  rfl
theorem new_coil (at_ seed : Int) (h0 : 0 ≤ at_) (h1 : at_ ≤ 900000) : ∃ b n at' s', spec_l23New.f c at_ seed = some (b, n, at', s') ∧ GoodCoil ⟨b, n⟩ ∧ 50 ≤ n ∧ n ≤ 640 ∧ at_ ≤ at' ∧ at' ≤ at_ + 4 := by
  obtain ⟨b, t, s, e, hb, h2, h3⟩ := kind_some hc at_ seed h0 (by omega)
  obtain ⟨u, t1, s1, e1, u0, u1, p0, p1⟩ := pick_some hc t s 60 ⟨by omega, by omega⟩ (by omega)
  have u2 := u1 (by omega)
  have hw : wrap64 (50 + wrap64 (10 * u)) = 50 + 10 * u := by rw [wrap_small (i := 10 * u) (by omega) (by omega), wrap_small (by omega) (by omega)]
  refine ⟨b, 50 + 10 * u, t1, s1, ?_, ⟨hb, ?_⟩, by omega, by omega, by omega, by omega⟩
  · unfold spec_l23New.f
    rw [e, Option.bind_some]
    dsimp only
    rw [e1, Option.bind_some]
    dsimp only
    rw [hw]
  · show I64 (50 + 10 * u); unfold I64; omega
theorem draw_coils : ∀ (d : Nat) (l : List C) (at_ seed : Int), l.length + d ≤ 100 → 0 ≤ at_ → at_ + 4 * d ≤ 800000 → (∀ x ∈ l, GoodCoil x) →
    ∃ r at' s', Ev (fun k => spec_l23Draw.l0 k l (d : Int) c at_ seed) (r, at', s') ∧ r.length ≤ 100 ∧ (∀ x ∈ r, GoodCoil x) ∧ at_ ≤ at' ∧ at' ≤ at_ + 4 * d := by
  intro d
  induction d with
  | zero =>
    intro l at_ seed hl h0 h1 hg
    exact ⟨l, at_, seed, Ev.step (fun k => by rw [spec_l23Draw.l0]) (ev_neg (by omega) (Ev.now _)), by omega, hg, by omega, by omega⟩
  | succ d ih =>
    intro l at_ seed hl h0 h1 hg
    obtain ⟨b, n, t, s, e, g, _, _, t0, t1⟩ := new_coil hc at_ seed h0 (by omega)
    obtain ⟨r, t', s', k1, k2, k3, k4, k5⟩ := ih (l ++ [⟨b, n⟩]) t s (by simp; omega) (by omega) (by omega) (fun x hx => by
      rcases List.mem_append.1 hx with h | h
      · exact hg x h
      · rw [List.mem_singleton.1 h]; exact g)
    refine ⟨r, t', s', ?_, k2, k3, by omega, by omega⟩
    refine Ev.step (fun k => by rw [spec_l23Draw.l0]) (ev_pos (by omega) (ev_bind0 e ?_))
    dsimp only
    refine ev_pos (by omega) ?_
    rw [wrap_small (i := ((d + 1 : Nat) : Int) - 1) (by omega) (by omega), show ((d + 1 : Nat) : Int) - 1 = (d : Int) by omega]
    exact k1
theorem draw_some (at_ seed : Int) (h0 : 0 ≤ at_) (h1 : at_ ≤ 1000) : ∃ r at' s', Ev (fun k => spec_l23Draw.f k c at_ seed) (r, at', s') ∧ r.length ≤ 100 ∧ (∀ x ∈ r, GoodCoil x) ∧ at_ ≤ at' ∧ at' ≤ at_ + 500 := by
  obtain ⟨u, t1, s1, e1, u0, u1, p0, p1⟩ := pick_some hc at_ seed 7 ⟨h0, by omega⟩ (by omega)
  have u2 := u1 (by omega)
  obtain ⟨b, t2, s2, e2, p2, p3⟩ := one_some hc t1 s1 16 (by omega) (by omega) (by omega)
  have fin : ∀ (n : Int) (t s : Int), 0 ≤ n → n ≤ 41 → at_ ≤ t → t ≤ at_ + 10 → ∃ r at' s', Ev (fun k => spec_l23Draw.j0 k [] n c t s) (r, at', s') ∧ r.length ≤ 100 ∧ (∀ x ∈ r, GoodCoil x) ∧ at_ ≤ at' ∧ at' ≤ at_ + 500 := by
    intro n t s n0 n1 q0 q1
    obtain ⟨r, t', s', k1, k2, k3, k4, k5⟩ := draw_coils hc n.toNat [] t s (by simp; omega) (by omega) (by omega) (by simp)
    rw [Int.toNat_of_nonneg n0] at k1
    exact ⟨r, t', s', Ev.step (fun k => by rw [spec_l23Draw.j0]) k1, k2, k3, by omega, by omega⟩
  unfold spec_l23Draw.f
  simp only [Option.bind_some]
  cases b with
  | false =>
    obtain ⟨r, t', s', k1, k2⟩ := fin u t2 s2 u0 (by omega) (by omega) (by omega)
    refine ⟨r, t', s', ev_bind0 e1 (ev_bind0 e2 (ev_neg (by simp) k1)), k2⟩
  | true =>
    obtain ⟨n, t3, s3, e3, hn, p4, p5⟩ := among_some hc t2 s2 [7, 8, 40, 41] (by omega) (by omega) (by simp) (by simp)
    have hn2 : 0 ≤ n ∧ n ≤ 41 := by
      simp at hn
      omega
    obtain ⟨r, t', s', k1, k2⟩ := fin n t3 s3 hn2.1 hn2.2 (by omega) (by omega)
    exact ⟨r, t', s', ev_bind0 e1 (ev_bind0 e2 (ev_pos rfl (ev_bind0 e3 k1))), k2⟩
end
end Go.Proofs.YtfenjlkopofopaaDoorB
end
