/- Texts of this claim, packed: Px34. -/
import Derived.Test.YtfkiamccipoioaaZFnDeckStates10
section
-- Written by gprint.py (own program, over the printer of the kit) out of the translation. Lean checks it.
namespace Go.Proofs.Ytfkiamccipoioaa.P
open Go.RowKit Go.Proofs.YtfkiamccipoioaaW.PrintWords Go.Proofs.YtfkiamccipoioaaW.PrintLast Go.Proofs.YtfkiamccipoioaaW.PrintMore Go.Proofs.YtfkiamccipoioaaW.Pk
open Bool renaming true → T_, false → F_
open List renaming setIfInBounds_toArray → sT_, set_cons_zero → s0_, set_cons_succ → sS_
attribute [local go_sem] max2_int min2_int max_two min_two max_three min_three max_four min_four   -- for this text's walks alone
set_option linter.unusedVariables false
set_option linter.unusedSimpArgs false

/-! ### laws_a2Has: function 47 -/
def laws_a2Has.l0 : Nat → List Int → Int → Int → Option (Bool)
 | 0, _, _, _ => none
 | k + 1, x0, x1, x5 => if x5 < (x0.length : Int) then (if 0 ≤ x5 then (if (rd x0 x5) = x1 then (some true) else (laws_a2Has.l0 k x0 x1 (wrap64 (x5 + 1)))) else (none)) else (some false)
def laws_a2Has.f (k : Nat) (l0 : List Int) (a1 : Int) : Option (Bool) := laws_a2Has.l0 k l0 a1 0
set_option maxHeartbeats 8000000 in
set_option maxRecDepth 100000 in
theorem laws_a2Has.calls (k : Nat) (A0 : Option Addr) (c0 : Nat) (l0 : List Int) (a1 : Int) (r : Bool) (w : World) (hr0 : Kd.C (Kd.int .i64) w A0 l0.length l0) (hc0 : l0.length ≤ c0) (h : laws_a2Has.f k l0 a1 = some r) :
  Calls Try.prog 47 #[.slice A0 l0.length c0, .int .i64 a1] w fun e w' => e = .returned (.bool r) ∧ Drawn0 w w' := by
 have HR0 := Aside0.mk hr0
 have HC0 := Aside0.mk hc0
 clear hr0 hc0
 have H : (laws_a2Has.l0 k l0 a1 0) = some r := h
 clear h
 have H' := Aside0.mk H
 clear H
 go_enter Try.func47, Try.ntmps47
 go_wp2
 go_loopg [5] k (fun kq v5 w' => ∃ (x5_1 : Int), v5 = .int .i64 x5_1 ∧ Aside0 (laws_a2Has.l0 kq l0 a1 x5_1 = some r) ∧ Aside0 (kq ≤ k) ∧ Drawn0 w w')
 case atStart => exact ⟨(0), (by first | rfl | (simp; done) | (simp [*]; done)), H', ⟨Nat.le_refl _⟩, by repeat (first | exact Drawn0.refl _ | apply Drawn0.step)⟩
 case round =>
  clear H'
  try clear p2
  obtain ⟨x5_1, rfl, HA, HK1, ⟨m1, rfl⟩⟩ := hrel
  cases gk with
  | zero => exact absurd HA.out (by simp [laws_a2Has.l0])
  | succ k1 =>
   have H := HA.out
   clear HA
   simp only [laws_a2Has.l0] at H
   by_cases c3 : x5_1 < (l0.length : Int)
   ·rw [if_pos c3] at H
    have c3b0 : decide (x5_1 < (l0.length : Int)) = true := decide_eq_true c3
    clear c3
    by_cases c4 : 0 ≤ x5_1
    ·rw [if_pos c4] at H
     have c4b0 : decide (0 ≤ x5_1) = true := decide_eq_true c4
     clear c4
     by_cases c5 : (rd l0 x5_1) = a1
     ·rw [if_pos c5] at H
      have c5b0 : ((rd l0 x5_1) == a1) = true := beq_iff_eq.mpr c5
      have c5b1 : ((rd l0 x5_1) != a1) = false := bne_eq_false_iff_eq.mpr c5
      clear c5
      obtain rfl := Option.some.inj H
      have p838 : 0 ≤ (x5_1 : Int) := od_
      have q838 : x5_1 < (l0.length : Int) := od_
      obtain ⟨ad838, e838, hx838_0⟩ := Kd.at_int HR0.out x5_1 p838 q838
      cases e838
      replace p838 := eq_true p838
      replace q838 := eq_true q838
      go_wp2
      go_ret
      exact ⟨by first | rfl | (simp; done) | (simp [*]; done), by repeat (first | exact Drawn0.refl _ | apply Drawn0.step)⟩
     ·rw [if_neg c5] at H
      have c5b0 : ((rd l0 x5_1) == a1) = false := beq_eq_false_iff_ne.mpr c5
      have c5b1 : ((rd l0 x5_1) != a1) = true := bne_iff_ne.mpr c5
      have H' := Aside0.mk H
      clear H
      have p838 : 0 ≤ (x5_1 : Int) := od_
      have q838 : x5_1 < (l0.length : Int) := od_
      obtain ⟨ad838, e838, hx838_0⟩ := Kd.at_int HR0.out x5_1 p838 q838
      cases e838
      replace p838 := eq_true p838
      replace q838 := eq_true q838
      go_wp2
      go_roundg k1
      case measure => have := HK1.out; omega
      case rel => exact ⟨(wrap64 (x5_1 + 1)), (by first | rfl | (simp; done) | (simp [*]; done)), H', ⟨by have := HK1.out; omega⟩, by repeat (first | exact Drawn0.refl _ | apply Drawn0.step)⟩
    ·rw [if_neg c4] at H
     exact absurd H (by simp)
   ·rw [if_neg c3] at H
    have c3b0 : decide (x5_1 < (l0.length : Int)) = false := decide_eq_false c3
    clear c3
    obtain rfl := Option.some.inj H
    go_wp2
    go_ret
    exact ⟨by first | rfl | (simp; done) | (simp [*]; done), by repeat (first | exact Drawn0.refl _ | apply Drawn0.step)⟩

/-! ### laws_FnDeckStates: function 14 -/
mutual
def laws_FnDeckStates.j0 : Nat → ByteArray → Int → List Int → List Int → List Int → Bool → List Int → List (List Int) → Option (Bool)
 | 0, _, _, _, _, _, _, _, _ => none
 | k + 1, x4, x5, x6, x8, x10, x102, x848000, x848001 => if x102 = true then (some false) else (laws_FnDeckStates.l0 k x4 x5 x6 x8 x10 0 x848000 x848001)
def laws_FnDeckStates.l0 : Nat → ByteArray → Int → List Int → List Int → List Int → Int → List Int → List (List Int) → Option (Bool)
 | 0, _, _, _, _, _, _, _, _ => none
 | k + 1, x4, x5, x6, x8, x10, x14, x848000, x848001 => if x14 < x5 then (if 0 ≤ x14 then (if x14 < (x848000.length : Int) then (if (rd x848000 x14) < 0 then (laws_FnDeckStates.j2 k x4 x5 x6 x8 x10 x14 true x848000 x848001) else (if 0 ≤ (rd x848000 x14) then (if (rd x848000 x14) < (x4.size : Int) then (laws_FnDeckStates.j2 k x4 x5 x6 x8 x10 x14 ((bt x4 (rd x848000 x14)) == 70) x848000 x848001) else (none)) else (none))) else (none)) else (none)) else (some true)
def laws_FnDeckStates.j2 : Nat → ByteArray → Int → List Int → List Int → List Int → Int → Bool → List Int → List (List Int) → Option (Bool)
 | 0, _, _, _, _, _, _, _, _, _ => none
 | k + 1, x4, x5, x6, x8, x10, x14, x16, x848000, x848001 => laws_FnDeckStates.l1 k x4 x5 x6 x8 x10 x14 x16 true 0 x848000 x848001
def laws_FnDeckStates.l1 : Nat → ByteArray → Int → List Int → List Int → List Int → Int → Bool → Bool → Int → List Int → List (List Int) → Option (Bool)
 | 0, _, _, _, _, _, _, _, _, _, _, _ => none
 | k + 1, x4, x5, x6, x8, x10, x14, x16, x17, x18, x848000, x848001 => if x18 < (x848001.length : Int) then (if 0 ≤ x18 then (if x18 < (x6.length : Int) then ((laws_a2Has.f k (rd_L1 x848001 x18) x14).bind fun t866 => (if t866 = true then (if 0 ≤ x14 then (if x14 < (x4.size : Int) then (if (bt x4 x14) = 70 then (if x17 = true then (laws_FnDeckStates.l1 k x4 x5 x6 x8 x10 x14 x16 (decide ((wrap64 ((rd x6 x18) - 1)) > 0)) (wrap64 (x18 + 1)) x848000 x848001) else (laws_FnDeckStates.l1 k x4 x5 x6 x8 x10 x14 x16 false (wrap64 (x18 + 1)) x848000 x848001)) else (if x17 = true then (laws_FnDeckStates.l1 k x4 x5 x6 x8 x10 x14 x16 (decide ((wrap64 ((rd x6 x18) + 1)) > 0)) (wrap64 (x18 + 1)) x848000 x848001) else (laws_FnDeckStates.l1 k x4 x5 x6 x8 x10 x14 x16 false (wrap64 (x18 + 1)) x848000 x848001))) else (none)) else (none)) else (if x17 = true then (laws_FnDeckStates.l1 k x4 x5 x6 x8 x10 x14 x16 (decide ((rd x6 x18) > 0)) (wrap64 (x18 + 1)) x848000 x848001) else (laws_FnDeckStates.l1 k x4 x5 x6 x8 x10 x14 x16 false (wrap64 (x18 + 1)) x848000 x848001)))) else (none)) else (none)) else ((laws_a2Has.f k x8 x14).bind fun t867 => ((impl_ChangeLine.f k x848000 x848001 x4 x14).bind fun bt868 => (if x16 = true then (if (t867 != x17) = true then (some false) else (if (t867 != (bt868.2 == 0)) = true then (some false) else (if x17 = true then (if t867 = true then ((laws_a2Has.f k x10 x14).bind fun t870 => (if t870 = true then (some false) else (laws_FnDeckStates.l0 k x4 x5 x6 x8 x10 (wrap64 (x14 + 1)) x848000 x848001))) else (laws_FnDeckStates.l0 k x4 x5 x6 x8 x10 (wrap64 (x14 + 1)) x848000 x848001)) else (if bt868.2 = 10 then (if t867 = true then ((laws_a2Has.f k x10 x14).bind fun t871 => (if t871 = true then (some false) else (laws_FnDeckStates.l0 k x4 x5 x6 x8 x10 (wrap64 (x14 + 1)) x848000 x848001))) else (laws_FnDeckStates.l0 k x4 x5 x6 x8 x10 (wrap64 (x14 + 1)) x848000 x848001)) else (some false))))) else (if (t867 != false) = true then (some false) else (if (t867 != (bt868.2 == 0)) = true then (some false) else (if bt868.2 = 6 then (if t867 = true then ((laws_a2Has.f k x10 x14).bind fun t872 => (if t872 = true then (some false) else (laws_FnDeckStates.l0 k x4 x5 x6 x8 x10 (wrap64 (x14 + 1)) x848000 x848001))) else (laws_FnDeckStates.l0 k x4 x5 x6 x8 x10 (wrap64 (x14 + 1)) x848000 x848001)) else (some false)))))))
end
def laws_FnDeckStates.f (k : Nat) (l0 : List Int) : Option (Bool) := (laws_a2Long.f l0 ([] : List Int)).bind fun t839 => (if t839 = true then (some true) else ((spec_A2Deck.f k l0).bind fun bt840 => ((impl_HeldBy.f k bt840.1 bt840.2.1 bt840.2.2).bind fun bt848 => ((impl_ChangesOf.f k bt840.1 bt840.2.1 bt840.2.2).bind fun bt852 => ((impl_StuckLines.f k bt840.1 bt840.2.1 bt840.2.2).bind fun bt856 => ((impl_ReachedStates.f k bt840.1 bt840.2.1 bt840.2.2).bind fun bt860 => (if bt848.2 = 0 then (if (bt848.1.length : Int) = (bt840.2.1.length : Int) then (if bt852.2 = 0 then (if bt856.2 = 0 then ((laws_a2Rises.f k bt856.1 (bt840.2.2.size : Int)).bind fun t862 => (if t862 = true then (if bt860.2 = 0 then (if bt860.1 < 1 then (laws_FnDeckStates.j0 k bt840.2.2 (bt840.2.2.size : Int) bt848.1 bt852.1 bt856.1 true bt840.1 bt840.2.1) else (if 0 ≤ (IntKind.u64.wrap ((bt840.2.2.size : Int))) then (if bt860.1 > (shl .i64 1 (IntKind.u64.wrap ((bt840.2.2.size : Int)))) then (laws_FnDeckStates.j0 k bt840.2.2 (bt840.2.2.size : Int) bt848.1 bt852.1 bt856.1 true bt840.1 bt840.2.1) else (laws_FnDeckStates.j0 k bt840.2.2 (bt840.2.2.size : Int) bt848.1 bt852.1 bt856.1 ((bt860.1 == 1) != ((bt852.1.length : Int) == 0)) bt840.1 bt840.2.1)) else (none))) else (laws_FnDeckStates.j0 k bt840.2.2 (bt840.2.2.size : Int) bt848.1 bt852.1 bt856.1 true bt840.1 bt840.2.1)) else (laws_FnDeckStates.j0 k bt840.2.2 (bt840.2.2.size : Int) bt848.1 bt852.1 bt856.1 true bt840.1 bt840.2.1))) else (laws_FnDeckStates.j0 k bt840.2.2 (bt840.2.2.size : Int) bt848.1 bt852.1 bt856.1 true bt840.1 bt840.2.1)) else (laws_FnDeckStates.j0 k bt840.2.2 (bt840.2.2.size : Int) bt848.1 bt852.1 bt856.1 true bt840.1 bt840.2.1)) else (laws_FnDeckStates.j0 k bt840.2.2 (bt840.2.2.size : Int) bt848.1 bt852.1 bt856.1 true bt840.1 bt840.2.1)) else (laws_FnDeckStates.j0 k bt840.2.2 (bt840.2.2.size : Int) bt848.1 bt852.1 bt856.1 true bt840.1 bt840.2.1))))))))
set_option maxHeartbeats 8000000 in
set_option maxRecDepth 100000 in
theorem laws_FnDeckStates.calls (k : Nat) (A0 : Option Addr) (c0 : Nat) (l0 : List Int) (r : Bool) (w : World) (hr0 : Kd.C (Kd.int .u8) w A0 l0.length l0) (hc0 : l0.length ≤ c0) (h : laws_FnDeckStates.f k l0 = some r) :
  Calls Try.prog 14 #[.slice A0 l0.length c0] w fun e w' => e = .returned (.bool r) ∧ Below w.heap.size w w' := by
 have hu28 := Try.underlying28
 have HR0 := Aside0.mk hr0
 have HC0 := Aside0.mk hc0
 clear hr0 hc0
 have HB := Aside0.mk (Below.refl w.heap.size w)
 have H : ((laws_a2Long.f l0 ([] : List Int)).bind fun t839 => (if t839 = true then (some true) else ((spec_A2Deck.f k l0).bind fun bt840 => ((impl_HeldBy.f k bt840.1 bt840.2.1 bt840.2.2).bind fun bt848 => ((impl_ChangesOf.f k bt840.1 bt840.2.1 bt840.2.2).bind fun bt852 => ((impl_StuckLines.f k bt840.1 bt840.2.1 bt840.2.2).bind fun bt856 => ((impl_ReachedStates.f k bt840.1 bt840.2.1 bt840.2.2).bind fun bt860 => (if bt848.2 = 0 then (if (bt848.1.length : Int) = (bt840.2.1.length : Int) then (if bt852.2 = 0 then (if bt856.2 = 0 then ((laws_a2Rises.f k bt856.1 (bt840.2.2.size : Int)).bind fun t862 => (if t862 = true then (if bt860.2 = 0 then (if bt860.1 < 1 then (laws_FnDeckStates.j0 k bt840.2.2 (bt840.2.2.size : Int) bt848.1 bt852.1 bt856.1 true bt840.1 bt840.2.1) else (if 0 ≤ (IntKind.u64.wrap ((bt840.2.2.size : Int))) then (if bt860.1 > (shl .i64 1 (IntKind.u64.wrap ((bt840.2.2.size : Int)))) then (laws_FnDeckStates.j0 k bt840.2.2 (bt840.2.2.size : Int) bt848.1 bt852.1 bt856.1 true bt840.1 bt840.2.1) else (laws_FnDeckStates.j0 k bt840.2.2 (bt840.2.2.size : Int) bt848.1 bt852.1 bt856.1 ((bt860.1 == 1) != ((bt852.1.length : Int) == 0)) bt840.1 bt840.2.1)) else (none))) else (laws_FnDeckStates.j0 k bt840.2.2 (bt840.2.2.size : Int) bt848.1 bt852.1 bt856.1 true bt840.1 bt840.2.1)) else (laws_FnDeckStates.j0 k bt840.2.2 (bt840.2.2.size : Int) bt848.1 bt852.1 bt856.1 true bt840.1 bt840.2.1))) else (laws_FnDeckStates.j0 k bt840.2.2 (bt840.2.2.size : Int) bt848.1 bt852.1 bt856.1 true bt840.1 bt840.2.1)) else (laws_FnDeckStates.j0 k bt840.2.2 (bt840.2.2.size : Int) bt848.1 bt852.1 bt856.1 true bt840.1 bt840.2.1)) else (laws_FnDeckStates.j0 k bt840.2.2 (bt840.2.2.size : Int) bt848.1 bt852.1 bt856.1 true bt840.1 bt840.2.1)) else (laws_FnDeckStates.j0 k bt840.2.2 (bt840.2.2.size : Int) bt848.1 bt852.1 bt856.1 true bt840.1 bt840.2.1))))))))) = some r := h
 clear h
 replace H := Option.bind_eq_some_iff.mp H
 obtain ⟨t839, A20, H⟩ := H
 replace H : (if t839 = true then (some true) else ((spec_A2Deck.f k l0).bind fun bt840 => ((impl_HeldBy.f k bt840.1 bt840.2.1 bt840.2.2).bind fun bt848 => ((impl_ChangesOf.f k bt840.1 bt840.2.1 bt840.2.2).bind fun bt852 => ((impl_StuckLines.f k bt840.1 bt840.2.1 bt840.2.2).bind fun bt856 => ((impl_ReachedStates.f k bt840.1 bt840.2.1 bt840.2.2).bind fun bt860 => (if bt848.2 = 0 then (if (bt848.1.length : Int) = (bt840.2.1.length : Int) then (if bt852.2 = 0 then (if bt856.2 = 0 then ((laws_a2Rises.f k bt856.1 (bt840.2.2.size : Int)).bind fun t862 => (if t862 = true then (if bt860.2 = 0 then (if bt860.1 < 1 then (laws_FnDeckStates.j0 k bt840.2.2 (bt840.2.2.size : Int) bt848.1 bt852.1 bt856.1 true bt840.1 bt840.2.1) else (if 0 ≤ (IntKind.u64.wrap ((bt840.2.2.size : Int))) then (if bt860.1 > (shl .i64 1 (IntKind.u64.wrap ((bt840.2.2.size : Int)))) then (laws_FnDeckStates.j0 k bt840.2.2 (bt840.2.2.size : Int) bt848.1 bt852.1 bt856.1 true bt840.1 bt840.2.1) else (laws_FnDeckStates.j0 k bt840.2.2 (bt840.2.2.size : Int) bt848.1 bt852.1 bt856.1 ((bt860.1 == 1) != ((bt852.1.length : Int) == 0)) bt840.1 bt840.2.1)) else (none))) else (laws_FnDeckStates.j0 k bt840.2.2 (bt840.2.2.size : Int) bt848.1 bt852.1 bt856.1 true bt840.1 bt840.2.1)) else (laws_FnDeckStates.j0 k bt840.2.2 (bt840.2.2.size : Int) bt848.1 bt852.1 bt856.1 true bt840.1 bt840.2.1))) else (laws_FnDeckStates.j0 k bt840.2.2 (bt840.2.2.size : Int) bt848.1 bt852.1 bt856.1 true bt840.1 bt840.2.1)) else (laws_FnDeckStates.j0 k bt840.2.2 (bt840.2.2.size : Int) bt848.1 bt852.1 bt856.1 true bt840.1 bt840.2.1)) else (laws_FnDeckStates.j0 k bt840.2.2 (bt840.2.2.size : Int) bt848.1 bt852.1 bt856.1 true bt840.1 bt840.2.1)) else (laws_FnDeckStates.j0 k bt840.2.2 (bt840.2.2.size : Int) bt848.1 bt852.1 bt856.1 true bt840.1 bt840.2.1)))))))) = some r := H
 have A2 := Aside0.mk A20
 clear A20
 by_cases c3 : t839 = true
 ·subst c3
  have H1 : (some true) = some r := by rw [if_pos rfl] at H; exact H
  clear H
  have H := H1
  clear H1
  obtain rfl := Option.some.inj H
  go_enter Try.func14, Try.ntmps14
  go_wp2_with (first | ((with_reducible refine gate_callee (f := 43) rfl ?_); refine goesL_ (some 24) rfl rfl Try.func43 (by kernel_rfl) rfl #[.slice A0 l0.length c0, .slice none 0 0] rfl ln_ ?_; (refine (laws_a2Long.calls _ _ l0 _ _ ([] : List Int) true _ ?side1 ?side2 ?side3 ?side4 A2.out).mono ?_); (case side1 => exact kc_ HR0.out); (case side2 => exact HC0.out); (case side3 => exact Kd.C_nil _ _); (case side4 => exact Nat.le_refl _); rintro e w' ⟨rfl, ⟨nd, rfl⟩⟩; refine ⟨_, rfl, ?_⟩))
  go_ret
  exact ⟨ew_, hb_⟩
 ·replace c3 := Bool.eq_false_iff.mpr c3
  subst c3
  have H1 : ((spec_A2Deck.f k l0).bind fun bt840 => ((impl_HeldBy.f k bt840.1 bt840.2.1 bt840.2.2).bind fun bt848 => ((impl_ChangesOf.f k bt840.1 bt840.2.1 bt840.2.2).bind fun bt852 => ((impl_StuckLines.f k bt840.1 bt840.2.1 bt840.2.2).bind fun bt856 => ((impl_ReachedStates.f k bt840.1 bt840.2.1 bt840.2.2).bind fun bt860 => (if bt848.2 = 0 then (if (bt848.1.length : Int) = (bt840.2.1.length : Int) then (if bt852.2 = 0 then (if bt856.2 = 0 then ((laws_a2Rises.f k bt856.1 (bt840.2.2.size : Int)).bind fun t862 => (if t862 = true then (if bt860.2 = 0 then (if bt860.1 < 1 then (laws_FnDeckStates.j0 k bt840.2.2 (bt840.2.2.size : Int) bt848.1 bt852.1 bt856.1 true bt840.1 bt840.2.1) else (if 0 ≤ (IntKind.u64.wrap ((bt840.2.2.size : Int))) then (if bt860.1 > (shl .i64 1 (IntKind.u64.wrap ((bt840.2.2.size : Int)))) then (laws_FnDeckStates.j0 k bt840.2.2 (bt840.2.2.size : Int) bt848.1 bt852.1 bt856.1 true bt840.1 bt840.2.1) else (laws_FnDeckStates.j0 k bt840.2.2 (bt840.2.2.size : Int) bt848.1 bt852.1 bt856.1 ((bt860.1 == 1) != ((bt852.1.length : Int) == 0)) bt840.1 bt840.2.1)) else (none))) else (laws_FnDeckStates.j0 k bt840.2.2 (bt840.2.2.size : Int) bt848.1 bt852.1 bt856.1 true bt840.1 bt840.2.1)) else (laws_FnDeckStates.j0 k bt840.2.2 (bt840.2.2.size : Int) bt848.1 bt852.1 bt856.1 true bt840.1 bt840.2.1))) else (laws_FnDeckStates.j0 k bt840.2.2 (bt840.2.2.size : Int) bt848.1 bt852.1 bt856.1 true bt840.1 bt840.2.1)) else (laws_FnDeckStates.j0 k bt840.2.2 (bt840.2.2.size : Int) bt848.1 bt852.1 bt856.1 true bt840.1 bt840.2.1)) else (laws_FnDeckStates.j0 k bt840.2.2 (bt840.2.2.size : Int) bt848.1 bt852.1 bt856.1 true bt840.1 bt840.2.1)) else (laws_FnDeckStates.j0 k bt840.2.2 (bt840.2.2.size : Int) bt848.1 bt852.1 bt856.1 true bt840.1 bt840.2.1))))))) = some r := by rw [if_neg (show ¬ (false = true) by decide)] at H; exact H
  clear H
  have H := H1
  clear H1
  replace H := Option.bind_eq_some_iff.mp H
  obtain ⟨⟨t840, t843, t846⟩, A40, H⟩ := H
  replace H : ((impl_HeldBy.f k t840 t843 t846).bind fun bt848 => ((impl_ChangesOf.f k t840 t843 t846).bind fun bt852 => ((impl_StuckLines.f k t840 t843 t846).bind fun bt856 => ((impl_ReachedStates.f k t840 t843 t846).bind fun bt860 => (if bt848.2 = 0 then (if (bt848.1.length : Int) = (t843.length : Int) then (if bt852.2 = 0 then (if bt856.2 = 0 then ((laws_a2Rises.f k bt856.1 (t846.size : Int)).bind fun t862 => (if t862 = true then (if bt860.2 = 0 then (if bt860.1 < 1 then (laws_FnDeckStates.j0 k t846 (t846.size : Int) bt848.1 bt852.1 bt856.1 true t840 t843) else (if 0 ≤ (IntKind.u64.wrap ((t846.size : Int))) then (if bt860.1 > (shl .i64 1 (IntKind.u64.wrap ((t846.size : Int)))) then (laws_FnDeckStates.j0 k t846 (t846.size : Int) bt848.1 bt852.1 bt856.1 true t840 t843) else (laws_FnDeckStates.j0 k t846 (t846.size : Int) bt848.1 bt852.1 bt856.1 ((bt860.1 == 1) != ((bt852.1.length : Int) == 0)) t840 t843)) else (none))) else (laws_FnDeckStates.j0 k t846 (t846.size : Int) bt848.1 bt852.1 bt856.1 true t840 t843)) else (laws_FnDeckStates.j0 k t846 (t846.size : Int) bt848.1 bt852.1 bt856.1 true t840 t843))) else (laws_FnDeckStates.j0 k t846 (t846.size : Int) bt848.1 bt852.1 bt856.1 true t840 t843)) else (laws_FnDeckStates.j0 k t846 (t846.size : Int) bt848.1 bt852.1 bt856.1 true t840 t843)) else (laws_FnDeckStates.j0 k t846 (t846.size : Int) bt848.1 bt852.1 bt856.1 true t840 t843)) else (laws_FnDeckStates.j0 k t846 (t846.size : Int) bt848.1 bt852.1 bt856.1 true t840 t843)))))) = some r := H
  have A4 := Aside0.mk A40
  clear A40
  replace H := Option.bind_eq_some_iff.mp H
  obtain ⟨⟨t848, t851⟩, A50, H⟩ := H
  replace H : ((impl_ChangesOf.f k t840 t843 t846).bind fun bt852 => ((impl_StuckLines.f k t840 t843 t846).bind fun bt856 => ((impl_ReachedStates.f k t840 t843 t846).bind fun bt860 => (if t851 = 0 then (if (t848.length : Int) = (t843.length : Int) then (if bt852.2 = 0 then (if bt856.2 = 0 then ((laws_a2Rises.f k bt856.1 (t846.size : Int)).bind fun t862 => (if t862 = true then (if bt860.2 = 0 then (if bt860.1 < 1 then (laws_FnDeckStates.j0 k t846 (t846.size : Int) t848 bt852.1 bt856.1 true t840 t843) else (if 0 ≤ (IntKind.u64.wrap ((t846.size : Int))) then (if bt860.1 > (shl .i64 1 (IntKind.u64.wrap ((t846.size : Int)))) then (laws_FnDeckStates.j0 k t846 (t846.size : Int) t848 bt852.1 bt856.1 true t840 t843) else (laws_FnDeckStates.j0 k t846 (t846.size : Int) t848 bt852.1 bt856.1 ((bt860.1 == 1) != ((bt852.1.length : Int) == 0)) t840 t843)) else (none))) else (laws_FnDeckStates.j0 k t846 (t846.size : Int) t848 bt852.1 bt856.1 true t840 t843)) else (laws_FnDeckStates.j0 k t846 (t846.size : Int) t848 bt852.1 bt856.1 true t840 t843))) else (laws_FnDeckStates.j0 k t846 (t846.size : Int) t848 bt852.1 bt856.1 true t840 t843)) else (laws_FnDeckStates.j0 k t846 (t846.size : Int) t848 bt852.1 bt856.1 true t840 t843)) else (laws_FnDeckStates.j0 k t846 (t846.size : Int) t848 bt852.1 bt856.1 true t840 t843)) else (laws_FnDeckStates.j0 k t846 (t846.size : Int) t848 bt852.1 bt856.1 true t840 t843))))) = some r := H
  have A5 := Aside0.mk A50
  clear A50
  replace H := Option.bind_eq_some_iff.mp H
  obtain ⟨⟨t852, t855⟩, A60, H⟩ := H
  replace H : ((impl_StuckLines.f k t840 t843 t846).bind fun bt856 => ((impl_ReachedStates.f k t840 t843 t846).bind fun bt860 => (if t851 = 0 then (if (t848.length : Int) = (t843.length : Int) then (if t855 = 0 then (if bt856.2 = 0 then ((laws_a2Rises.f k bt856.1 (t846.size : Int)).bind fun t862 => (if t862 = true then (if bt860.2 = 0 then (if bt860.1 < 1 then (laws_FnDeckStates.j0 k t846 (t846.size : Int) t848 t852 bt856.1 true t840 t843) else (if 0 ≤ (IntKind.u64.wrap ((t846.size : Int))) then (if bt860.1 > (shl .i64 1 (IntKind.u64.wrap ((t846.size : Int)))) then (laws_FnDeckStates.j0 k t846 (t846.size : Int) t848 t852 bt856.1 true t840 t843) else (laws_FnDeckStates.j0 k t846 (t846.size : Int) t848 t852 bt856.1 ((bt860.1 == 1) != ((t852.length : Int) == 0)) t840 t843)) else (none))) else (laws_FnDeckStates.j0 k t846 (t846.size : Int) t848 t852 bt856.1 true t840 t843)) else (laws_FnDeckStates.j0 k t846 (t846.size : Int) t848 t852 bt856.1 true t840 t843))) else (laws_FnDeckStates.j0 k t846 (t846.size : Int) t848 t852 bt856.1 true t840 t843)) else (laws_FnDeckStates.j0 k t846 (t846.size : Int) t848 t852 bt856.1 true t840 t843)) else (laws_FnDeckStates.j0 k t846 (t846.size : Int) t848 t852 bt856.1 true t840 t843)) else (laws_FnDeckStates.j0 k t846 (t846.size : Int) t848 t852 bt856.1 true t840 t843)))) = some r := H
  have A6 := Aside0.mk A60
  clear A60
  replace H := Option.bind_eq_some_iff.mp H
  obtain ⟨⟨t856, t859⟩, A70, H⟩ := H
  replace H : ((impl_ReachedStates.f k t840 t843 t846).bind fun bt860 => (if t851 = 0 then (if (t848.length : Int) = (t843.length : Int) then (if t855 = 0 then (if t859 = 0 then ((laws_a2Rises.f k t856 (t846.size : Int)).bind fun t862 => (if t862 = true then (if bt860.2 = 0 then (if bt860.1 < 1 then (laws_FnDeckStates.j0 k t846 (t846.size : Int) t848 t852 t856 true t840 t843) else (if 0 ≤ (IntKind.u64.wrap ((t846.size : Int))) then (if bt860.1 > (shl .i64 1 (IntKind.u64.wrap ((t846.size : Int)))) then (laws_FnDeckStates.j0 k t846 (t846.size : Int) t848 t852 t856 true t840 t843) else (laws_FnDeckStates.j0 k t846 (t846.size : Int) t848 t852 t856 ((bt860.1 == 1) != ((t852.length : Int) == 0)) t840 t843)) else (none))) else (laws_FnDeckStates.j0 k t846 (t846.size : Int) t848 t852 t856 true t840 t843)) else (laws_FnDeckStates.j0 k t846 (t846.size : Int) t848 t852 t856 true t840 t843))) else (laws_FnDeckStates.j0 k t846 (t846.size : Int) t848 t852 t856 true t840 t843)) else (laws_FnDeckStates.j0 k t846 (t846.size : Int) t848 t852 t856 true t840 t843)) else (laws_FnDeckStates.j0 k t846 (t846.size : Int) t848 t852 t856 true t840 t843)) else (laws_FnDeckStates.j0 k t846 (t846.size : Int) t848 t852 t856 true t840 t843))) = some r := H
  have A7 := Aside0.mk A70
  clear A70
  replace H := Option.bind_eq_some_iff.mp H
  obtain ⟨⟨t860, t861⟩, A80, H⟩ := H
  replace H : (if t851 = 0 then (if (t848.length : Int) = (t843.length : Int) then (if t855 = 0 then (if t859 = 0 then ((laws_a2Rises.f k t856 (t846.size : Int)).bind fun t862 => (if t862 = true then (if t861 = 0 then (if t860 < 1 then (laws_FnDeckStates.j0 k t846 (t846.size : Int) t848 t852 t856 true t840 t843) else (if 0 ≤ (IntKind.u64.wrap ((t846.size : Int))) then (if t860 > (shl .i64 1 (IntKind.u64.wrap ((t846.size : Int)))) then (laws_FnDeckStates.j0 k t846 (t846.size : Int) t848 t852 t856 true t840 t843) else (laws_FnDeckStates.j0 k t846 (t846.size : Int) t848 t852 t856 ((t860 == 1) != ((t852.length : Int) == 0)) t840 t843)) else (none))) else (laws_FnDeckStates.j0 k t846 (t846.size : Int) t848 t852 t856 true t840 t843)) else (laws_FnDeckStates.j0 k t846 (t846.size : Int) t848 t852 t856 true t840 t843))) else (laws_FnDeckStates.j0 k t846 (t846.size : Int) t848 t852 t856 true t840 t843)) else (laws_FnDeckStates.j0 k t846 (t846.size : Int) t848 t852 t856 true t840 t843)) else (laws_FnDeckStates.j0 k t846 (t846.size : Int) t848 t852 t856 true t840 t843)) else (laws_FnDeckStates.j0 k t846 (t846.size : Int) t848 t852 t856 true t840 t843)) = some r := H
  have A8 := Aside0.mk A80
  clear A80
  have HC9 := Aside0.mk H
  clear H
  go_enter Try.func14, Try.ntmps14
  go_upto_region 9 with (first | ((with_reducible refine gate_callee (f := 43) rfl ?_); refine goesL_ (some 24) rfl rfl Try.func43 (by kernel_rfl) rfl #[.slice A0 l0.length c0, .slice none 0 0] rfl ln_ ?_; (refine (laws_a2Long.calls _ _ l0 _ _ ([] : List Int) false _ ?side1 ?side2 ?side3 ?side4 A2.out).mono ?_); (case side1 => exact kc_ HR0.out); (case side2 => exact HC0.out); (case side3 => exact Kd.C_nil _ _); (case side4 => exact Nat.le_refl _); rintro e w' ⟨rfl, ⟨nd, rfl⟩⟩; refine ⟨_, rfl, ?_⟩) | ((with_reducible refine gate_callee (f := 44) rfl ?_); refine goesL_ (some 27) rfl rfl Try.func44 (by kernel_rfl) rfl #[.slice A0 l0.length c0] rfl ln_ ?_; (with_reducible refine (spec_A2Deck.calls k _ _ l0 t840 t843 t846 _ ?side1 ?side2 A4.out).mono ?_); (case side1 => exact kc_ HR0.out); (case side2 => exact HC0.out); rintro e w10 ⟨v841, v844, rfl, ho0, ho1, hb⟩; refine ⟨_, rfl, ?_⟩; have n0_ := Aside0.mk (Kd.R_lower ho0 (below_size hb_)); have n1_ := Aside0.mk (Kd.S_lower ho1 (below_size hb_)); have n2_ := Aside0.mk (below_step hb_ hb); clear HB; have HO842 := n0_; have HO845 := n1_; have HB := n2_; clear n0_ n1_ n2_; (try clear hb); (try clear hb2); (try clear hk); (try clear hi); (try clear ho0); (try clear ho1)) | ((with_reducible refine gate_dst (N := 3) rfl ?_); (try (refine gate_guard (by rfl) ?_; dsimp only)); refine box_event ?hg (N := 3) ?hd (cs := #[.slice none 0 0, .slice none 0 0]) (t := 28) ?hr ?_; (case hd => rfl); (case hg => rfl); (case hr => first | (go_simp; done) | (go_simp; rfl)); intro gb847 hg w11 hbox hb; have n0_ := Aside0.mk (Kd.R_below (kr_ HO842) hb); have n1_ := Aside0.mk (Kd.S_below (by (with_reducible repeat (first | apply Kd.S_alloc | apply Kd.S_drewN | apply Kd.S_drew)); exact HO845.out) hb); have n2_ := Aside0.mk (below_step hb_ hb); have n3_ := Aside0.mk (hbox); have n4_ := Aside0.mk ((by rw [hg]; exact (below_size hb_) : w.heap.size ≤ gb847)); have n5_ := Aside0.mk ((by rw [hg]; exact (below_size hb_) : w.heap.size ≤ gb847)); clear HO842; clear HO845; clear HB; have HO842 := n0_; have HO845 := n1_; have HB := n2_; have BK847 := n3_; have GW847 := n4_; have GE847 := n5_; clear n0_ n1_ n2_ n3_ n4_ n5_; clear hb hbox hg; obtain ⟨Ao12, co12, eo12⟩ := Kd.R_slice HO842.out; subst eo12; have hcz13_0 : w11.cell? ⟨gb847, 0, none⟩ = some (.slice none 0 0) := (blk_cell BK847.out 0).trans rfl; have hcz13_1 : w11.cell? ⟨gb847, 1, none⟩ = some (.slice none 0 0) := (blk_cell BK847.out 1).trans rfl; have hfz13_0 := blk_frozen BK847.out 0; have hfz13_1 := blk_frozen BK847.out 1; obtain ⟨Ao14, co14, eo14⟩ := Kd.S_slice HO845.out; subst eo14) | ((with_reducible refine gate_callee (f := 23) rfl ?_); refine goesL_ (some 35) rfl rfl Try.func23 (by kernel_rfl) rfl #[.agg #[.slice Ao12 t840.length co12, .slice Ao14 t843.length co14], .string t846] rfl ln_ ?_; (with_reducible refine (impl_HeldBy.calls k _ _ t840 _ _ t843 t846 t848 t851 _ ?side1 ?side2 ?side3 ?side4 A5.out).mono ?_); (case side1 => refine (Kd.R_reads' (e := 2) (base := w.heap.size) (ok := fun k_ => True) (n := t840.length) (c := co12) ?_).2.2; exact (by (with_reducible repeat (first | apply Kd.R_alloc | apply Kd.R_drewN | apply Kd.R_drew)); exact (Kd.R_mono (Kd.R_far (p := ⟨gb847, 1, none⟩) (Kd.R_far (p := ⟨gb847, 0, none⟩) (Kd.R_types HO842.out BK847.out (by decide)) (fun _ hk => hk.2) (.slice Ao12 t840.length co12)) (fun _ hk => hk.2) (.slice Ao14 t843.length co14)) (fun _ h_ => h_.1)))); (case side2 => exact (Kd.R_reads' HO842.out).2.1); (case side3 => refine (Kd.S_reads' (e := 22) (base := w.heap.size) (ok := fun k_ => some k_ ≠ (.slice Ao12 t840.length co12 : Value).ownBlock) (n := t843.length) (c := co14) ?_).2.2; exact (by (with_reducible repeat (first | apply Kd.S_alloc | apply Kd.S_drewN | apply Kd.S_drew)); exact (Kd.S_mono (Kd.S_far (p := ⟨gb847, 1, none⟩) (Kd.S_far (p := ⟨gb847, 0, none⟩) (Kd.S_types HO845.out BK847.out (by decide)) (fun _ hk => hk.2) (.slice Ao12 t840.length co12)) (fun _ hk => hk.2) (.slice Ao14 t843.length co14)) (fun _ h_ => h_.1)))); (case side4 => exact (Kd.S_reads' HO845.out).2.1); rintro e w15 ⟨v849, rfl, ho0, hb⟩; refine ⟨_, rfl, ?_⟩; have n0_ := Aside0.mk (Kd.R_elder' (by (with_reducible repeat (first | apply Kd.R_alloc | apply Kd.R_drewN | apply Kd.R_drew)); exact (Kd.R_mono (Kd.R_far (p := ⟨gb847, 1, none⟩) (Kd.R_far (p := ⟨gb847, 0, none⟩) (Kd.R_types HO842.out BK847.out (by decide)) (fun _ hk => hk.2) (.slice Ao12 t840.length co12)) (fun _ hk => hk.2) (.slice Ao14 t843.length co14)) (fun _ h_ => h_.1))) (Kd.R_base ho0) hb); have n1_ := Aside0.mk (Kd.S_elder' (by (with_reducible repeat (first | apply Kd.S_alloc | apply Kd.S_drewN | apply Kd.S_drew)); exact (Kd.S_mono (Kd.S_far (p := ⟨gb847, 1, none⟩) (Kd.S_far (p := ⟨gb847, 0, none⟩) (Kd.S_types HO845.out BK847.out (by decide)) (fun _ hk => hk.2) (.slice Ao12 t840.length co12)) (fun _ hk => hk.2) (.slice Ao14 t843.length co14)) (fun _ h_ => h_.1))) (Kd.R_base ho0) hb); have n2_ := Aside0.mk (Kd.R_lower (Kd.R_new' ho0 (Kd.R_lt (by (with_reducible repeat (first | apply Kd.R_alloc | apply Kd.R_drewN | apply Kd.R_drew)); exact (Kd.R_mono (Kd.R_far (p := ⟨gb847, 1, none⟩) (Kd.R_far (p := ⟨gb847, 0, none⟩) (Kd.R_types HO842.out BK847.out (by decide)) (fun _ hk => hk.2) (.slice Ao12 t840.length co12)) (fun _ hk => hk.2) (.slice Ao14 t843.length co14)) (fun _ h_ => h_.1))))) (below_size (hg_ GE847))); have n3_ := Aside0.mk (blk_below (g := gb847) (o := .cells #[.slice Ao12 t840.length co12, .slice Ao14 t843.length co14] 28 (0, 0)) (by (with_reducible repeat (first | refine blk_drewN ?_ _ | refine blk_drew ?_ | refine blk_alloc ?_ _)); refine blk_put (cs := #[.slice Ao12 t840.length co12, .slice none 0 0]) ?_ 1 _ rfl; (with_reducible repeat (first | refine blk_drewN ?_ _ | refine blk_drew ?_ | refine blk_alloc ?_ _)); refine blk_put (cs := #[.slice none 0 0, .slice none 0 0]) ?_ 0 _ rfl; (with_reducible repeat (first | refine blk_drewN ?_ _ | refine blk_drew ?_ | refine blk_alloc ?_ _)); exact BK847.out) hb); have n4_ := Aside0.mk (below_step (hg_ GE847) hb); clear HO842; clear HO845; clear BK847; clear HB; have HO842 := n0_; have HO845 := n1_; have HO850 := n2_; have BK847 := n3_; have HB := n4_; clear n0_ n1_ n2_ n3_ n4_; (try clear hb); (try clear hb2); (try clear hk); (try clear hi); (try clear ho0); have hcz16_0 : w15.cell? ⟨gb847, 0, none⟩ = some (.slice Ao12 t840.length co12) := (blk_cell BK847.out 0).trans rfl; have hcz16_1 : w15.cell? ⟨gb847, 1, none⟩ = some (.slice Ao14 t843.length co14) := (blk_cell BK847.out 1).trans rfl; have hfz16_0 := blk_frozen BK847.out 0; have hfz16_1 := blk_frozen BK847.out 1) | ((with_reducible refine gate_callee (f := 36) rfl ?_); refine goesL_ (some 41) rfl rfl Try.func36 (by kernel_rfl) rfl #[.agg #[.slice Ao12 t840.length co12, .slice Ao14 t843.length co14], .string t846] rfl ln_ ?_; (with_reducible refine (impl_ChangesOf.calls k _ _ t840 _ _ t843 t846 t852 t855 _ ?side1 ?side2 ?side3 ?side4 A6.out).mono ?_); (case side1 => repeat (first | exact (Kd.R_reads' HO842.out).2.2 | (with_reducible refine Kd.C_alloc ?_ _) | (with_reducible refine Kd.C_drewN ?_ _) | (with_reducible refine Kd.C_drew ?_))); (case side2 => exact (Kd.R_reads' HO842.out).2.1); (case side3 => repeat (first | exact (Kd.S_reads' HO845.out).2.2 | (with_reducible refine Kd.C_alloc ?_ _) | (with_reducible refine Kd.C_drewN ?_ _) | (with_reducible refine Kd.C_drew ?_))); (case side4 => exact (Kd.S_reads' HO845.out).2.1); rintro e w17 ⟨v853, rfl, ho0, hb⟩; refine ⟨_, rfl, ?_⟩; have n0_ := Aside0.mk (Kd.R_elder' (kr_ HO842) (Kd.R_base ho0) hb); have n1_ := Aside0.mk (Kd.S_elder' (by (with_reducible repeat (first | apply Kd.S_alloc | apply Kd.S_drewN | apply Kd.S_drew)); exact HO845.out) (Kd.R_base ho0) hb); have n2_ := Aside0.mk (Kd.R_elder' (kr_ HO850) (Kd.R_base ho0) hb); have n3_ := Aside0.mk (Kd.R_lower (Kd.R_new' (Kd.R_new' ho0 (Kd.R_lt (kr_ HO842))) (Kd.R_lt (kr_ HO850))) (below_size (hg_ GE847))); have n4_ := Aside0.mk (blk_below (g := gb847) (o := .cells #[.slice Ao12 t840.length co12, .slice Ao14 t843.length co14] 28 (0, 0)) (bk_ BK847) hb); have n5_ := Aside0.mk (below_step (hg_ GE847) hb); clear HO842; clear HO845; clear HO850; clear BK847; clear HB; have HO842 := n0_; have HO845 := n1_; have HO850 := n2_; have HO854 := n3_; have BK847 := n4_; have HB := n5_; clear n0_ n1_ n2_ n3_ n4_ n5_; (try clear hb); (try clear hb2); (try clear hk); (try clear hi); (try clear ho0); have hcz18_0 : w17.cell? ⟨gb847, 0, none⟩ = some (.slice Ao12 t840.length co12) := (blk_cell BK847.out 0).trans rfl; have hcz18_1 : w17.cell? ⟨gb847, 1, none⟩ = some (.slice Ao14 t843.length co14) := (blk_cell BK847.out 1).trans rfl; have hfz18_0 := blk_frozen BK847.out 0; have hfz18_1 := blk_frozen BK847.out 1) | ((with_reducible refine gate_callee (f := 42) rfl ?_); refine goesL_ (some 47) rfl rfl Try.func42 (by kernel_rfl) rfl #[.agg #[.slice Ao12 t840.length co12, .slice Ao14 t843.length co14], .string t846] rfl ln_ ?_; (with_reducible refine (impl_StuckLines.calls k _ _ t840 _ _ t843 t846 t856 t859 _ ?side1 ?side2 ?side3 ?side4 A7.out).mono ?_); (case side1 => repeat (first | exact (Kd.R_reads' HO842.out).2.2 | (with_reducible refine Kd.C_alloc ?_ _) | (with_reducible refine Kd.C_drewN ?_ _) | (with_reducible refine Kd.C_drew ?_))); (case side2 => exact (Kd.R_reads' HO842.out).2.1); (case side3 => repeat (first | exact (Kd.S_reads' HO845.out).2.2 | (with_reducible refine Kd.C_alloc ?_ _) | (with_reducible refine Kd.C_drewN ?_ _) | (with_reducible refine Kd.C_drew ?_))); (case side4 => exact (Kd.S_reads' HO845.out).2.1); rintro e w19 ⟨v857, rfl, ho0, hb⟩; refine ⟨_, rfl, ?_⟩; have n0_ := Aside0.mk (Kd.R_elder' (kr_ HO842) (Kd.R_base ho0) hb); have n1_ := Aside0.mk (Kd.S_elder' (by (with_reducible repeat (first | apply Kd.S_alloc | apply Kd.S_drewN | apply Kd.S_drew)); exact HO845.out) (Kd.R_base ho0) hb); have n2_ := Aside0.mk (Kd.R_elder' (kr_ HO850) (Kd.R_base ho0) hb); have n3_ := Aside0.mk (Kd.R_elder' (kr_ HO854) (Kd.R_base ho0) hb); have n4_ := Aside0.mk (Kd.R_lower (Kd.R_new' (Kd.R_new' (Kd.R_new' ho0 (Kd.R_lt (kr_ HO842))) (Kd.R_lt (kr_ HO850))) (Kd.R_lt (kr_ HO854))) (below_size (hg_ GE847))); have n5_ := Aside0.mk (blk_below (g := gb847) (o := .cells #[.slice Ao12 t840.length co12, .slice Ao14 t843.length co14] 28 (0, 0)) (bk_ BK847) hb); have n6_ := Aside0.mk (below_step (hg_ GE847) hb); clear HO842; clear HO845; clear HO850; clear HO854; clear BK847; clear HB; have HO842 := n0_; have HO845 := n1_; have HO850 := n2_; have HO854 := n3_; have HO858 := n4_; have BK847 := n5_; have HB := n6_; clear n0_ n1_ n2_ n3_ n4_ n5_ n6_; (try clear hb); (try clear hb2); (try clear hk); (try clear hi); (try clear ho0); have hcz20_0 : w19.cell? ⟨gb847, 0, none⟩ = some (.slice Ao12 t840.length co12) := (blk_cell BK847.out 0).trans rfl; have hcz20_1 : w19.cell? ⟨gb847, 1, none⟩ = some (.slice Ao14 t843.length co14) := (blk_cell BK847.out 1).trans rfl; have hfz20_0 := blk_frozen BK847.out 0; have hfz20_1 := blk_frozen BK847.out 1) | ((with_reducible refine gate_callee (f := 38) rfl ?_); refine goesL_ (some 53) rfl rfl Try.func38 (by kernel_rfl) rfl #[.agg #[.slice Ao12 t840.length co12, .slice Ao14 t843.length co14], .string t846] rfl ln_ ?_; (with_reducible refine (impl_ReachedStates.calls k _ _ t840 _ _ t843 t846 t860 t861 _ ?side1 ?side2 ?side3 ?side4 A8.out).mono ?_); (case side1 => repeat (first | exact (Kd.R_reads' HO842.out).2.2 | (with_reducible refine Kd.C_alloc ?_ _) | (with_reducible refine Kd.C_drewN ?_ _) | (with_reducible refine Kd.C_drew ?_))); (case side2 => exact (Kd.R_reads' HO842.out).2.1); (case side3 => repeat (first | exact (Kd.S_reads' HO845.out).2.2 | (with_reducible refine Kd.C_alloc ?_ _) | (with_reducible refine Kd.C_drewN ?_ _) | (with_reducible refine Kd.C_drew ?_))); (case side4 => exact (Kd.S_reads' HO845.out).2.1); rintro e w21 ⟨rfl, hb⟩; refine ⟨_, rfl, ?_⟩; have n0_ := Aside0.mk (Kd.R_below (kr_ HO842) hb); have n1_ := Aside0.mk (Kd.S_below (by (with_reducible repeat (first | apply Kd.S_alloc | apply Kd.S_drewN | apply Kd.S_drew)); exact HO845.out) hb); have n2_ := Aside0.mk (Kd.R_below (kr_ HO850) hb); have n3_ := Aside0.mk (Kd.R_below (kr_ HO854) hb); have n4_ := Aside0.mk (Kd.R_below (kr_ HO858) hb); have n5_ := Aside0.mk (blk_below (g := gb847) (o := .cells #[.slice Ao12 t840.length co12, .slice Ao14 t843.length co14] 28 (0, 0)) (bk_ BK847) hb); have n6_ := Aside0.mk (below_step (hg_ GE847) hb); clear HO842; clear HO845; clear HO850; clear HO854; clear HO858; clear BK847; clear HB; have HO842 := n0_; have HO845 := n1_; have HO850 := n2_; have HO854 := n3_; have HO858 := n4_; have BK847 := n5_; have HB := n6_; clear n0_ n1_ n2_ n3_ n4_ n5_ n6_; (try clear hb); (try clear hb2); (try clear hk); (try clear hi)))
  (try simp only [Act.put, List.setIfInBounds_toArray, List.set_cons_zero, List.set_cons_succ])
  go_cut [102] (fun v102 wc => ∃ (kq : Nat) (x102_8 : Bool), v102 = .bool x102_8 ∧ Aside0 (laws_FnDeckStates.j0 kq t846 (t846.size : Int) t848 t852 t856 x102_8 t840 t843 = some r) ∧ Aside0 (kq ≤ k) ∧ Aside0 (Kd.R (Kd.int .i64) 2 wc w.heap.size (fun k_ => some k_ ≠ (v853 : Value).ownBlock ∧ some k_ ≠ (v857 : Value).ownBlock ∧ some k_ ≠ ((.slice Ao12 t840.length co12) : Value).ownBlock) v849 t848) ∧ Aside0 (Kd.R (Kd.int .i64) 2 wc w.heap.size (fun k_ => some k_ ≠ (v849 : Value).ownBlock ∧ some k_ ≠ (v857 : Value).ownBlock ∧ some k_ ≠ ((.slice Ao12 t840.length co12) : Value).ownBlock) v853 t852) ∧ Aside0 (Kd.R (Kd.int .i64) 2 wc w.heap.size (fun k_ => some k_ ≠ (v849 : Value).ownBlock ∧ some k_ ≠ (v853 : Value).ownBlock ∧ some k_ ≠ ((.slice Ao12 t840.length co12) : Value).ownBlock) v857 t856) ∧ Aside0 (Kd.R (Kd.int .i64) 2 wc w.heap.size (fun k_ => some k_ ≠ (v849 : Value).ownBlock ∧ some k_ ≠ (v853 : Value).ownBlock ∧ some k_ ≠ (v857 : Value).ownBlock) (.slice Ao12 t840.length co12) t840) ∧ Aside0 (Kd.S (Kd.slice 2 (Kd.int .i64)) 22 wc w.heap.size (fun k_ => some k_ ≠ (v849 : Value).ownBlock ∧ some k_ ≠ (v853 : Value).ownBlock ∧ some k_ ≠ (v857 : Value).ownBlock ∧ some k_ ≠ ((.slice Ao12 t840.length co12) : Value).ownBlock) (.slice Ao14 t843.length co14) t843) ∧ Aside0 (wc.heap[gb847]? = some (.cells #[(.slice Ao12 t840.length co12), (.slice Ao14 t843.length co14)] 28 (0, 0))) ∧ Aside0 (Below w.heap.size w wc))
  case first =>
   as_aux_lemma =>
    have H := HC9.out
    clear HC9
    by_cases c22 : t851 = 0
    ·rw [if_pos c22] at H
     have c22b0 : (t851 == 0) = true := beq_iff_eq.mpr c22
     have c22b1 : (t851 != 0) = false := bne_eq_false_iff_eq.mpr c22
     clear c22
     (first | rw [c22b0] | (simp only [i64_w, i32_w]; rw [c22b0]) | skip)
     by_cases c23 : (t848.length : Int) = (t843.length : Int)
     ·rw [if_pos c23] at H
      have c23b0 : ((t848.length : Int) == (t843.length : Int)) = true := beq_iff_eq.mpr c23
      have c23b1 : ((t848.length : Int) != (t843.length : Int)) = false := bne_eq_false_iff_eq.mpr c23
      have c23b2 : (t848.length == t843.length) = true := by first | simpa using c23 | (simp at c23 ⊢; omega)
      clear c23
      by_cases c24 : t855 = 0
      ·rw [if_pos c24] at H
       have c24b0 : (t855 == 0) = true := beq_iff_eq.mpr c24
       have c24b1 : (t855 != 0) = false := bne_eq_false_iff_eq.mpr c24
       clear c24
       by_cases c25 : t859 = 0
       ·rw [if_pos c25] at H
        have c25b0 : (t859 == 0) = true := beq_iff_eq.mpr c25
        have c25b1 : (t859 != 0) = false := bne_eq_false_iff_eq.mpr c25
        clear c25
        replace H := Option.bind_eq_some_iff.mp H
        obtain ⟨t862, A260, H⟩ := H
        replace H : (if t862 = true then (if t861 = 0 then (if t860 < 1 then (laws_FnDeckStates.j0 k t846 (t846.size : Int) t848 t852 t856 true t840 t843) else (if 0 ≤ (IntKind.u64.wrap ((t846.size : Int))) then (if t860 > (shl .i64 1 (IntKind.u64.wrap ((t846.size : Int)))) then (laws_FnDeckStates.j0 k t846 (t846.size : Int) t848 t852 t856 true t840 t843) else (laws_FnDeckStates.j0 k t846 (t846.size : Int) t848 t852 t856 ((t860 == 1) != ((t852.length : Int) == 0)) t840 t843)) else (none))) else (laws_FnDeckStates.j0 k t846 (t846.size : Int) t848 t852 t856 true t840 t843)) else (laws_FnDeckStates.j0 k t846 (t846.size : Int) t848 t852 t856 true t840 t843)) = some r := H
        have A26 := Aside0.mk A260
        clear A260
        by_cases c27 : t862 = true
        ·subst c27
         have H1 : (if t861 = 0 then (if t860 < 1 then (laws_FnDeckStates.j0 k t846 (t846.size : Int) t848 t852 t856 true t840 t843) else (if 0 ≤ (IntKind.u64.wrap ((t846.size : Int))) then (if t860 > (shl .i64 1 (IntKind.u64.wrap ((t846.size : Int)))) then (laws_FnDeckStates.j0 k t846 (t846.size : Int) t848 t852 t856 true t840 t843) else (laws_FnDeckStates.j0 k t846 (t846.size : Int) t848 t852 t856 ((t860 == 1) != ((t852.length : Int) == 0)) t840 t843)) else (none))) else (laws_FnDeckStates.j0 k t846 (t846.size : Int) t848 t852 t856 true t840 t843)) = some r := by rw [if_pos rfl] at H; exact H
         clear H
         have H := H1
         clear H1
         by_cases c28 : t861 = 0
         ·rw [if_pos c28] at H
          have c28b0 : (t861 == 0) = true := beq_iff_eq.mpr c28
          have c28b1 : (t861 != 0) = false := bne_eq_false_iff_eq.mpr c28
          clear c28
          by_cases c29 : t860 < 1
          ·rw [if_pos c29] at H
           have c29b0 : decide (t860 < 1) = true := decide_eq_true c29
           clear c29
           have H' := Aside0.mk H
           clear H
           obtain ⟨Ao30, co30, eo30⟩ := Kd.R_slice HO850.out
           subst eo30
           have hcz31_0 : w21.cell? ⟨gb847, 0, none⟩ = some (.slice Ao12 t840.length co12) := (blk_cell BK847.out 0).trans rfl
           have hcz31_1 : w21.cell? ⟨gb847, 1, none⟩ = some (.slice Ao14 t843.length co14) := (blk_cell BK847.out 1).trans rfl
           have hfz31_0 := blk_frozen BK847.out 0
           have hfz31_1 := blk_frozen BK847.out 1
           obtain ⟨Ao32, co32, eo32⟩ := Kd.R_slice HO858.out
           subst eo32
           go_wp2_with (first | (go_at_call 45; (with_reducible refine (laws_a2Rises.calls k _ _ t856 (t846.size : Int) true _ ?side1 ?side2 A26.out).mono ?_); (case side1 => repeat (first | exact (Kd.R_reads' HO858.out).2.2 | (with_reducible refine Kd.C_alloc ?_ _) | (with_reducible refine Kd.C_drewN ?_ _) | (with_reducible refine Kd.C_drew ?_))); (case side2 => exact (Kd.R_reads' HO858.out).2.1); rintro e w' ⟨rfl, ⟨nd, rfl⟩⟩))
           go_meet
           case rel => exact ⟨_, (true), (by first | rfl | (simp; done) | (simp [*]; done)), H', ⟨by first | omega | exact Nat.le_refl _⟩, ⟨by (with_reducible repeat (first | apply Kd.R_alloc | apply Kd.R_drewN | apply Kd.R_drew)); exact Kd.R_mono HO850.out (fun _ hk => ⟨hk.1.2, ⟨hk.2, hk.1.1.2⟩⟩)⟩, ⟨by (with_reducible repeat (first | apply Kd.R_alloc | apply Kd.R_drewN | apply Kd.R_drew)); exact Kd.R_mono HO854.out (fun _ hk => ⟨hk.1.2, ⟨hk.2, hk.1.1.2⟩⟩)⟩, ⟨by (with_reducible repeat (first | apply Kd.R_alloc | apply Kd.R_drewN | apply Kd.R_drew)); exact Kd.R_mono HO858.out (fun _ hk => ⟨hk.1.2, ⟨hk.2, hk.1.1.2⟩⟩)⟩, ⟨by (with_reducible repeat (first | apply Kd.R_alloc | apply Kd.R_drewN | apply Kd.R_drew)); exact Kd.R_mono HO842.out (fun _ hk => ⟨hk.1.1.2, ⟨hk.1.2, hk.2⟩⟩)⟩, ⟨by (with_reducible repeat (first | apply Kd.S_alloc | apply Kd.S_drewN | apply Kd.S_drew)); exact Kd.S_mono HO845.out (fun _ hk => ⟨hk.1.1.2, ⟨hk.1.2, ⟨hk.2, hk.1.1.1⟩⟩⟩)⟩, ⟨by (with_reducible repeat (first | refine blk_drewN ?_ _ | refine blk_drew ?_ | refine blk_alloc ?_ _)); exact BK847.out⟩, ⟨(hg_ GE847)⟩⟩
          ·rw [if_neg c29] at H
           have c29b0 : decide (t860 < 1) = false := decide_eq_false c29
           clear c29
           obtain ⟨ji33, hji33⟩ : ∃ j_ : Int, (IntKind.u64.wrap ((t846.size : Int))) = j_ := ⟨_, rfl⟩
           replace H : (if 0 ≤ (ji33) then (if t860 > (shl .i64 1 (ji33)) then (laws_FnDeckStates.j0 k t846 (t846.size : Int) t848 t852 t856 true t840 t843) else (laws_FnDeckStates.j0 k t846 (t846.size : Int) t848 t852 t856 ((t860 == 1) != ((t852.length : Int) == 0)) t840 t843)) else (none)) = some r := by first | (rw [hji33] at H; exact H) | (simp only [hji33] at H ⊢; exact H)
           (try rw [hji33] at A26)
           by_cases c34 : 0 ≤ (ji33)
           ·rw [if_pos c34] at H
            have c34b0 := eq_true c34
            have c34b1 : decide (0 ≤ (ji33)) = true := decide_eq_true c34
            clear c34
            obtain ⟨ji35, hji35⟩ : ∃ j_ : Int, (shl .i64 1 (ji33)) = j_ := ⟨_, rfl⟩
            replace H : (if t860 > (ji35) then (laws_FnDeckStates.j0 k t846 (t846.size : Int) t848 t852 t856 true t840 t843) else (laws_FnDeckStates.j0 k t846 (t846.size : Int) t848 t852 t856 ((t860 == 1) != ((t852.length : Int) == 0)) t840 t843)) = some r := by first | (rw [hji35] at H; exact H) | (simp only [hji35] at H ⊢; exact H)
            (try rw [hji35] at A26)
            have hji35_ : (IntKind.i64.wrap (1 * 2 ^ min (ji33).toNat 64)) = ji35 := hji35
            have hji35z : (ji33) ≤ 64 → (IntKind.i64.wrap (1 * 2 ^ (ji33).toNat)) = ji35 := shl_small hji35
            have hji35u : (IntKind.i64.wrap (2 ^ min (ji33).toNat 64)) = ji35 := by have h_ := hji35_; rw [Int.one_mul] at h_; exact h_
            have hji35v : (ji33) ≤ 64 → (IntKind.i64.wrap (2 ^ (ji33).toNat)) = ji35 := fun hle_ => by have h_ := hji35z hle_; rw [Int.one_mul] at h_; exact h_
            have hji35y : (wrap64 (1 * 2 ^ min (ji33).toNat 64)) = ji35 := (i64_w _).symm.trans hji35_
            have hji35x : (ji33) ≤ 64 → (wrap64 (1 * 2 ^ (ji33).toNat)) = ji35 := fun h_ => (i64_w _).symm.trans (hji35z h_)
            by_cases c36 : t860 > (ji35)
            ·rw [if_pos c36] at H
             have c36b0 : decide ((ji35) < t860) = true := decide_eq_true c36
             clear c36
             have H' := Aside0.mk H
             clear H
             obtain ⟨Ao37, co37, eo37⟩ := Kd.R_slice HO850.out
             subst eo37
             have hcz38_0 : w21.cell? ⟨gb847, 0, none⟩ = some (.slice Ao12 t840.length co12) := (blk_cell BK847.out 0).trans rfl
             have hcz38_1 : w21.cell? ⟨gb847, 1, none⟩ = some (.slice Ao14 t843.length co14) := (blk_cell BK847.out 1).trans rfl
             have hfz38_0 := blk_frozen BK847.out 0
             have hfz38_1 := blk_frozen BK847.out 1
             obtain ⟨Ao39, co39, eo39⟩ := Kd.R_slice HO858.out
             subst eo39
             go_wp2_with (first | (go_at_call 45; (with_reducible refine (laws_a2Rises.calls k _ _ t856 (t846.size : Int) true _ ?side1 ?side2 A26.out).mono ?_); (case side1 => repeat (first | exact (Kd.R_reads' HO858.out).2.2 | (with_reducible refine Kd.C_alloc ?_ _) | (with_reducible refine Kd.C_drewN ?_ _) | (with_reducible refine Kd.C_drew ?_))); (case side2 => exact (Kd.R_reads' HO858.out).2.1); rintro e w' ⟨rfl, ⟨nd, rfl⟩⟩))
             go_meet
             case rel => exact ⟨_, (true), (by first | rfl | (simp; done) | (simp [*]; done)), H', ⟨by first | omega | exact Nat.le_refl _⟩, ⟨by (with_reducible repeat (first | apply Kd.R_alloc | apply Kd.R_drewN | apply Kd.R_drew)); exact Kd.R_mono HO850.out (fun _ hk => ⟨hk.1.2, ⟨hk.2, hk.1.1.2⟩⟩)⟩, ⟨by (with_reducible repeat (first | apply Kd.R_alloc | apply Kd.R_drewN | apply Kd.R_drew)); exact Kd.R_mono HO854.out (fun _ hk => ⟨hk.1.2, ⟨hk.2, hk.1.1.2⟩⟩)⟩, ⟨by (with_reducible repeat (first | apply Kd.R_alloc | apply Kd.R_drewN | apply Kd.R_drew)); exact Kd.R_mono HO858.out (fun _ hk => ⟨hk.1.2, ⟨hk.2, hk.1.1.2⟩⟩)⟩, ⟨by (with_reducible repeat (first | apply Kd.R_alloc | apply Kd.R_drewN | apply Kd.R_drew)); exact Kd.R_mono HO842.out (fun _ hk => ⟨hk.1.1.2, ⟨hk.1.2, hk.2⟩⟩)⟩, ⟨by (with_reducible repeat (first | apply Kd.S_alloc | apply Kd.S_drewN | apply Kd.S_drew)); exact Kd.S_mono HO845.out (fun _ hk => ⟨hk.1.1.2, ⟨hk.1.2, ⟨hk.2, hk.1.1.1⟩⟩⟩)⟩, ⟨by (with_reducible repeat (first | refine blk_drewN ?_ _ | refine blk_drew ?_ | refine blk_alloc ?_ _)); exact BK847.out⟩, ⟨(hg_ GE847)⟩⟩
            ·rw [if_neg c36] at H
             have c36b0 : decide ((ji35) < t860) = false := decide_eq_false c36
             clear c36
             have H' := Aside0.mk H
             clear H
             obtain ⟨Ao40, co40, eo40⟩ := Kd.R_slice HO850.out
             subst eo40
             have hcz41_0 : w21.cell? ⟨gb847, 0, none⟩ = some (.slice Ao12 t840.length co12) := (blk_cell BK847.out 0).trans rfl
             have hcz41_1 : w21.cell? ⟨gb847, 1, none⟩ = some (.slice Ao14 t843.length co14) := (blk_cell BK847.out 1).trans rfl
             have hfz41_0 := blk_frozen BK847.out 0
             have hfz41_1 := blk_frozen BK847.out 1
             obtain ⟨Ao42, co42, eo42⟩ := Kd.R_slice HO858.out
             subst eo42
             go_wp2_with (first | (go_at_call 45; (with_reducible refine (laws_a2Rises.calls k _ _ t856 (t846.size : Int) true _ ?side1 ?side2 A26.out).mono ?_); (case side1 => repeat (first | exact (Kd.R_reads' HO858.out).2.2 | (with_reducible refine Kd.C_alloc ?_ _) | (with_reducible refine Kd.C_drewN ?_ _) | (with_reducible refine Kd.C_drew ?_))); (case side2 => exact (Kd.R_reads' HO858.out).2.1); rintro e w' ⟨rfl, ⟨nd, rfl⟩⟩; obtain ⟨Ao43, co43, eo43⟩ := Kd.R_slice HO854.out; subst eo43))
             go_meet
             case rel => exact ⟨_, (((t860 == 1) != ((t852.length : Int) == 0))), (by first | rfl | (simp; done) | (simp [*]; done)), H', ⟨by first | omega | exact Nat.le_refl _⟩, ⟨by (with_reducible repeat (first | apply Kd.R_alloc | apply Kd.R_drewN | apply Kd.R_drew)); exact Kd.R_mono HO850.out (fun _ hk => ⟨hk.1.2, ⟨hk.2, hk.1.1.2⟩⟩)⟩, ⟨by (with_reducible repeat (first | apply Kd.R_alloc | apply Kd.R_drewN | apply Kd.R_drew)); exact Kd.R_mono HO854.out (fun _ hk => ⟨hk.1.2, ⟨hk.2, hk.1.1.2⟩⟩)⟩, ⟨by (with_reducible repeat (first | apply Kd.R_alloc | apply Kd.R_drewN | apply Kd.R_drew)); exact Kd.R_mono HO858.out (fun _ hk => ⟨hk.1.2, ⟨hk.2, hk.1.1.2⟩⟩)⟩, ⟨by (with_reducible repeat (first | apply Kd.R_alloc | apply Kd.R_drewN | apply Kd.R_drew)); exact Kd.R_mono HO842.out (fun _ hk => ⟨hk.1.1.2, ⟨hk.1.2, hk.2⟩⟩)⟩, ⟨by (with_reducible repeat (first | apply Kd.S_alloc | apply Kd.S_drewN | apply Kd.S_drew)); exact Kd.S_mono HO845.out (fun _ hk => ⟨hk.1.1.2, ⟨hk.1.2, ⟨hk.2, hk.1.1.1⟩⟩⟩)⟩, ⟨by (with_reducible repeat (first | refine blk_drewN ?_ _ | refine blk_drew ?_ | refine blk_alloc ?_ _)); exact BK847.out⟩, ⟨(hg_ GE847)⟩⟩
           ·rw [if_neg c34] at H
            exact absurd H (by simp)
         ·rw [if_neg c28] at H
          have c28b0 : (t861 == 0) = false := beq_eq_false_iff_ne.mpr c28
          have c28b1 : (t861 != 0) = true := bne_iff_ne.mpr c28
          have H' := Aside0.mk H
          clear H
          obtain ⟨Ao44, co44, eo44⟩ := Kd.R_slice HO850.out
          subst eo44
          have hcz45_0 : w21.cell? ⟨gb847, 0, none⟩ = some (.slice Ao12 t840.length co12) := (blk_cell BK847.out 0).trans rfl
          have hcz45_1 : w21.cell? ⟨gb847, 1, none⟩ = some (.slice Ao14 t843.length co14) := (blk_cell BK847.out 1).trans rfl
          have hfz45_0 := blk_frozen BK847.out 0
          have hfz45_1 := blk_frozen BK847.out 1
          obtain ⟨Ao46, co46, eo46⟩ := Kd.R_slice HO858.out
          subst eo46
          go_wp2_with (first | (go_at_call 45; (with_reducible refine (laws_a2Rises.calls k _ _ t856 (t846.size : Int) true _ ?side1 ?side2 A26.out).mono ?_); (case side1 => repeat (first | exact (Kd.R_reads' HO858.out).2.2 | (with_reducible refine Kd.C_alloc ?_ _) | (with_reducible refine Kd.C_drewN ?_ _) | (with_reducible refine Kd.C_drew ?_))); (case side2 => exact (Kd.R_reads' HO858.out).2.1); rintro e w' ⟨rfl, ⟨nd, rfl⟩⟩))
          go_meet
          case rel => exact ⟨_, (true), (by first | rfl | (simp; done) | (simp [*]; done)), H', ⟨by first | omega | exact Nat.le_refl _⟩, ⟨by (with_reducible repeat (first | apply Kd.R_alloc | apply Kd.R_drewN | apply Kd.R_drew)); exact Kd.R_mono HO850.out (fun _ hk => ⟨hk.1.2, ⟨hk.2, hk.1.1.2⟩⟩)⟩, ⟨by (with_reducible repeat (first | apply Kd.R_alloc | apply Kd.R_drewN | apply Kd.R_drew)); exact Kd.R_mono HO854.out (fun _ hk => ⟨hk.1.2, ⟨hk.2, hk.1.1.2⟩⟩)⟩, ⟨by (with_reducible repeat (first | apply Kd.R_alloc | apply Kd.R_drewN | apply Kd.R_drew)); exact Kd.R_mono HO858.out (fun _ hk => ⟨hk.1.2, ⟨hk.2, hk.1.1.2⟩⟩)⟩, ⟨by (with_reducible repeat (first | apply Kd.R_alloc | apply Kd.R_drewN | apply Kd.R_drew)); exact Kd.R_mono HO842.out (fun _ hk => ⟨hk.1.1.2, ⟨hk.1.2, hk.2⟩⟩)⟩, ⟨by (with_reducible repeat (first | apply Kd.S_alloc | apply Kd.S_drewN | apply Kd.S_drew)); exact Kd.S_mono HO845.out (fun _ hk => ⟨hk.1.1.2, ⟨hk.1.2, ⟨hk.2, hk.1.1.1⟩⟩⟩)⟩, ⟨by (with_reducible repeat (first | refine blk_drewN ?_ _ | refine blk_drew ?_ | refine blk_alloc ?_ _)); exact BK847.out⟩, ⟨(hg_ GE847)⟩⟩
        ·replace c27 := Bool.eq_false_iff.mpr c27
         subst c27
         have H1 : (laws_FnDeckStates.j0 k t846 (t846.size : Int) t848 t852 t856 true t840 t843) = some r := by rw [if_neg (show ¬ (false = true) by decide)] at H; exact H
         clear H
         have H := H1
         clear H1
         have H' := Aside0.mk H
         clear H
         obtain ⟨Ao47, co47, eo47⟩ := Kd.R_slice HO850.out
         subst eo47
         have hcz48_0 : w21.cell? ⟨gb847, 0, none⟩ = some (.slice Ao12 t840.length co12) := (blk_cell BK847.out 0).trans rfl
         have hcz48_1 : w21.cell? ⟨gb847, 1, none⟩ = some (.slice Ao14 t843.length co14) := (blk_cell BK847.out 1).trans rfl
         have hfz48_0 := blk_frozen BK847.out 0
         have hfz48_1 := blk_frozen BK847.out 1
         obtain ⟨Ao49, co49, eo49⟩ := Kd.R_slice HO858.out
         subst eo49
         go_wp2_with (first | (go_at_call 45; (with_reducible refine (laws_a2Rises.calls k _ _ t856 (t846.size : Int) false _ ?side1 ?side2 A26.out).mono ?_); (case side1 => repeat (first | exact (Kd.R_reads' HO858.out).2.2 | (with_reducible refine Kd.C_alloc ?_ _) | (with_reducible refine Kd.C_drewN ?_ _) | (with_reducible refine Kd.C_drew ?_))); (case side2 => exact (Kd.R_reads' HO858.out).2.1); rintro e w' ⟨rfl, ⟨nd, rfl⟩⟩))
         go_meet
         case rel => exact ⟨_, (true), (by first | rfl | (simp; done) | (simp [*]; done)), H', ⟨by first | omega | exact Nat.le_refl _⟩, ⟨by (with_reducible repeat (first | apply Kd.R_alloc | apply Kd.R_drewN | apply Kd.R_drew)); exact Kd.R_mono HO850.out (fun _ hk => ⟨hk.1.2, ⟨hk.2, hk.1.1.2⟩⟩)⟩, ⟨by (with_reducible repeat (first | apply Kd.R_alloc | apply Kd.R_drewN | apply Kd.R_drew)); exact Kd.R_mono HO854.out (fun _ hk => ⟨hk.1.2, ⟨hk.2, hk.1.1.2⟩⟩)⟩, ⟨by (with_reducible repeat (first | apply Kd.R_alloc | apply Kd.R_drewN | apply Kd.R_drew)); exact Kd.R_mono HO858.out (fun _ hk => ⟨hk.1.2, ⟨hk.2, hk.1.1.2⟩⟩)⟩, ⟨by (with_reducible repeat (first | apply Kd.R_alloc | apply Kd.R_drewN | apply Kd.R_drew)); exact Kd.R_mono HO842.out (fun _ hk => ⟨hk.1.1.2, ⟨hk.1.2, hk.2⟩⟩)⟩, ⟨by (with_reducible repeat (first | apply Kd.S_alloc | apply Kd.S_drewN | apply Kd.S_drew)); exact Kd.S_mono HO845.out (fun _ hk => ⟨hk.1.1.2, ⟨hk.1.2, ⟨hk.2, hk.1.1.1⟩⟩⟩)⟩, ⟨by (with_reducible repeat (first | refine blk_drewN ?_ _ | refine blk_drew ?_ | refine blk_alloc ?_ _)); exact BK847.out⟩, ⟨(hg_ GE847)⟩⟩
       ·rw [if_neg c25] at H
        have c25b0 : (t859 == 0) = false := beq_eq_false_iff_ne.mpr c25
        have c25b1 : (t859 != 0) = true := bne_iff_ne.mpr c25
        have H' := Aside0.mk H
        clear H
        obtain ⟨Ao50, co50, eo50⟩ := Kd.R_slice HO850.out
        subst eo50
        have hcz51_0 : w21.cell? ⟨gb847, 0, none⟩ = some (.slice Ao12 t840.length co12) := (blk_cell BK847.out 0).trans rfl
        have hcz51_1 : w21.cell? ⟨gb847, 1, none⟩ = some (.slice Ao14 t843.length co14) := (blk_cell BK847.out 1).trans rfl
        have hfz51_0 := blk_frozen BK847.out 0
        have hfz51_1 := blk_frozen BK847.out 1
        go_wp2
        go_meet
        case rel => exact ⟨_, (true), (by first | rfl | (simp; done) | (simp [*]; done)), H', ⟨by first | omega | exact Nat.le_refl _⟩, ⟨by (with_reducible repeat (first | apply Kd.R_alloc | apply Kd.R_drewN | apply Kd.R_drew)); exact Kd.R_mono HO850.out (fun _ hk => ⟨hk.1.2, ⟨hk.2, hk.1.1.2⟩⟩)⟩, ⟨by (with_reducible repeat (first | apply Kd.R_alloc | apply Kd.R_drewN | apply Kd.R_drew)); exact Kd.R_mono HO854.out (fun _ hk => ⟨hk.1.2, ⟨hk.2, hk.1.1.2⟩⟩)⟩, ⟨by (with_reducible repeat (first | apply Kd.R_alloc | apply Kd.R_drewN | apply Kd.R_drew)); exact Kd.R_mono HO858.out (fun _ hk => ⟨hk.1.2, ⟨hk.2, hk.1.1.2⟩⟩)⟩, ⟨by (with_reducible repeat (first | apply Kd.R_alloc | apply Kd.R_drewN | apply Kd.R_drew)); exact Kd.R_mono HO842.out (fun _ hk => ⟨hk.1.1.2, ⟨hk.1.2, hk.2⟩⟩)⟩, ⟨by (with_reducible repeat (first | apply Kd.S_alloc | apply Kd.S_drewN | apply Kd.S_drew)); exact Kd.S_mono HO845.out (fun _ hk => ⟨hk.1.1.2, ⟨hk.1.2, ⟨hk.2, hk.1.1.1⟩⟩⟩)⟩, ⟨by (with_reducible repeat (first | refine blk_drewN ?_ _ | refine blk_drew ?_ | refine blk_alloc ?_ _)); exact BK847.out⟩, ⟨(hg_ GE847)⟩⟩
      ·rw [if_neg c24] at H
       have c24b0 : (t855 == 0) = false := beq_eq_false_iff_ne.mpr c24
       have c24b1 : (t855 != 0) = true := bne_iff_ne.mpr c24
       have H' := Aside0.mk H
       clear H
       obtain ⟨Ao52, co52, eo52⟩ := Kd.R_slice HO850.out
       subst eo52
       have hcz53_0 : w21.cell? ⟨gb847, 0, none⟩ = some (.slice Ao12 t840.length co12) := (blk_cell BK847.out 0).trans rfl
       have hcz53_1 : w21.cell? ⟨gb847, 1, none⟩ = some (.slice Ao14 t843.length co14) := (blk_cell BK847.out 1).trans rfl
       have hfz53_0 := blk_frozen BK847.out 0
       have hfz53_1 := blk_frozen BK847.out 1
       go_wp2
       go_meet
       case rel => exact ⟨_, (true), (by first | rfl | (simp; done) | (simp [*]; done)), H', ⟨by first | omega | exact Nat.le_refl _⟩, ⟨by (with_reducible repeat (first | apply Kd.R_alloc | apply Kd.R_drewN | apply Kd.R_drew)); exact Kd.R_mono HO850.out (fun _ hk => ⟨hk.1.2, ⟨hk.2, hk.1.1.2⟩⟩)⟩, ⟨by (with_reducible repeat (first | apply Kd.R_alloc | apply Kd.R_drewN | apply Kd.R_drew)); exact Kd.R_mono HO854.out (fun _ hk => ⟨hk.1.2, ⟨hk.2, hk.1.1.2⟩⟩)⟩, ⟨by (with_reducible repeat (first | apply Kd.R_alloc | apply Kd.R_drewN | apply Kd.R_drew)); exact Kd.R_mono HO858.out (fun _ hk => ⟨hk.1.2, ⟨hk.2, hk.1.1.2⟩⟩)⟩, ⟨by (with_reducible repeat (first | apply Kd.R_alloc | apply Kd.R_drewN | apply Kd.R_drew)); exact Kd.R_mono HO842.out (fun _ hk => ⟨hk.1.1.2, ⟨hk.1.2, hk.2⟩⟩)⟩, ⟨by (with_reducible repeat (first | apply Kd.S_alloc | apply Kd.S_drewN | apply Kd.S_drew)); exact Kd.S_mono HO845.out (fun _ hk => ⟨hk.1.1.2, ⟨hk.1.2, ⟨hk.2, hk.1.1.1⟩⟩⟩)⟩, ⟨by (with_reducible repeat (first | refine blk_drewN ?_ _ | refine blk_drew ?_ | refine blk_alloc ?_ _)); exact BK847.out⟩, ⟨(hg_ GE847)⟩⟩
     ·rw [if_neg c23] at H
      have c23b0 : ((t848.length : Int) == (t843.length : Int)) = false := beq_eq_false_iff_ne.mpr c23
      have c23b1 : ((t848.length : Int) != (t843.length : Int)) = true := bne_iff_ne.mpr c23
      have c23b2 : (t848.length == t843.length) = false := by first | simpa using c23 | (simp at c23 ⊢; omega)
      have H' := Aside0.mk H
      clear H
      obtain ⟨Ao54, co54, eo54⟩ := Kd.R_slice HO850.out
      subst eo54
      have hcz55_0 : w21.cell? ⟨gb847, 0, none⟩ = some (.slice Ao12 t840.length co12) := (blk_cell BK847.out 0).trans rfl
      have hcz55_1 : w21.cell? ⟨gb847, 1, none⟩ = some (.slice Ao14 t843.length co14) := (blk_cell BK847.out 1).trans rfl
      have hfz55_0 := blk_frozen BK847.out 0
      have hfz55_1 := blk_frozen BK847.out 1
      go_wp2
      go_meet
      case rel => exact ⟨_, (true), (by first | rfl | (simp; done) | (simp [*]; done)), H', ⟨by first | omega | exact Nat.le_refl _⟩, ⟨by (with_reducible repeat (first | apply Kd.R_alloc | apply Kd.R_drewN | apply Kd.R_drew)); exact Kd.R_mono HO850.out (fun _ hk => ⟨hk.1.2, ⟨hk.2, hk.1.1.2⟩⟩)⟩, ⟨by (with_reducible repeat (first | apply Kd.R_alloc | apply Kd.R_drewN | apply Kd.R_drew)); exact Kd.R_mono HO854.out (fun _ hk => ⟨hk.1.2, ⟨hk.2, hk.1.1.2⟩⟩)⟩, ⟨by (with_reducible repeat (first | apply Kd.R_alloc | apply Kd.R_drewN | apply Kd.R_drew)); exact Kd.R_mono HO858.out (fun _ hk => ⟨hk.1.2, ⟨hk.2, hk.1.1.2⟩⟩)⟩, ⟨by (with_reducible repeat (first | apply Kd.R_alloc | apply Kd.R_drewN | apply Kd.R_drew)); exact Kd.R_mono HO842.out (fun _ hk => ⟨hk.1.1.2, ⟨hk.1.2, hk.2⟩⟩)⟩, ⟨by (with_reducible repeat (first | apply Kd.S_alloc | apply Kd.S_drewN | apply Kd.S_drew)); exact Kd.S_mono HO845.out (fun _ hk => ⟨hk.1.1.2, ⟨hk.1.2, ⟨hk.2, hk.1.1.1⟩⟩⟩)⟩, ⟨by (with_reducible repeat (first | refine blk_drewN ?_ _ | refine blk_drew ?_ | refine blk_alloc ?_ _)); exact BK847.out⟩, ⟨(hg_ GE847)⟩⟩
    ·rw [if_neg c22] at H
     have c22b0 : (t851 == 0) = false := beq_eq_false_iff_ne.mpr c22
     have c22b1 : (t851 != 0) = true := bne_iff_ne.mpr c22
     (first | rw [c22b0] | (simp only [i64_w, i32_w]; rw [c22b0]) | skip)
     have H' := Aside0.mk H
     clear H
     go_wp2
     go_meet
     case rel => exact ⟨_, (true), (by first | rfl | (simp; done) | (simp [*]; done)), H', ⟨by first | omega | exact Nat.le_refl _⟩, ⟨by (with_reducible repeat (first | apply Kd.R_alloc | apply Kd.R_drewN | apply Kd.R_drew)); exact Kd.R_mono HO850.out (fun _ hk => ⟨hk.1.2, ⟨hk.2, hk.1.1.2⟩⟩)⟩, ⟨by (with_reducible repeat (first | apply Kd.R_alloc | apply Kd.R_drewN | apply Kd.R_drew)); exact Kd.R_mono HO854.out (fun _ hk => ⟨hk.1.2, ⟨hk.2, hk.1.1.2⟩⟩)⟩, ⟨by (with_reducible repeat (first | apply Kd.R_alloc | apply Kd.R_drewN | apply Kd.R_drew)); exact Kd.R_mono HO858.out (fun _ hk => ⟨hk.1.2, ⟨hk.2, hk.1.1.2⟩⟩)⟩, ⟨by (with_reducible repeat (first | apply Kd.R_alloc | apply Kd.R_drewN | apply Kd.R_drew)); exact Kd.R_mono HO842.out (fun _ hk => ⟨hk.1.1.2, ⟨hk.1.2, hk.2⟩⟩)⟩, ⟨by (with_reducible repeat (first | apply Kd.S_alloc | apply Kd.S_drewN | apply Kd.S_drew)); exact Kd.S_mono HO845.out (fun _ hk => ⟨hk.1.1.2, ⟨hk.1.2, ⟨hk.2, hk.1.1.1⟩⟩⟩)⟩, ⟨by (with_reducible repeat (first | refine blk_drewN ?_ _ | refine blk_drew ?_ | refine blk_alloc ?_ _)); exact BK847.out⟩, ⟨(hg_ GE847)⟩⟩
  case rest =>
   clear HC9
   try clear c1
   try clear c2
   try clear p2
   try clear c3
   try clear c4
   try clear p6
   try clear c14
   try clear c22
   try clear c22b0
   try clear c22b1
   try clear c23
   try clear c23b0
   try clear c23b1
   try clear c23b2
   try clear c24
   try clear c24b0
   try clear c24b1
   try clear c25
   try clear c25b0
   try clear c25b1
   try clear c27
   try clear c28
   try clear c28b0
   try clear c28b1
   try clear c29
   try clear c29b0
   try clear c34
   try clear c34b0
   try clear c34b1
   try clear c36
   try clear c36b0
   try clear c38
   try clear c42
   try clear c43
   try clear c44
   try clear hcz13_0
   try clear hcz13_1
   try clear hcz16_0
   try clear hcz16_1
   try clear hcz18_0
   try clear hcz18_1
   try clear hcz20_0
   try clear hcz20_1
   try clear hcz31_0
   try clear hcz31_1
   try clear hcz38_0
   try clear hcz38_1
   try clear hcz41_0
   try clear hcz41_1
   try clear hcz45_0
   try clear hcz45_1
   try clear hcz48_0
   try clear hcz48_1
   try clear hcz51_0
   try clear hcz51_1
   try clear hcz53_0
   try clear hcz53_1
   try clear hcz55_0
   try clear hcz55_1
   try clear hfz13_0
   try clear hfz13_1
   try clear hfz16_0
   try clear hfz16_1
   try clear hfz18_0
   try clear hfz18_1
   try clear hfz20_0
   try clear hfz20_1
   try clear hfz31_0
   try clear hfz31_1
   try clear hfz38_0
   try clear hfz38_1
   try clear hfz41_0
   try clear hfz41_1
   try clear hfz45_0
   try clear hfz45_1
   try clear hfz48_0
   try clear hfz48_1
   try clear hfz51_0
   try clear hfz51_1
   try clear hfz53_0
   try clear hfz53_1
   try clear hfz55_0
   try clear hfz55_1
   obtain ⟨kq, x102_8, rfl, HA, HJ8, HO_6, HO_8, HO_10, HO_848000, HO_848001, BK847, HB⟩ := hcut
   cases kq with
   | zero => exact absurd HA.out (by simp [laws_FnDeckStates.j0])
   | succ kj8 =>
    have H := HA.out
    clear HA
    simp only [laws_FnDeckStates.j0] at H
    by_cases c56 : x102_8 = true
    ·subst c56
     have H1 : (some false) = some r := by rw [if_pos rfl] at H; exact H
     clear H
     have H := H1
     clear H1
     obtain rfl := Option.some.inj H
     go_wp2
     go_ret
     exact ⟨ew_, (hg_ GE847)⟩
    ·replace c56 := Bool.eq_false_iff.mpr c56
     subst c56
     have H1 : (laws_FnDeckStates.l0 kj8 t846 (t846.size : Int) t848 t852 t856 0 t840 t843) = some r := by rw [if_neg (show ¬ (false = true) by decide)] at H; exact H
     clear H
     have H := H1
     clear H1
     have H' := Aside0.mk H
     clear H
     go_wp2
     go_loopg [14] kj8 (fun kq v14 w' => ∃ (x14_2 : Int), v14 = .int .i64 x14_2 ∧ Aside0 (laws_FnDeckStates.l0 kq t846 (t846.size : Int) t848 t852 t856 x14_2 t840 t843 = some r) ∧ Aside0 (kq ≤ kj8) ∧ Aside0 (Kd.R (Kd.int .i64) 2 w' w.heap.size (fun k_ => some k_ ≠ (v853 : Value).ownBlock ∧ some k_ ≠ (v857 : Value).ownBlock ∧ some k_ ≠ ((.slice Ao12 t840.length co12) : Value).ownBlock) v849 t848) ∧ Aside0 (Kd.R (Kd.int .i64) 2 w' w.heap.size (fun k_ => some k_ ≠ (v849 : Value).ownBlock ∧ some k_ ≠ (v857 : Value).ownBlock ∧ some k_ ≠ ((.slice Ao12 t840.length co12) : Value).ownBlock) v853 t852) ∧ Aside0 (Kd.R (Kd.int .i64) 2 w' w.heap.size (fun k_ => some k_ ≠ (v849 : Value).ownBlock ∧ some k_ ≠ (v853 : Value).ownBlock ∧ some k_ ≠ ((.slice Ao12 t840.length co12) : Value).ownBlock) v857 t856) ∧ Aside0 (Kd.R (Kd.int .i64) 2 w' w.heap.size (fun k_ => some k_ ≠ (v849 : Value).ownBlock ∧ some k_ ≠ (v853 : Value).ownBlock ∧ some k_ ≠ (v857 : Value).ownBlock) (.slice Ao12 t840.length co12) t840) ∧ Aside0 (Kd.S (Kd.slice 2 (Kd.int .i64)) 22 w' w.heap.size (fun k_ => some k_ ≠ (v849 : Value).ownBlock ∧ some k_ ≠ (v853 : Value).ownBlock ∧ some k_ ≠ (v857 : Value).ownBlock ∧ some k_ ≠ ((.slice Ao12 t840.length co12) : Value).ownBlock) (.slice Ao14 t843.length co14) t843) ∧ Aside0 (w'.heap[gb847]? = some (.cells #[(.slice Ao12 t840.length co12), (.slice Ao14 t843.length co14)] 28 (0, 0))) ∧ Aside0 (Below w.heap.size w w'))
     case atStart => exact ⟨(0), (by first | rfl | (simp; done) | (simp [*]; done)), H', ⟨Nat.le_refl _⟩, ⟨by (with_reducible repeat (first | apply Kd.R_alloc | apply Kd.R_drewN | apply Kd.R_drew)); exact HO_6.out⟩, ⟨by (with_reducible repeat (first | apply Kd.R_alloc | apply Kd.R_drewN | apply Kd.R_drew)); exact HO_8.out⟩, ⟨by (with_reducible repeat (first | apply Kd.R_alloc | apply Kd.R_drewN | apply Kd.R_drew)); exact HO_10.out⟩, ⟨by (with_reducible repeat (first | apply Kd.R_alloc | apply Kd.R_drewN | apply Kd.R_drew)); exact HO_848000.out⟩, ⟨by (with_reducible repeat (first | apply Kd.S_alloc | apply Kd.S_drewN | apply Kd.S_drew)); exact HO_848001.out⟩, ⟨by (with_reducible repeat (first | refine blk_drewN ?_ _ | refine blk_drew ?_ | refine blk_alloc ?_ _)); exact BK847.out⟩, ⟨(hg_ GE847)⟩⟩
     case round =>
      clear H'
      try clear c1
      try clear c2
      try clear p2
      try clear c3
      try clear c4
      try clear c5
      try clear p6
      try clear c14
      try clear c22
      try clear c22b0
      try clear c22b1
      try clear c23
      try clear c23b0
      try clear c23b1
      try clear c23b2
      try clear c24
      try clear c24b0
      try clear c24b1
      try clear c25
      try clear c25b0
      try clear c25b1
      try clear c27
      try clear c28
      try clear c28b0
      try clear c28b1
      try clear c29
      try clear c29b0
      try clear c34
      try clear c34b0
      try clear c34b1
      try clear c36
      try clear c36b0
      try clear c38
      try clear c42
      try clear c43
      try clear c44
      try clear c56
      try clear hcz13_0
      try clear hcz13_1
      try clear hcz16_0
      try clear hcz16_1
      try clear hcz18_0
      try clear hcz18_1
      try clear hcz20_0
      try clear hcz20_1
      try clear hcz31_0
      try clear hcz31_1
      try clear hcz38_0
      try clear hcz38_1
      try clear hcz41_0
      try clear hcz41_1
      try clear hcz45_0
      try clear hcz45_1
      try clear hcz48_0
      try clear hcz48_1
      try clear hcz51_0
      try clear hcz51_1
      try clear hcz53_0
      try clear hcz53_1
      try clear hcz55_0
      try clear hcz55_1
      try clear hfz13_0
      try clear hfz13_1
      try clear hfz16_0
      try clear hfz16_1
      try clear hfz18_0
      try clear hfz18_1
      try clear hfz20_0
      try clear hfz20_1
      try clear hfz31_0
      try clear hfz31_1
      try clear hfz38_0
      try clear hfz38_1
      try clear hfz41_0
      try clear hfz41_1
      try clear hfz45_0
      try clear hfz45_1
      try clear hfz48_0
      try clear hfz48_1
      try clear hfz51_0
      try clear hfz51_1
      try clear hfz53_0
      try clear hfz53_1
      try clear hfz55_0
      try clear hfz55_1
      try clear p2
      try clear p6
      obtain ⟨x14_2, rfl, HA, HK2, HO_6, HO_8, HO_10, HO_848000, HO_848001, BK847, HB⟩ := hrel
      cases gk with
      | zero => exact absurd HA.out (by simp [laws_FnDeckStates.l0])
      | succ k2 =>
       have H := HA.out
       clear HA
       simp only [laws_FnDeckStates.l0] at H
       by_cases c57 : x14_2 < (t846.size : Int)
       ·rw [if_pos c57] at H
        have c57b0 : decide (x14_2 < (t846.size : Int)) = true := decide_eq_true c57
        clear c57
        by_cases c58 : 0 ≤ x14_2
        ·rw [if_pos c58] at H
         have c58b0 : decide (0 ≤ x14_2) = true := decide_eq_true c58
         clear c58
         by_cases c59 : x14_2 < (t840.length : Int)
         ·rw [if_pos c59] at H
          have c59b0 : decide (x14_2 < (t840.length : Int)) = true := decide_eq_true c59
          clear c59
          have HC60 := Aside0.mk H
          clear H
          have hcz61_0 : wr.cell? ⟨gb847, 0, none⟩ = some (.slice Ao12 t840.length co12) := (blk_cell BK847.out 0).trans rfl
          have hcz61_1 : wr.cell? ⟨gb847, 1, none⟩ = some (.slice Ao14 t843.length co14) := (blk_cell BK847.out 1).trans rfl
          have hfz61_0 := blk_frozen BK847.out 0
          have hfz61_1 := blk_frozen BK847.out 1
          have p863 : 0 ≤ (x14_2 : Int) := od_
          have q863 : x14_2 < (t840.length : Int) := od_
          obtain ⟨ad863, e863, hx863_0⟩ := Kd.at_int (Kd.R_reads' HO_848000.out).2.2 x14_2 p863 q863
          cases e863
          replace p863 := eq_true p863
          replace q863 := eq_true q863
          go_upto_region 15 with (fail)
          go_cut [16] (fun v16 wc => ∃ (kq : Nat) (x16_59 : Bool), v16 = .bool x16_59 ∧ Aside0 (laws_FnDeckStates.j2 kq t846 (t846.size : Int) t848 t852 t856 x14_2 x16_59 t840 t843 = some r) ∧ Aside0 (kq ≤ k2) ∧ Aside0 (Kd.R (Kd.int .i64) 2 wc w.heap.size (fun k_ => some k_ ≠ (v853 : Value).ownBlock ∧ some k_ ≠ (v857 : Value).ownBlock ∧ some k_ ≠ ((.slice (some ad863) t840.length co12) : Value).ownBlock) v849 t848) ∧ Aside0 (Kd.R (Kd.int .i64) 2 wc w.heap.size (fun k_ => some k_ ≠ (v849 : Value).ownBlock ∧ some k_ ≠ (v857 : Value).ownBlock ∧ some k_ ≠ ((.slice (some ad863) t840.length co12) : Value).ownBlock) v853 t852) ∧ Aside0 (Kd.R (Kd.int .i64) 2 wc w.heap.size (fun k_ => some k_ ≠ (v849 : Value).ownBlock ∧ some k_ ≠ (v853 : Value).ownBlock ∧ some k_ ≠ ((.slice (some ad863) t840.length co12) : Value).ownBlock) v857 t856) ∧ Aside0 (Kd.R (Kd.int .i64) 2 wc w.heap.size (fun k_ => some k_ ≠ (v849 : Value).ownBlock ∧ some k_ ≠ (v853 : Value).ownBlock ∧ some k_ ≠ (v857 : Value).ownBlock) (.slice (some ad863) t840.length co12) t840) ∧ Aside0 (Kd.S (Kd.slice 2 (Kd.int .i64)) 22 wc w.heap.size (fun k_ => some k_ ≠ (v849 : Value).ownBlock ∧ some k_ ≠ (v853 : Value).ownBlock ∧ some k_ ≠ (v857 : Value).ownBlock ∧ some k_ ≠ ((.slice (some ad863) t840.length co12) : Value).ownBlock) (.slice Ao14 t843.length co14) t843) ∧ Aside0 (wc.heap[gb847]? = some (.cells #[(.slice (some ad863) t840.length co12), (.slice Ao14 t843.length co14)] 28 (0, 0))) ∧ Aside0 (Below w.heap.size w wc))
          case first =>
           have H := HC60.out
           clear HC60
           by_cases c62 : (rd t840 x14_2) < 0
           ·rw [if_pos c62] at H
            have c62b0 : decide ((rd t840 x14_2) < 0) = true := decide_eq_true c62
            clear c62
            (first | rw [c62b0] | (simp only [i64_w, i32_w]; rw [c62b0]) | skip)
            have H' := Aside0.mk H
            clear H
            go_wp2
            go_meet
            case rel => exact ⟨_, (true), (by first | rfl | (simp; done) | (simp [*]; done)), H', ⟨by have := HJ8.out; have := HK2.out; first | omega | exact Nat.le_refl _⟩, ⟨by (with_reducible repeat (first | apply Kd.R_alloc | apply Kd.R_drewN | apply Kd.R_drew)); exact HO_6.out⟩, ⟨by (with_reducible repeat (first | apply Kd.R_alloc | apply Kd.R_drewN | apply Kd.R_drew)); exact HO_8.out⟩, ⟨by (with_reducible repeat (first | apply Kd.R_alloc | apply Kd.R_drewN | apply Kd.R_drew)); exact HO_10.out⟩, ⟨by (with_reducible repeat (first | apply Kd.R_alloc | apply Kd.R_drewN | apply Kd.R_drew)); exact HO_848000.out⟩, ⟨by (with_reducible repeat (first | apply Kd.S_alloc | apply Kd.S_drewN | apply Kd.S_drew)); exact HO_848001.out⟩, ⟨by (with_reducible repeat (first | refine blk_drewN ?_ _ | refine blk_drew ?_ | refine blk_alloc ?_ _)); exact BK847.out⟩, ⟨(hg_ GE847)⟩⟩
           ·rw [if_neg c62] at H
            have c62b0 : decide ((rd t840 x14_2) < 0) = false := decide_eq_false c62
            clear c62
            (first | rw [c62b0] | (simp only [i64_w, i32_w]; rw [c62b0]) | skip)
            by_cases c63 : 0 ≤ (rd t840 x14_2)
            ·rw [if_pos c63] at H
             have c63b0 : decide (0 ≤ (rd t840 x14_2)) = true := decide_eq_true c63
             clear c63
             by_cases c64 : (rd t840 x14_2) < (t846.size : Int)
             ·rw [if_pos c64] at H
              have c64b0 : decide ((rd t840 x14_2) < (t846.size : Int)) = true := decide_eq_true c64
              clear c64
              have H' := Aside0.mk H
              clear H
              have p65 : 0 ≤ ((rd t840 x14_2) : Int) := od_
              have q65 : (rd t840 x14_2) < (t846.size : Int) := od_
              have hx65 := bt_at t846 (rd t840 x14_2)
              replace p65 := eq_true p65
              replace q65 := eq_true q65
              go_wp2
              go_meet
              case rel => exact ⟨_, (((bt t846 (rd t840 x14_2)) == 70)), (by first | rfl | (simp; done) | (simp [*]; done)), H', ⟨by have := HJ8.out; have := HK2.out; first | omega | exact Nat.le_refl _⟩, ⟨by (with_reducible repeat (first | apply Kd.R_alloc | apply Kd.R_drewN | apply Kd.R_drew)); exact HO_6.out⟩, ⟨by (with_reducible repeat (first | apply Kd.R_alloc | apply Kd.R_drewN | apply Kd.R_drew)); exact HO_8.out⟩, ⟨by (with_reducible repeat (first | apply Kd.R_alloc | apply Kd.R_drewN | apply Kd.R_drew)); exact HO_10.out⟩, ⟨by (with_reducible repeat (first | apply Kd.R_alloc | apply Kd.R_drewN | apply Kd.R_drew)); exact HO_848000.out⟩, ⟨by (with_reducible repeat (first | apply Kd.S_alloc | apply Kd.S_drewN | apply Kd.S_drew)); exact HO_848001.out⟩, ⟨by (with_reducible repeat (first | refine blk_drewN ?_ _ | refine blk_drew ?_ | refine blk_alloc ?_ _)); exact BK847.out⟩, ⟨(hg_ GE847)⟩⟩
             ·rw [if_neg c64] at H
              exact absurd H (by simp)
            ·rw [if_neg c63] at H
             exact absurd H (by simp)
          case rest =>
           clear HC60
           try clear c1
           try clear c2
           try clear p2
           try clear c3
           try clear c4
           try clear c5
           try clear c6
           try clear p6
           try clear q6
           try clear hx6
           try clear p8
           try clear q8
           try clear hx8
           try clear c14
           try clear c22
           try clear c22b0
           try clear c22b1
           try clear c23
           try clear c23b0
           try clear c23b1
           try clear c23b2
           try clear c24
           try clear c24b0
           try clear c24b1
           try clear c25
           try clear c25b0
           try clear c25b1
           try clear c27
           try clear c28
           try clear c28b0
           try clear c28b1
           try clear c29
           try clear c29b0
           try clear c34
           try clear c34b0
           try clear c34b1
           try clear c36
           try clear c36b0
           try clear c38
           try clear c42
           try clear c43
           try clear c44
           try clear c56
           try clear c57
           try clear c57b0
           try clear c58
           try clear c58b0
           try clear c59
           try clear c59b0
           try clear c62
           try clear c62b0
           try clear c63
           try clear c63b0
           try clear c64
           try clear c64b0
           try clear p64
           try clear p65
           try clear q65
           try clear hx65
           try clear hcz13_0
           try clear hcz13_1
           try clear hcz16_0
           try clear hcz16_1
           try clear hcz18_0
           try clear hcz18_1
           try clear hcz20_0
           try clear hcz20_1
           try clear hcz31_0
           try clear hcz31_1
           try clear hcz38_0
           try clear hcz38_1
           try clear hcz41_0
           try clear hcz41_1
           try clear hcz45_0
           try clear hcz45_1
           try clear hcz48_0
           try clear hcz48_1
           try clear hcz51_0
           try clear hcz51_1
           try clear hcz53_0
           try clear hcz53_1
           try clear hcz55_0
           try clear hcz55_1
           try clear hcz61_0
           try clear hcz61_1
           try clear hfz13_0
           try clear hfz13_1
           try clear hfz16_0
           try clear hfz16_1
           try clear hfz18_0
           try clear hfz18_1
           try clear hfz20_0
           try clear hfz20_1
           try clear hfz31_0
           try clear hfz31_1
           try clear hfz38_0
           try clear hfz38_1
           try clear hfz41_0
           try clear hfz41_1
           try clear hfz45_0
           try clear hfz45_1
           try clear hfz48_0
           try clear hfz48_1
           try clear hfz51_0
           try clear hfz51_1
           try clear hfz53_0
           try clear hfz53_1
           try clear hfz55_0
           try clear hfz55_1
           try clear hfz61_0
           try clear hfz61_1
           try clear hx863_0
           try clear p2
           try clear p6
           try clear p65
           try clear p863
           try clear q65
           try clear q863
           obtain ⟨kq, x16_59, rfl, HA, HJ59, HO_6, HO_8, HO_10, HO_848000, HO_848001, BK847, HB⟩ := hcut
           cases kq with
           | zero => exact absurd HA.out (by simp [laws_FnDeckStates.j2])
           | succ kj59 =>
            have H := HA.out
            clear HA
            simp only [laws_FnDeckStates.j2] at H
            have H' := Aside0.mk H
            clear H
            go_wp2
            go_loopg [17, 18] kj59 (fun kq v17 v18 w' => ∃ (x17_4 : Bool) (x18_4 : Int), v17 = .bool x17_4 ∧ v18 = .int .i64 x18_4 ∧ Aside0 (laws_FnDeckStates.l1 kq t846 (t846.size : Int) t848 t852 t856 x14_2 x16_59 x17_4 x18_4 t840 t843 = some r) ∧ Aside0 (kq ≤ kj59) ∧ Aside0 (Kd.R (Kd.int .i64) 2 w' w.heap.size (fun k_ => some k_ ≠ (v853 : Value).ownBlock ∧ some k_ ≠ (v857 : Value).ownBlock ∧ some k_ ≠ ((.slice (some ad863) t840.length co12) : Value).ownBlock) v849 t848) ∧ Aside0 (Kd.R (Kd.int .i64) 2 w' w.heap.size (fun k_ => some k_ ≠ (v849 : Value).ownBlock ∧ some k_ ≠ (v857 : Value).ownBlock ∧ some k_ ≠ ((.slice (some ad863) t840.length co12) : Value).ownBlock) v853 t852) ∧ Aside0 (Kd.R (Kd.int .i64) 2 w' w.heap.size (fun k_ => some k_ ≠ (v849 : Value).ownBlock ∧ some k_ ≠ (v853 : Value).ownBlock ∧ some k_ ≠ ((.slice (some ad863) t840.length co12) : Value).ownBlock) v857 t856) ∧ Aside0 (Kd.R (Kd.int .i64) 2 w' w.heap.size (fun k_ => some k_ ≠ (v849 : Value).ownBlock ∧ some k_ ≠ (v853 : Value).ownBlock ∧ some k_ ≠ (v857 : Value).ownBlock) (.slice (some ad863) t840.length co12) t840) ∧ Aside0 (Kd.S (Kd.slice 2 (Kd.int .i64)) 22 w' w.heap.size (fun k_ => some k_ ≠ (v849 : Value).ownBlock ∧ some k_ ≠ (v853 : Value).ownBlock ∧ some k_ ≠ (v857 : Value).ownBlock ∧ some k_ ≠ ((.slice (some ad863) t840.length co12) : Value).ownBlock) (.slice Ao14 t843.length co14) t843) ∧ Aside0 (w'.heap[gb847]? = some (.cells #[(.slice (some ad863) t840.length co12), (.slice Ao14 t843.length co14)] 28 (0, 0))) ∧ Aside0 (Below w.heap.size w w'))
            case atStart => exact ⟨(true), (0), (by first | rfl | (simp; done) | (simp [*]; done)), (by first | rfl | (simp; done) | (simp [*]; done)), H', ⟨Nat.le_refl _⟩, ⟨by (with_reducible repeat (first | apply Kd.R_alloc | apply Kd.R_drewN | apply Kd.R_drew)); exact HO_6.out⟩, ⟨by (with_reducible repeat (first | apply Kd.R_alloc | apply Kd.R_drewN | apply Kd.R_drew)); exact HO_8.out⟩, ⟨by (with_reducible repeat (first | apply Kd.R_alloc | apply Kd.R_drewN | apply Kd.R_drew)); exact HO_10.out⟩, ⟨by (with_reducible repeat (first | apply Kd.R_alloc | apply Kd.R_drewN | apply Kd.R_drew)); exact HO_848000.out⟩, ⟨by (with_reducible repeat (first | apply Kd.S_alloc | apply Kd.S_drewN | apply Kd.S_drew)); exact HO_848001.out⟩, ⟨by (with_reducible repeat (first | refine blk_drewN ?_ _ | refine blk_drew ?_ | refine blk_alloc ?_ _)); exact BK847.out⟩, ⟨(hg_ GE847)⟩⟩
            case round =>
             clear H'
             try clear c1
             try clear c2
             try clear p2
             try clear c3
             try clear c4
             try clear c5
             try clear c6
             try clear p6
             try clear q6
             try clear hx6
             try clear p8
             try clear q8
             try clear hx8
             try clear c14
             try clear c22
             try clear c22b0
             try clear c22b1
             try clear c23
             try clear c23b0
             try clear c23b1
             try clear c23b2
             try clear c24
             try clear c24b0
             try clear c24b1
             try clear c25
             try clear c25b0
             try clear c25b1
             try clear c27
             try clear c28
             try clear c28b0
             try clear c28b1
             try clear c29
             try clear c29b0
             try clear c34
             try clear c34b0
             try clear c34b1
             try clear c36
             try clear c36b0
             try clear c38
             try clear c42
             try clear c43
             try clear c44
             try clear c56
             try clear c57
             try clear c57b0
             try clear c58
             try clear c58b0
             try clear c59
             try clear c59b0
             try clear c62
             try clear c62b0
             try clear c63
             try clear c63b0
             try clear c64
             try clear c64b0
             try clear p64
             try clear p65
             try clear q65
             try clear hx65
             try clear hcz13_0
             try clear hcz13_1
             try clear hcz16_0
             try clear hcz16_1
             try clear hcz18_0
             try clear hcz18_1
             try clear hcz20_0
             try clear hcz20_1
             try clear hcz31_0
             try clear hcz31_1
             try clear hcz38_0
             try clear hcz38_1
             try clear hcz41_0
             try clear hcz41_1
             try clear hcz45_0
             try clear hcz45_1
             try clear hcz48_0
             try clear hcz48_1
             try clear hcz51_0
             try clear hcz51_1
             try clear hcz53_0
             try clear hcz53_1
             try clear hcz55_0
             try clear hcz55_1
             try clear hcz61_0
             try clear hcz61_1
             try clear hfz13_0
             try clear hfz13_1
             try clear hfz16_0
             try clear hfz16_1
             try clear hfz18_0
             try clear hfz18_1
             try clear hfz20_0
             try clear hfz20_1
             try clear hfz31_0
             try clear hfz31_1
             try clear hfz38_0
             try clear hfz38_1
             try clear hfz41_0
             try clear hfz41_1
             try clear hfz45_0
             try clear hfz45_1
             try clear hfz48_0
             try clear hfz48_1
             try clear hfz51_0
             try clear hfz51_1
             try clear hfz53_0
             try clear hfz53_1
             try clear hfz55_0
             try clear hfz55_1
             try clear hfz61_0
             try clear hfz61_1
             try clear hx863_0
             try clear p2
             try clear p6
             try clear p64
             try clear p65
             try clear p8
             try clear p863
             try clear q6
             try clear q65
             try clear q8
             try clear q863
             obtain ⟨x17_4, x18_4, rfl, rfl, HA, HK4, HO_6, HO_8, HO_10, HO_848000, HO_848001, BK847, HB⟩ := hrel
             cases gk with
             | zero => exact absurd HA.out (by simp [laws_FnDeckStates.l1])
             | succ k4 =>
              have H := HA.out
              clear HA
              simp only [laws_FnDeckStates.l1] at H
              by_cases c66 : x18_4 < (t843.length : Int)
              ·rw [if_pos c66] at H
               have c66b0 : decide (x18_4 < (t843.length : Int)) = true := decide_eq_true c66
               clear c66
               by_cases c67 : 0 ≤ x18_4
               ·rw [if_pos c67] at H
                have c67b0 : decide (0 ≤ x18_4) = true := decide_eq_true c67
                clear c67
                by_cases c68 : x18_4 < (t848.length : Int)
                ·rw [if_pos c68] at H
                 have c68b0 : decide (x18_4 < (t848.length : Int)) = true := decide_eq_true c68
                 clear c68
                 replace H := Option.bind_eq_some_iff.mp H
                 obtain ⟨t866, A690, H⟩ := H
                 replace H : (if t866 = true then (if 0 ≤ x14_2 then (if x14_2 < (t846.size : Int) then (if (bt t846 x14_2) = 70 then (if x17_4 = true then (laws_FnDeckStates.l1 k4 t846 (t846.size : Int) t848 t852 t856 x14_2 x16_59 (decide ((wrap64 ((rd t848 x18_4) - 1)) > 0)) (wrap64 (x18_4 + 1)) t840 t843) else (laws_FnDeckStates.l1 k4 t846 (t846.size : Int) t848 t852 t856 x14_2 x16_59 false (wrap64 (x18_4 + 1)) t840 t843)) else (if x17_4 = true then (laws_FnDeckStates.l1 k4 t846 (t846.size : Int) t848 t852 t856 x14_2 x16_59 (decide ((wrap64 ((rd t848 x18_4) + 1)) > 0)) (wrap64 (x18_4 + 1)) t840 t843) else (laws_FnDeckStates.l1 k4 t846 (t846.size : Int) t848 t852 t856 x14_2 x16_59 false (wrap64 (x18_4 + 1)) t840 t843))) else (none)) else (none)) else (if x17_4 = true then (laws_FnDeckStates.l1 k4 t846 (t846.size : Int) t848 t852 t856 x14_2 x16_59 (decide ((rd t848 x18_4) > 0)) (wrap64 (x18_4 + 1)) t840 t843) else (laws_FnDeckStates.l1 k4 t846 (t846.size : Int) t848 t852 t856 x14_2 x16_59 false (wrap64 (x18_4 + 1)) t840 t843))) = some r := H
                 have A69 := Aside0.mk A690
                 clear A690
                 by_cases c70 : t866 = true
                 ·as_aux_lemma =>
                   subst c70
                   have H1 : (if 0 ≤ x14_2 then (if x14_2 < (t846.size : Int) then (if (bt t846 x14_2) = 70 then (if x17_4 = true then (laws_FnDeckStates.l1 k4 t846 (t846.size : Int) t848 t852 t856 x14_2 x16_59 (decide ((wrap64 ((rd t848 x18_4) - 1)) > 0)) (wrap64 (x18_4 + 1)) t840 t843) else (laws_FnDeckStates.l1 k4 t846 (t846.size : Int) t848 t852 t856 x14_2 x16_59 false (wrap64 (x18_4 + 1)) t840 t843)) else (if x17_4 = true then (laws_FnDeckStates.l1 k4 t846 (t846.size : Int) t848 t852 t856 x14_2 x16_59 (decide ((wrap64 ((rd t848 x18_4) + 1)) > 0)) (wrap64 (x18_4 + 1)) t840 t843) else (laws_FnDeckStates.l1 k4 t846 (t846.size : Int) t848 t852 t856 x14_2 x16_59 false (wrap64 (x18_4 + 1)) t840 t843))) else (none)) else (none)) = some r := by rw [if_pos rfl] at H; exact H
                   clear H
                   have H := H1
                   clear H1
                   by_cases c71 : 0 ≤ x14_2
                   ·rw [if_pos c71] at H
                    have c71b0 : decide (0 ≤ x14_2) = true := decide_eq_true c71
                    clear c71
                    by_cases c72 : x14_2 < (t846.size : Int)
                    ·rw [if_pos c72] at H
                     have c72b0 : decide (x14_2 < (t846.size : Int)) = true := decide_eq_true c72
                     clear c72
                     by_cases c74 : (bt t846 x14_2) = 70
                     ·rw [if_pos c74] at H
                      have c74b0 : ((bt t846 x14_2) == 70) = true := beq_iff_eq.mpr c74
                      have c74b1 : ((bt t846 x14_2) != 70) = false := bne_eq_false_iff_eq.mpr c74
                      clear c74
                      by_cases c75 : x17_4 = true
                      ·subst c75
                       have H1 : (laws_FnDeckStates.l1 k4 t846 (t846.size : Int) t848 t852 t856 x14_2 x16_59 (decide ((wrap64 ((rd t848 x18_4) - 1)) > 0)) (wrap64 (x18_4 + 1)) t840 t843) = some r := by rw [if_pos rfl] at H; exact H
                       clear H
                       have H := H1
                       clear H1
                       have H' := Aside0.mk H
                       clear H
                       have hcz76_0 : wr.cell? ⟨gb847, 0, none⟩ = some (.slice (some ad863) t840.length co12) := (blk_cell BK847.out 0).trans rfl
                       have hcz76_1 : wr.cell? ⟨gb847, 1, none⟩ = some (.slice Ao14 t843.length co14) := (blk_cell BK847.out 1).trans rfl
                       have hfz76_0 := blk_frozen BK847.out 0
                       have hfz76_1 := blk_frozen BK847.out 1
                       obtain ⟨Ao77, co77, eo77⟩ := Kd.R_slice HO_6.out
                       subst eo77
                       have p864 : 0 ≤ (x18_4 : Int) := od_
                       have q864 : x18_4 < (t848.length : Int) := od_
                       obtain ⟨ad864, e864, hx864_0⟩ := Kd.at_int (Kd.R_reads' HO_6.out).2.2 x18_4 p864 q864
                       cases e864
                       replace p864 := eq_true p864
                       replace q864 := eq_true q864
                       have p865 : 0 ≤ (x18_4 : Int) := od_
                       have q865 : x18_4 < (t843.length : Int) := od_
                       obtain ⟨ad865, A865_0, c865_0, e865, hx865_0, hl865_0, hi865_0⟩ := at_L1 (Kd.S_reads' HO_848001.out).2.2 x18_4 p865 q865
                       cases e865
                       obtain ⟨ce865, hce865, hMe865, hcc865⟩ := Kd.S_get HO_848001.out [] x18_4 p865 (by first | exact q865 | exact od_ | (have e_ := (Kd.S_reads' HO_848001.out).1; omega))
                       obtain ⟨ve865_0, rfl, ge865_0⟩ := hMe865
                       have hv865_0 := hcc865 0 _ rfl
                       rw [Nat.add_zero, show ((Kd.slice 2 (Kd.int .i64))).sz = 1 from rfl, Nat.mul_one] at hv865_0
                       replace hv865_0 := Option.some.inj (hv865_0.symm.trans hx865_0)
                       rw [hv865_0] at ge865_0
                       have HL865_0 := Aside0.mk (show Kd.R (Kd.int .i64) 2 _ _ _ _ (rd_L1 t843 x18_4) from ge865_0)
                       clear hv865_0 ge865_0
                       clear hcc865 hce865
                       have HR865_0 := Aside0.mk hi865_0
                       have HC865_0 := Aside0.mk hl865_0
                       clear hi865_0 hl865_0
                       replace p865 := eq_true p865
                       replace q865 := eq_true q865
                       go_wp2_with (first | ((with_reducible refine gate_callee (f := 47) rfl ?_); refine goesL_ (some 138) rfl rfl Try.func47 (by kernel_rfl) rfl #[.slice A865_0 (rd_L1 t843 x18_4).length c865_0, .int .i64 x14_2] rfl ln_ ?_; (with_reducible refine (laws_a2Has.calls k4 _ _ (rd_L1 t843 x18_4) x14_2 true _ ?side1 ?side2 A69.out).mono ?_); (case side1 => repeat (first | exact (by repeat (first | (with_reducible exact HR865_0.out) | (with_reducible refine Kd.C_alloc ?_ _) | (with_reducible refine Kd.C_drewN ?_ _) | (with_reducible refine Kd.C_drew ?_) | exact HR865_0.out)) | (with_reducible refine Kd.C_alloc ?_ _) | (with_reducible refine Kd.C_drewN ?_ _) | (with_reducible refine Kd.C_drew ?_))); (case side2 => exact HC865_0.out); rintro e w' ⟨rfl, ⟨nd, rfl⟩⟩; refine ⟨_, rfl, ?_⟩; have p73 : 0 ≤ (x14_2 : Int) := od_; have q73 : x14_2 < (t846.size : Int) := od_; have hx73 := bt_at t846 x14_2; replace p73 := eq_true p73; replace q73 := eq_true q73))
                       go_roundg k4
                       case measure => have := HJ8.out; have := HK2.out; have := HJ59.out; have := HK4.out; omega
                       case rel => exact ⟨(decide ((wrap64 ((rd t848 x18_4) - 1)) > 0)), (wrap64 (x18_4 + 1)), (by first | rfl | (simp; done) | (simp [*]; done)), (by first | rfl | (simp; done) | (simp [*]; done)), H', ⟨by have := HJ8.out; have := HK2.out; have := HJ59.out; have := HK4.out; omega⟩, ⟨by (with_reducible repeat (first | apply Kd.R_alloc | apply Kd.R_drewN | apply Kd.R_drew)); exact HO_6.out⟩, ⟨by (with_reducible repeat (first | apply Kd.R_alloc | apply Kd.R_drewN | apply Kd.R_drew)); exact HO_8.out⟩, ⟨by (with_reducible repeat (first | apply Kd.R_alloc | apply Kd.R_drewN | apply Kd.R_drew)); exact HO_10.out⟩, ⟨by (with_reducible repeat (first | apply Kd.R_alloc | apply Kd.R_drewN | apply Kd.R_drew)); exact HO_848000.out⟩, ⟨by (with_reducible repeat (first | apply Kd.S_alloc | apply Kd.S_drewN | apply Kd.S_drew)); exact HO_848001.out⟩, ⟨by (with_reducible repeat (first | refine blk_drewN ?_ _ | refine blk_drew ?_ | refine blk_alloc ?_ _)); exact BK847.out⟩, ⟨(hg_ GE847)⟩⟩
                      ·replace c75 := Bool.eq_false_iff.mpr c75
                       subst c75
                       have H1 : (laws_FnDeckStates.l1 k4 t846 (t846.size : Int) t848 t852 t856 x14_2 x16_59 false (wrap64 (x18_4 + 1)) t840 t843) = some r := by rw [if_neg (show ¬ (false = true) by decide)] at H; exact H
                       clear H
                       have H := H1
                       clear H1
                       have H' := Aside0.mk H
                       clear H
                       have hcz78_0 : wr.cell? ⟨gb847, 0, none⟩ = some (.slice (some ad863) t840.length co12) := (blk_cell BK847.out 0).trans rfl
                       have hcz78_1 : wr.cell? ⟨gb847, 1, none⟩ = some (.slice Ao14 t843.length co14) := (blk_cell BK847.out 1).trans rfl
                       have hfz78_0 := blk_frozen BK847.out 0
                       have hfz78_1 := blk_frozen BK847.out 1
                       obtain ⟨Ao79, co79, eo79⟩ := Kd.R_slice HO_6.out
                       subst eo79
                       have p864 : 0 ≤ (x18_4 : Int) := od_
                       have q864 : x18_4 < (t848.length : Int) := od_
                       obtain ⟨ad864, e864, hx864_0⟩ := Kd.at_int (Kd.R_reads' HO_6.out).2.2 x18_4 p864 q864
                       cases e864
                       replace p864 := eq_true p864
                       replace q864 := eq_true q864
                       have p865 : 0 ≤ (x18_4 : Int) := od_
                       have q865 : x18_4 < (t843.length : Int) := od_
                       obtain ⟨ad865, A865_0, c865_0, e865, hx865_0, hl865_0, hi865_0⟩ := at_L1 (Kd.S_reads' HO_848001.out).2.2 x18_4 p865 q865
                       cases e865
                       obtain ⟨ce865, hce865, hMe865, hcc865⟩ := Kd.S_get HO_848001.out [] x18_4 p865 (by first | exact q865 | exact od_ | (have e_ := (Kd.S_reads' HO_848001.out).1; omega))
                       obtain ⟨ve865_0, rfl, ge865_0⟩ := hMe865
                       have hv865_0 := hcc865 0 _ rfl
                       rw [Nat.add_zero, show ((Kd.slice 2 (Kd.int .i64))).sz = 1 from rfl, Nat.mul_one] at hv865_0
                       replace hv865_0 := Option.some.inj (hv865_0.symm.trans hx865_0)
                       rw [hv865_0] at ge865_0
                       have HL865_0 := Aside0.mk (show Kd.R (Kd.int .i64) 2 _ _ _ _ (rd_L1 t843 x18_4) from ge865_0)
                       clear hv865_0 ge865_0
                       clear hcc865 hce865
                       have HR865_0 := Aside0.mk hi865_0
                       have HC865_0 := Aside0.mk hl865_0
                       clear hi865_0 hl865_0
                       replace p865 := eq_true p865
                       replace q865 := eq_true q865
                       go_wp2_with (first | ((with_reducible refine gate_callee (f := 47) rfl ?_); refine goesL_ (some 138) rfl rfl Try.func47 (by kernel_rfl) rfl #[.slice A865_0 (rd_L1 t843 x18_4).length c865_0, .int .i64 x14_2] rfl ln_ ?_; (with_reducible refine (laws_a2Has.calls k4 _ _ (rd_L1 t843 x18_4) x14_2 true _ ?side1 ?side2 A69.out).mono ?_); (case side1 => repeat (first | exact (by repeat (first | (with_reducible exact HR865_0.out) | (with_reducible refine Kd.C_alloc ?_ _) | (with_reducible refine Kd.C_drewN ?_ _) | (with_reducible refine Kd.C_drew ?_) | exact HR865_0.out)) | (with_reducible refine Kd.C_alloc ?_ _) | (with_reducible refine Kd.C_drewN ?_ _) | (with_reducible refine Kd.C_drew ?_))); (case side2 => exact HC865_0.out); rintro e w' ⟨rfl, ⟨nd, rfl⟩⟩; refine ⟨_, rfl, ?_⟩; have p73 : 0 ≤ (x14_2 : Int) := od_; have q73 : x14_2 < (t846.size : Int) := od_; have hx73 := bt_at t846 x14_2; replace p73 := eq_true p73; replace q73 := eq_true q73))
                       go_roundg k4
                       case measure => have := HJ8.out; have := HK2.out; have := HJ59.out; have := HK4.out; omega
                       case rel => exact ⟨(false), (wrap64 (x18_4 + 1)), (by first | rfl | (simp; done) | (simp [*]; done)), (by first | rfl | (simp; done) | (simp [*]; done)), H', ⟨by have := HJ8.out; have := HK2.out; have := HJ59.out; have := HK4.out; omega⟩, ⟨by (with_reducible repeat (first | apply Kd.R_alloc | apply Kd.R_drewN | apply Kd.R_drew)); exact HO_6.out⟩, ⟨by (with_reducible repeat (first | apply Kd.R_alloc | apply Kd.R_drewN | apply Kd.R_drew)); exact HO_8.out⟩, ⟨by (with_reducible repeat (first | apply Kd.R_alloc | apply Kd.R_drewN | apply Kd.R_drew)); exact HO_10.out⟩, ⟨by (with_reducible repeat (first | apply Kd.R_alloc | apply Kd.R_drewN | apply Kd.R_drew)); exact HO_848000.out⟩, ⟨by (with_reducible repeat (first | apply Kd.S_alloc | apply Kd.S_drewN | apply Kd.S_drew)); exact HO_848001.out⟩, ⟨by (with_reducible repeat (first | refine blk_drewN ?_ _ | refine blk_drew ?_ | refine blk_alloc ?_ _)); exact BK847.out⟩, ⟨(hg_ GE847)⟩⟩
                     ·rw [if_neg c74] at H
                      have c74b0 : ((bt t846 x14_2) == 70) = false := beq_eq_false_iff_ne.mpr c74
                      have c74b1 : ((bt t846 x14_2) != 70) = true := bne_iff_ne.mpr c74
                      by_cases c80 : x17_4 = true
                      ·subst c80
                       have H1 : (laws_FnDeckStates.l1 k4 t846 (t846.size : Int) t848 t852 t856 x14_2 x16_59 (decide ((wrap64 ((rd t848 x18_4) + 1)) > 0)) (wrap64 (x18_4 + 1)) t840 t843) = some r := by rw [if_pos rfl] at H; exact H
                       clear H
                       have H := H1
                       clear H1
                       have H' := Aside0.mk H
                       clear H
                       have hcz81_0 : wr.cell? ⟨gb847, 0, none⟩ = some (.slice (some ad863) t840.length co12) := (blk_cell BK847.out 0).trans rfl
                       have hcz81_1 : wr.cell? ⟨gb847, 1, none⟩ = some (.slice Ao14 t843.length co14) := (blk_cell BK847.out 1).trans rfl
                       have hfz81_0 := blk_frozen BK847.out 0
                       have hfz81_1 := blk_frozen BK847.out 1
                       obtain ⟨Ao82, co82, eo82⟩ := Kd.R_slice HO_6.out
                       subst eo82
                       have p864 : 0 ≤ (x18_4 : Int) := od_
                       have q864 : x18_4 < (t848.length : Int) := od_
                       obtain ⟨ad864, e864, hx864_0⟩ := Kd.at_int (Kd.R_reads' HO_6.out).2.2 x18_4 p864 q864
                       cases e864
                       replace p864 := eq_true p864
                       replace q864 := eq_true q864
                       have p865 : 0 ≤ (x18_4 : Int) := od_
                       have q865 : x18_4 < (t843.length : Int) := od_
                       obtain ⟨ad865, A865_0, c865_0, e865, hx865_0, hl865_0, hi865_0⟩ := at_L1 (Kd.S_reads' HO_848001.out).2.2 x18_4 p865 q865
                       cases e865
                       obtain ⟨ce865, hce865, hMe865, hcc865⟩ := Kd.S_get HO_848001.out [] x18_4 p865 (by first | exact q865 | exact od_ | (have e_ := (Kd.S_reads' HO_848001.out).1; omega))
                       obtain ⟨ve865_0, rfl, ge865_0⟩ := hMe865
                       have hv865_0 := hcc865 0 _ rfl
                       rw [Nat.add_zero, show ((Kd.slice 2 (Kd.int .i64))).sz = 1 from rfl, Nat.mul_one] at hv865_0
                       replace hv865_0 := Option.some.inj (hv865_0.symm.trans hx865_0)
                       rw [hv865_0] at ge865_0
                       have HL865_0 := Aside0.mk (show Kd.R (Kd.int .i64) 2 _ _ _ _ (rd_L1 t843 x18_4) from ge865_0)
                       clear hv865_0 ge865_0
                       clear hcc865 hce865
                       have HR865_0 := Aside0.mk hi865_0
                       have HC865_0 := Aside0.mk hl865_0
                       clear hi865_0 hl865_0
                       replace p865 := eq_true p865
                       replace q865 := eq_true q865
                       go_wp2_with (first | ((with_reducible refine gate_callee (f := 47) rfl ?_); refine goesL_ (some 138) rfl rfl Try.func47 (by kernel_rfl) rfl #[.slice A865_0 (rd_L1 t843 x18_4).length c865_0, .int .i64 x14_2] rfl ln_ ?_; (with_reducible refine (laws_a2Has.calls k4 _ _ (rd_L1 t843 x18_4) x14_2 true _ ?side1 ?side2 A69.out).mono ?_); (case side1 => repeat (first | exact (by repeat (first | (with_reducible exact HR865_0.out) | (with_reducible refine Kd.C_alloc ?_ _) | (with_reducible refine Kd.C_drewN ?_ _) | (with_reducible refine Kd.C_drew ?_) | exact HR865_0.out)) | (with_reducible refine Kd.C_alloc ?_ _) | (with_reducible refine Kd.C_drewN ?_ _) | (with_reducible refine Kd.C_drew ?_))); (case side2 => exact HC865_0.out); rintro e w' ⟨rfl, ⟨nd, rfl⟩⟩; refine ⟨_, rfl, ?_⟩; have p73 : 0 ≤ (x14_2 : Int) := od_; have q73 : x14_2 < (t846.size : Int) := od_; have hx73 := bt_at t846 x14_2; replace p73 := eq_true p73; replace q73 := eq_true q73))
                       go_roundg k4
                       case measure => have := HJ8.out; have := HK2.out; have := HJ59.out; have := HK4.out; omega
                       case rel => exact ⟨(decide ((wrap64 ((rd t848 x18_4) + 1)) > 0)), (wrap64 (x18_4 + 1)), (by first | rfl | (simp; done) | (simp [*]; done)), (by first | rfl | (simp; done) | (simp [*]; done)), H', ⟨by have := HJ8.out; have := HK2.out; have := HJ59.out; have := HK4.out; omega⟩, ⟨by (with_reducible repeat (first | apply Kd.R_alloc | apply Kd.R_drewN | apply Kd.R_drew)); exact HO_6.out⟩, ⟨by (with_reducible repeat (first | apply Kd.R_alloc | apply Kd.R_drewN | apply Kd.R_drew)); exact HO_8.out⟩, ⟨by (with_reducible repeat (first | apply Kd.R_alloc | apply Kd.R_drewN | apply Kd.R_drew)); exact HO_10.out⟩, ⟨by (with_reducible repeat (first | apply Kd.R_alloc | apply Kd.R_drewN | apply Kd.R_drew)); exact HO_848000.out⟩, ⟨by (with_reducible repeat (first | apply Kd.S_alloc | apply Kd.S_drewN | apply Kd.S_drew)); exact HO_848001.out⟩, ⟨by (with_reducible repeat (first | refine blk_drewN ?_ _ | refine blk_drew ?_ | refine blk_alloc ?_ _)); exact BK847.out⟩, ⟨(hg_ GE847)⟩⟩
                      ·replace c80 := Bool.eq_false_iff.mpr c80
                       subst c80
                       have H1 : (laws_FnDeckStates.l1 k4 t846 (t846.size : Int) t848 t852 t856 x14_2 x16_59 false (wrap64 (x18_4 + 1)) t840 t843) = some r := by rw [if_neg (show ¬ (false = true) by decide)] at H; exact H
                       clear H
                       have H := H1
                       clear H1
                       have H' := Aside0.mk H
                       clear H
                       have hcz83_0 : wr.cell? ⟨gb847, 0, none⟩ = some (.slice (some ad863) t840.length co12) := (blk_cell BK847.out 0).trans rfl
                       have hcz83_1 : wr.cell? ⟨gb847, 1, none⟩ = some (.slice Ao14 t843.length co14) := (blk_cell BK847.out 1).trans rfl
                       have hfz83_0 := blk_frozen BK847.out 0
                       have hfz83_1 := blk_frozen BK847.out 1
                       obtain ⟨Ao84, co84, eo84⟩ := Kd.R_slice HO_6.out
                       subst eo84
                       have p864 : 0 ≤ (x18_4 : Int) := od_
                       have q864 : x18_4 < (t848.length : Int) := od_
                       obtain ⟨ad864, e864, hx864_0⟩ := Kd.at_int (Kd.R_reads' HO_6.out).2.2 x18_4 p864 q864
                       cases e864
                       replace p864 := eq_true p864
                       replace q864 := eq_true q864
                       have p865 : 0 ≤ (x18_4 : Int) := od_
                       have q865 : x18_4 < (t843.length : Int) := od_
                       obtain ⟨ad865, A865_0, c865_0, e865, hx865_0, hl865_0, hi865_0⟩ := at_L1 (Kd.S_reads' HO_848001.out).2.2 x18_4 p865 q865
                       cases e865
                       obtain ⟨ce865, hce865, hMe865, hcc865⟩ := Kd.S_get HO_848001.out [] x18_4 p865 (by first | exact q865 | exact od_ | (have e_ := (Kd.S_reads' HO_848001.out).1; omega))
                       obtain ⟨ve865_0, rfl, ge865_0⟩ := hMe865
                       have hv865_0 := hcc865 0 _ rfl
                       rw [Nat.add_zero, show ((Kd.slice 2 (Kd.int .i64))).sz = 1 from rfl, Nat.mul_one] at hv865_0
                       replace hv865_0 := Option.some.inj (hv865_0.symm.trans hx865_0)
                       rw [hv865_0] at ge865_0
                       have HL865_0 := Aside0.mk (show Kd.R (Kd.int .i64) 2 _ _ _ _ (rd_L1 t843 x18_4) from ge865_0)
                       clear hv865_0 ge865_0
                       clear hcc865 hce865
                       have HR865_0 := Aside0.mk hi865_0
                       have HC865_0 := Aside0.mk hl865_0
                       clear hi865_0 hl865_0
                       replace p865 := eq_true p865
                       replace q865 := eq_true q865
                       go_wp2_with (first | ((with_reducible refine gate_callee (f := 47) rfl ?_); refine goesL_ (some 138) rfl rfl Try.func47 (by kernel_rfl) rfl #[.slice A865_0 (rd_L1 t843 x18_4).length c865_0, .int .i64 x14_2] rfl ln_ ?_; (with_reducible refine (laws_a2Has.calls k4 _ _ (rd_L1 t843 x18_4) x14_2 true _ ?side1 ?side2 A69.out).mono ?_); (case side1 => repeat (first | exact (by repeat (first | (with_reducible exact HR865_0.out) | (with_reducible refine Kd.C_alloc ?_ _) | (with_reducible refine Kd.C_drewN ?_ _) | (with_reducible refine Kd.C_drew ?_) | exact HR865_0.out)) | (with_reducible refine Kd.C_alloc ?_ _) | (with_reducible refine Kd.C_drewN ?_ _) | (with_reducible refine Kd.C_drew ?_))); (case side2 => exact HC865_0.out); rintro e w' ⟨rfl, ⟨nd, rfl⟩⟩; refine ⟨_, rfl, ?_⟩; have p73 : 0 ≤ (x14_2 : Int) := od_; have q73 : x14_2 < (t846.size : Int) := od_; have hx73 := bt_at t846 x14_2; replace p73 := eq_true p73; replace q73 := eq_true q73))
                       go_roundg k4
                       case measure => have := HJ8.out; have := HK2.out; have := HJ59.out; have := HK4.out; omega
                       case rel => exact ⟨(false), (wrap64 (x18_4 + 1)), (by first | rfl | (simp; done) | (simp [*]; done)), (by first | rfl | (simp; done) | (simp [*]; done)), H', ⟨by have := HJ8.out; have := HK2.out; have := HJ59.out; have := HK4.out; omega⟩, ⟨by (with_reducible repeat (first | apply Kd.R_alloc | apply Kd.R_drewN | apply Kd.R_drew)); exact HO_6.out⟩, ⟨by (with_reducible repeat (first | apply Kd.R_alloc | apply Kd.R_drewN | apply Kd.R_drew)); exact HO_8.out⟩, ⟨by (with_reducible repeat (first | apply Kd.R_alloc | apply Kd.R_drewN | apply Kd.R_drew)); exact HO_10.out⟩, ⟨by (with_reducible repeat (first | apply Kd.R_alloc | apply Kd.R_drewN | apply Kd.R_drew)); exact HO_848000.out⟩, ⟨by (with_reducible repeat (first | apply Kd.S_alloc | apply Kd.S_drewN | apply Kd.S_drew)); exact HO_848001.out⟩, ⟨by (with_reducible repeat (first | refine blk_drewN ?_ _ | refine blk_drew ?_ | refine blk_alloc ?_ _)); exact BK847.out⟩, ⟨(hg_ GE847)⟩⟩
                    ·rw [if_neg c72] at H
                     exact absurd H (by simp)
                   ·rw [if_neg c71] at H
                    exact absurd H (by simp)
                 ·as_aux_lemma =>
                   replace c70 := Bool.eq_false_iff.mpr c70
                   subst c70
                   have H1 : (if x17_4 = true then (laws_FnDeckStates.l1 k4 t846 (t846.size : Int) t848 t852 t856 x14_2 x16_59 (decide ((rd t848 x18_4) > 0)) (wrap64 (x18_4 + 1)) t840 t843) else (laws_FnDeckStates.l1 k4 t846 (t846.size : Int) t848 t852 t856 x14_2 x16_59 false (wrap64 (x18_4 + 1)) t840 t843)) = some r := by rw [if_neg (show ¬ (false = true) by decide)] at H; exact H
                   clear H
                   have H := H1
                   clear H1
                   by_cases c85 : x17_4 = true
                   ·subst c85
                    have H1 : (laws_FnDeckStates.l1 k4 t846 (t846.size : Int) t848 t852 t856 x14_2 x16_59 (decide ((rd t848 x18_4) > 0)) (wrap64 (x18_4 + 1)) t840 t843) = some r := by rw [if_pos rfl] at H; exact H
                    clear H
                    have H := H1
                    clear H1
                    have H' := Aside0.mk H
                    clear H
                    have hcz86_0 : wr.cell? ⟨gb847, 0, none⟩ = some (.slice (some ad863) t840.length co12) := (blk_cell BK847.out 0).trans rfl
                    have hcz86_1 : wr.cell? ⟨gb847, 1, none⟩ = some (.slice Ao14 t843.length co14) := (blk_cell BK847.out 1).trans rfl
                    have hfz86_0 := blk_frozen BK847.out 0
                    have hfz86_1 := blk_frozen BK847.out 1
                    obtain ⟨Ao87, co87, eo87⟩ := Kd.R_slice HO_6.out
                    subst eo87
                    have p864 : 0 ≤ (x18_4 : Int) := od_
                    have q864 : x18_4 < (t848.length : Int) := od_
                    obtain ⟨ad864, e864, hx864_0⟩ := Kd.at_int (Kd.R_reads' HO_6.out).2.2 x18_4 p864 q864
                    cases e864
                    replace p864 := eq_true p864
                    replace q864 := eq_true q864
                    have p865 : 0 ≤ (x18_4 : Int) := od_
                    have q865 : x18_4 < (t843.length : Int) := od_
                    obtain ⟨ad865, A865_0, c865_0, e865, hx865_0, hl865_0, hi865_0⟩ := at_L1 (Kd.S_reads' HO_848001.out).2.2 x18_4 p865 q865
                    cases e865
                    obtain ⟨ce865, hce865, hMe865, hcc865⟩ := Kd.S_get HO_848001.out [] x18_4 p865 (by first | exact q865 | exact od_ | (have e_ := (Kd.S_reads' HO_848001.out).1; omega))
                    obtain ⟨ve865_0, rfl, ge865_0⟩ := hMe865
                    have hv865_0 := hcc865 0 _ rfl
                    rw [Nat.add_zero, show ((Kd.slice 2 (Kd.int .i64))).sz = 1 from rfl, Nat.mul_one] at hv865_0
                    replace hv865_0 := Option.some.inj (hv865_0.symm.trans hx865_0)
                    rw [hv865_0] at ge865_0
                    have HL865_0 := Aside0.mk (show Kd.R (Kd.int .i64) 2 _ _ _ _ (rd_L1 t843 x18_4) from ge865_0)
                    clear hv865_0 ge865_0
                    clear hcc865 hce865
                    have HR865_0 := Aside0.mk hi865_0
                    have HC865_0 := Aside0.mk hl865_0
                    clear hi865_0 hl865_0
                    replace p865 := eq_true p865
                    replace q865 := eq_true q865
                    go_wp2_with (first | ((with_reducible refine gate_callee (f := 47) rfl ?_); refine goesL_ (some 138) rfl rfl Try.func47 (by kernel_rfl) rfl #[.slice A865_0 (rd_L1 t843 x18_4).length c865_0, .int .i64 x14_2] rfl ln_ ?_; (with_reducible refine (laws_a2Has.calls k4 _ _ (rd_L1 t843 x18_4) x14_2 false _ ?side1 ?side2 A69.out).mono ?_); (case side1 => repeat (first | exact (by repeat (first | (with_reducible exact HR865_0.out) | (with_reducible refine Kd.C_alloc ?_ _) | (with_reducible refine Kd.C_drewN ?_ _) | (with_reducible refine Kd.C_drew ?_) | exact HR865_0.out)) | (with_reducible refine Kd.C_alloc ?_ _) | (with_reducible refine Kd.C_drewN ?_ _) | (with_reducible refine Kd.C_drew ?_))); (case side2 => exact HC865_0.out); rintro e w' ⟨rfl, ⟨nd, rfl⟩⟩; refine ⟨_, rfl, ?_⟩))
                    go_roundg k4
                    case measure => have := HJ8.out; have := HK2.out; have := HJ59.out; have := HK4.out; omega
                    case rel => exact ⟨(decide ((rd t848 x18_4) > 0)), (wrap64 (x18_4 + 1)), (by first | rfl | (simp; done) | (simp [*]; done)), (by first | rfl | (simp; done) | (simp [*]; done)), H', ⟨by have := HJ8.out; have := HK2.out; have := HJ59.out; have := HK4.out; omega⟩, ⟨by (with_reducible repeat (first | apply Kd.R_alloc | apply Kd.R_drewN | apply Kd.R_drew)); exact HO_6.out⟩, ⟨by (with_reducible repeat (first | apply Kd.R_alloc | apply Kd.R_drewN | apply Kd.R_drew)); exact HO_8.out⟩, ⟨by (with_reducible repeat (first | apply Kd.R_alloc | apply Kd.R_drewN | apply Kd.R_drew)); exact HO_10.out⟩, ⟨by (with_reducible repeat (first | apply Kd.R_alloc | apply Kd.R_drewN | apply Kd.R_drew)); exact HO_848000.out⟩, ⟨by (with_reducible repeat (first | apply Kd.S_alloc | apply Kd.S_drewN | apply Kd.S_drew)); exact HO_848001.out⟩, ⟨by (with_reducible repeat (first | refine blk_drewN ?_ _ | refine blk_drew ?_ | refine blk_alloc ?_ _)); exact BK847.out⟩, ⟨(hg_ GE847)⟩⟩
                   ·replace c85 := Bool.eq_false_iff.mpr c85
                    subst c85
                    have H1 : (laws_FnDeckStates.l1 k4 t846 (t846.size : Int) t848 t852 t856 x14_2 x16_59 false (wrap64 (x18_4 + 1)) t840 t843) = some r := by rw [if_neg (show ¬ (false = true) by decide)] at H; exact H
                    clear H
                    have H := H1
                    clear H1
                    have H' := Aside0.mk H
                    clear H
                    have hcz88_0 : wr.cell? ⟨gb847, 0, none⟩ = some (.slice (some ad863) t840.length co12) := (blk_cell BK847.out 0).trans rfl
                    have hcz88_1 : wr.cell? ⟨gb847, 1, none⟩ = some (.slice Ao14 t843.length co14) := (blk_cell BK847.out 1).trans rfl
                    have hfz88_0 := blk_frozen BK847.out 0
                    have hfz88_1 := blk_frozen BK847.out 1
                    obtain ⟨Ao89, co89, eo89⟩ := Kd.R_slice HO_6.out
                    subst eo89
                    have p864 : 0 ≤ (x18_4 : Int) := od_
                    have q864 : x18_4 < (t848.length : Int) := od_
                    obtain ⟨ad864, e864, hx864_0⟩ := Kd.at_int (Kd.R_reads' HO_6.out).2.2 x18_4 p864 q864
                    cases e864
                    replace p864 := eq_true p864
                    replace q864 := eq_true q864
                    have p865 : 0 ≤ (x18_4 : Int) := od_
                    have q865 : x18_4 < (t843.length : Int) := od_
                    obtain ⟨ad865, A865_0, c865_0, e865, hx865_0, hl865_0, hi865_0⟩ := at_L1 (Kd.S_reads' HO_848001.out).2.2 x18_4 p865 q865
                    cases e865
                    obtain ⟨ce865, hce865, hMe865, hcc865⟩ := Kd.S_get HO_848001.out [] x18_4 p865 (by first | exact q865 | exact od_ | (have e_ := (Kd.S_reads' HO_848001.out).1; omega))
                    obtain ⟨ve865_0, rfl, ge865_0⟩ := hMe865
                    have hv865_0 := hcc865 0 _ rfl
                    rw [Nat.add_zero, show ((Kd.slice 2 (Kd.int .i64))).sz = 1 from rfl, Nat.mul_one] at hv865_0
                    replace hv865_0 := Option.some.inj (hv865_0.symm.trans hx865_0)
                    rw [hv865_0] at ge865_0
                    have HL865_0 := Aside0.mk (show Kd.R (Kd.int .i64) 2 _ _ _ _ (rd_L1 t843 x18_4) from ge865_0)
                    clear hv865_0 ge865_0
                    clear hcc865 hce865
                    have HR865_0 := Aside0.mk hi865_0
                    have HC865_0 := Aside0.mk hl865_0
                    clear hi865_0 hl865_0
                    replace p865 := eq_true p865
                    replace q865 := eq_true q865
                    go_wp2_with (first | ((with_reducible refine gate_callee (f := 47) rfl ?_); refine goesL_ (some 138) rfl rfl Try.func47 (by kernel_rfl) rfl #[.slice A865_0 (rd_L1 t843 x18_4).length c865_0, .int .i64 x14_2] rfl ln_ ?_; (with_reducible refine (laws_a2Has.calls k4 _ _ (rd_L1 t843 x18_4) x14_2 false _ ?side1 ?side2 A69.out).mono ?_); (case side1 => repeat (first | exact (by repeat (first | (with_reducible exact HR865_0.out) | (with_reducible refine Kd.C_alloc ?_ _) | (with_reducible refine Kd.C_drewN ?_ _) | (with_reducible refine Kd.C_drew ?_) | exact HR865_0.out)) | (with_reducible refine Kd.C_alloc ?_ _) | (with_reducible refine Kd.C_drewN ?_ _) | (with_reducible refine Kd.C_drew ?_))); (case side2 => exact HC865_0.out); rintro e w' ⟨rfl, ⟨nd, rfl⟩⟩; refine ⟨_, rfl, ?_⟩))
                    go_roundg k4
                    case measure => have := HJ8.out; have := HK2.out; have := HJ59.out; have := HK4.out; omega
                    case rel => exact ⟨(false), (wrap64 (x18_4 + 1)), (by first | rfl | (simp; done) | (simp [*]; done)), (by first | rfl | (simp; done) | (simp [*]; done)), H', ⟨by have := HJ8.out; have := HK2.out; have := HJ59.out; have := HK4.out; omega⟩, ⟨by (with_reducible repeat (first | apply Kd.R_alloc | apply Kd.R_drewN | apply Kd.R_drew)); exact HO_6.out⟩, ⟨by (with_reducible repeat (first | apply Kd.R_alloc | apply Kd.R_drewN | apply Kd.R_drew)); exact HO_8.out⟩, ⟨by (with_reducible repeat (first | apply Kd.R_alloc | apply Kd.R_drewN | apply Kd.R_drew)); exact HO_10.out⟩, ⟨by (with_reducible repeat (first | apply Kd.R_alloc | apply Kd.R_drewN | apply Kd.R_drew)); exact HO_848000.out⟩, ⟨by (with_reducible repeat (first | apply Kd.S_alloc | apply Kd.S_drewN | apply Kd.S_drew)); exact HO_848001.out⟩, ⟨by (with_reducible repeat (first | refine blk_drewN ?_ _ | refine blk_drew ?_ | refine blk_alloc ?_ _)); exact BK847.out⟩, ⟨(hg_ GE847)⟩⟩
                ·rw [if_neg c68] at H
                 exact absurd H (by simp)
               ·rw [if_neg c67] at H
                exact absurd H (by simp)
              ·rw [if_neg c66] at H
               have c66b0 : decide (x18_4 < (t843.length : Int)) = false := decide_eq_false c66
               clear c66
               replace H := Option.bind_eq_some_iff.mp H
               obtain ⟨t867, A900, H⟩ := H
               replace H : ((impl_ChangeLine.f k4 t840 t843 t846 x14_2).bind fun bt868 => (if x16_59 = true then (if (t867 != x17_4) = true then (some false) else (if (t867 != (bt868.2 == 0)) = true then (some false) else (if x17_4 = true then (if t867 = true then ((laws_a2Has.f k4 t856 x14_2).bind fun t870 => (if t870 = true then (some false) else (laws_FnDeckStates.l0 k4 t846 (t846.size : Int) t848 t852 t856 (wrap64 (x14_2 + 1)) t840 t843))) else (laws_FnDeckStates.l0 k4 t846 (t846.size : Int) t848 t852 t856 (wrap64 (x14_2 + 1)) t840 t843)) else (if bt868.2 = 10 then (if t867 = true then ((laws_a2Has.f k4 t856 x14_2).bind fun t871 => (if t871 = true then (some false) else (laws_FnDeckStates.l0 k4 t846 (t846.size : Int) t848 t852 t856 (wrap64 (x14_2 + 1)) t840 t843))) else (laws_FnDeckStates.l0 k4 t846 (t846.size : Int) t848 t852 t856 (wrap64 (x14_2 + 1)) t840 t843)) else (some false))))) else (if (t867 != false) = true then (some false) else (if (t867 != (bt868.2 == 0)) = true then (some false) else (if bt868.2 = 6 then (if t867 = true then ((laws_a2Has.f k4 t856 x14_2).bind fun t872 => (if t872 = true then (some false) else (laws_FnDeckStates.l0 k4 t846 (t846.size : Int) t848 t852 t856 (wrap64 (x14_2 + 1)) t840 t843))) else (laws_FnDeckStates.l0 k4 t846 (t846.size : Int) t848 t852 t856 (wrap64 (x14_2 + 1)) t840 t843)) else (some false)))))) = some r := H
               have A90 := Aside0.mk A900
               clear A900
               replace H := Option.bind_eq_some_iff.mp H
               obtain ⟨⟨t868, t869⟩, A910, H⟩ := H
               replace H : (if x16_59 = true then (if (t867 != x17_4) = true then (some false) else (if (t867 != (t869 == 0)) = true then (some false) else (if x17_4 = true then (if t867 = true then ((laws_a2Has.f k4 t856 x14_2).bind fun t870 => (if t870 = true then (some false) else (laws_FnDeckStates.l0 k4 t846 (t846.size : Int) t848 t852 t856 (wrap64 (x14_2 + 1)) t840 t843))) else (laws_FnDeckStates.l0 k4 t846 (t846.size : Int) t848 t852 t856 (wrap64 (x14_2 + 1)) t840 t843)) else (if t869 = 10 then (if t867 = true then ((laws_a2Has.f k4 t856 x14_2).bind fun t871 => (if t871 = true then (some false) else (laws_FnDeckStates.l0 k4 t846 (t846.size : Int) t848 t852 t856 (wrap64 (x14_2 + 1)) t840 t843))) else (laws_FnDeckStates.l0 k4 t846 (t846.size : Int) t848 t852 t856 (wrap64 (x14_2 + 1)) t840 t843)) else (some false))))) else (if (t867 != false) = true then (some false) else (if (t867 != (t869 == 0)) = true then (some false) else (if t869 = 6 then (if t867 = true then ((laws_a2Has.f k4 t856 x14_2).bind fun t872 => (if t872 = true then (some false) else (laws_FnDeckStates.l0 k4 t846 (t846.size : Int) t848 t852 t856 (wrap64 (x14_2 + 1)) t840 t843))) else (laws_FnDeckStates.l0 k4 t846 (t846.size : Int) t848 t852 t856 (wrap64 (x14_2 + 1)) t840 t843)) else (some false))))) = some r := H
               have A91 := Aside0.mk A910
               clear A910
               by_cases c92 : x16_59 = true
               ·subst c92
                have H1 : (if (t867 != x17_4) = true then (some false) else (if (t867 != (t869 == 0)) = true then (some false) else (if x17_4 = true then (if t867 = true then ((laws_a2Has.f k4 t856 x14_2).bind fun t870 => (if t870 = true then (some false) else (laws_FnDeckStates.l0 k4 t846 (t846.size : Int) t848 t852 t856 (wrap64 (x14_2 + 1)) t840 t843))) else (laws_FnDeckStates.l0 k4 t846 (t846.size : Int) t848 t852 t856 (wrap64 (x14_2 + 1)) t840 t843)) else (if t869 = 10 then (if t867 = true then ((laws_a2Has.f k4 t856 x14_2).bind fun t871 => (if t871 = true then (some false) else (laws_FnDeckStates.l0 k4 t846 (t846.size : Int) t848 t852 t856 (wrap64 (x14_2 + 1)) t840 t843))) else (laws_FnDeckStates.l0 k4 t846 (t846.size : Int) t848 t852 t856 (wrap64 (x14_2 + 1)) t840 t843)) else (some false))))) = some r := by rw [if_pos rfl] at H; exact H
                clear H
                have H := H1
                clear H1
                by_cases c93 : (t867 != x17_4) = true
                ·rw [if_pos c93] at H
                 have c93b0 : (t867 != x17_4) = true := c93
                 (try (have c93b1 : decide (t867 = x17_4) = false := by simpa using c93))
                 (try (have c93b2 : (t867 == x17_4) = false := by simpa using c93))
                 (try (have c93b3 : ¬ (t867 = x17_4) := by simpa using c93))
                 clear c93
                 obtain rfl := Option.some.inj H
                 have hcz94_0 : wr.cell? ⟨gb847, 0, none⟩ = some (.slice (some ad863) t840.length co12) := (blk_cell BK847.out 0).trans rfl
                 have hcz94_1 : wr.cell? ⟨gb847, 1, none⟩ = some (.slice Ao14 t843.length co14) := (blk_cell BK847.out 1).trans rfl
                 have hfz94_0 := blk_frozen BK847.out 0
                 have hfz94_1 := blk_frozen BK847.out 1
                 obtain ⟨Ao95, co95, eo95⟩ := Kd.R_slice HO_8.out
                 subst eo95
                 go_wp2_with (first | ((with_reducible refine gate_callee (f := 47) rfl ?_); refine goesL_ (some 154) rfl rfl Try.func47 (by kernel_rfl) rfl #[.slice Ao95 t852.length co95, .int .i64 x14_2] rfl ln_ ?_; (with_reducible refine (laws_a2Has.calls k4 _ _ t852 x14_2 t867 _ ?side1 ?side2 A90.out).mono ?_); (case side1 => repeat (first | exact (Kd.R_reads' HO_8.out).2.2 | (with_reducible refine Kd.C_alloc ?_ _) | (with_reducible refine Kd.C_drewN ?_ _) | (with_reducible refine Kd.C_drew ?_))); (case side2 => exact (Kd.R_reads' HO_8.out).2.1); rintro e w' ⟨rfl, ⟨nd, rfl⟩⟩; refine ⟨_, rfl, ?_⟩) | ((with_reducible refine gate_callee (f := 31) rfl ?_); refine goesL_ (some 159) rfl rfl Try.func31 (by kernel_rfl) rfl #[.agg #[.slice (some ad863) t840.length co12, .slice Ao14 t843.length co14], .string t846, .int .i64 x14_2] rfl ln_ ?_; (with_reducible refine (impl_ChangeLine.calls k4 _ _ t840 _ _ t843 t846 x14_2 t868 t869 _ ?side1 ?side2 ?side3 ?side4 A91.out).mono ?_); (case side1 => repeat (first | exact (Kd.R_reads' HO_848000.out).2.2 | (with_reducible refine Kd.C_alloc ?_ _) | (with_reducible refine Kd.C_drewN ?_ _) | (with_reducible refine Kd.C_drew ?_))); (case side2 => exact (Kd.R_reads' HO_848000.out).2.1); (case side3 => repeat (first | exact (Kd.S_reads' HO_848001.out).2.2 | (with_reducible refine Kd.C_alloc ?_ _) | (with_reducible refine Kd.C_drewN ?_ _) | (with_reducible refine Kd.C_drew ?_))); (case side4 => exact (Kd.S_reads' HO_848001.out).2.1); rintro e w96 ⟨rfl, hb⟩; refine ⟨_, rfl, ?_⟩; have n0_ := Aside0.mk (Kd.R_below (kr_ HO_6) hb); have n1_ := Aside0.mk (Kd.R_below (kr_ HO_8) hb); have n2_ := Aside0.mk (Kd.R_below (kr_ HO_10) hb); have n3_ := Aside0.mk (Kd.R_below (kr_ HO_848000) hb); have n4_ := Aside0.mk (Kd.S_below (by (with_reducible repeat (first | apply Kd.S_alloc | apply Kd.S_drewN | apply Kd.S_drew)); exact HO_848001.out) hb); have n5_ := Aside0.mk (blk_below (g := gb847) (o := .cells #[.slice (some ad863) t840.length co12, .slice Ao14 t843.length co14] 28 (0, 0)) (bk_ BK847) hb); have n6_ := Aside0.mk (below_step (hg_ GE847) hb); clear HO_6; clear HO_8; clear HO_10; clear HO_848000; clear HO_848001; clear BK847; clear HB; have HO_6 := n0_; have HO_8 := n1_; have HO_10 := n2_; have HO_848000 := n3_; have HO_848001 := n4_; have BK847 := n5_; have HB := n6_; clear n0_ n1_ n2_ n3_ n4_ n5_ n6_; (try clear hb); (try clear hb2); (try clear hk); (try clear hi)))
                 go_ret
                 exact ⟨ew_, (hg_ GE847)⟩
                ·rw [if_neg c93] at H
                 have c93b0 : (t867 != x17_4) = false := by simpa using c93
                 (try (have c93b1 : decide (t867 = x17_4) = true := by simpa using c93))
                 (try (have c93b2 : (t867 == x17_4) = true := by simpa using c93))
                 clear c93
                 by_cases c97 : (t867 != (t869 == 0)) = true
                 ·rw [if_pos c97] at H
                  have c97b0 : (t867 != (t869 == 0)) = true := c97
                  (try (have c97b1 : decide (t867 = (t869 == 0)) = false := by simpa using c97))
                  (try (have c97b2 : (t867 == (t869 == 0)) = false := by simpa using c97))
                  (try (have c97b3 : ¬ (t867 = (t869 == 0)) := by simpa using c97))
                  clear c97
                  obtain rfl := Option.some.inj H
                  have hcz98_0 : wr.cell? ⟨gb847, 0, none⟩ = some (.slice (some ad863) t840.length co12) := (blk_cell BK847.out 0).trans rfl
                  have hcz98_1 : wr.cell? ⟨gb847, 1, none⟩ = some (.slice Ao14 t843.length co14) := (blk_cell BK847.out 1).trans rfl
                  have hfz98_0 := blk_frozen BK847.out 0
                  have hfz98_1 := blk_frozen BK847.out 1
                  obtain ⟨Ao99, co99, eo99⟩ := Kd.R_slice HO_8.out
                  subst eo99
                  go_wp2_with (first | ((with_reducible refine gate_callee (f := 47) rfl ?_); refine goesL_ (some 154) rfl rfl Try.func47 (by kernel_rfl) rfl #[.slice Ao99 t852.length co99, .int .i64 x14_2] rfl ln_ ?_; (with_reducible refine (laws_a2Has.calls k4 _ _ t852 x14_2 t867 _ ?side1 ?side2 A90.out).mono ?_); (case side1 => repeat (first | exact (Kd.R_reads' HO_8.out).2.2 | (with_reducible refine Kd.C_alloc ?_ _) | (with_reducible refine Kd.C_drewN ?_ _) | (with_reducible refine Kd.C_drew ?_))); (case side2 => exact (Kd.R_reads' HO_8.out).2.1); rintro e w' ⟨rfl, ⟨nd, rfl⟩⟩; refine ⟨_, rfl, ?_⟩) | ((with_reducible refine gate_callee (f := 31) rfl ?_); refine goesL_ (some 159) rfl rfl Try.func31 (by kernel_rfl) rfl #[.agg #[.slice (some ad863) t840.length co12, .slice Ao14 t843.length co14], .string t846, .int .i64 x14_2] rfl ln_ ?_; (with_reducible refine (impl_ChangeLine.calls k4 _ _ t840 _ _ t843 t846 x14_2 t868 t869 _ ?side1 ?side2 ?side3 ?side4 A91.out).mono ?_); (case side1 => repeat (first | exact (Kd.R_reads' HO_848000.out).2.2 | (with_reducible refine Kd.C_alloc ?_ _) | (with_reducible refine Kd.C_drewN ?_ _) | (with_reducible refine Kd.C_drew ?_))); (case side2 => exact (Kd.R_reads' HO_848000.out).2.1); (case side3 => repeat (first | exact (Kd.S_reads' HO_848001.out).2.2 | (with_reducible refine Kd.C_alloc ?_ _) | (with_reducible refine Kd.C_drewN ?_ _) | (with_reducible refine Kd.C_drew ?_))); (case side4 => exact (Kd.S_reads' HO_848001.out).2.1); rintro e w100 ⟨rfl, hb⟩; refine ⟨_, rfl, ?_⟩; have n0_ := Aside0.mk (Kd.R_below (kr_ HO_6) hb); have n1_ := Aside0.mk (Kd.R_below (kr_ HO_8) hb); have n2_ := Aside0.mk (Kd.R_below (kr_ HO_10) hb); have n3_ := Aside0.mk (Kd.R_below (kr_ HO_848000) hb); have n4_ := Aside0.mk (Kd.S_below (by (with_reducible repeat (first | apply Kd.S_alloc | apply Kd.S_drewN | apply Kd.S_drew)); exact HO_848001.out) hb); have n5_ := Aside0.mk (blk_below (g := gb847) (o := .cells #[.slice (some ad863) t840.length co12, .slice Ao14 t843.length co14] 28 (0, 0)) (bk_ BK847) hb); have n6_ := Aside0.mk (below_step (hg_ GE847) hb); clear HO_6; clear HO_8; clear HO_10; clear HO_848000; clear HO_848001; clear BK847; clear HB; have HO_6 := n0_; have HO_8 := n1_; have HO_10 := n2_; have HO_848000 := n3_; have HO_848001 := n4_; have BK847 := n5_; have HB := n6_; clear n0_ n1_ n2_ n3_ n4_ n5_ n6_; (try clear hb); (try clear hb2); (try clear hk); (try clear hi)))
                  go_ret
                  exact ⟨ew_, (hg_ GE847)⟩
                 ·rw [if_neg c97] at H
                  have c97b0 : (t867 != (t869 == 0)) = false := by simpa using c97
                  (try (have c97b1 : decide (t867 = (t869 == 0)) = true := by simpa using c97))
                  (try (have c97b2 : (t867 == (t869 == 0)) = true := by simpa using c97))
                  clear c97
                  by_cases c101 : x17_4 = true
                  ·as_aux_lemma =>
                    subst c101
                    have H1 : (if t867 = true then ((laws_a2Has.f k4 t856 x14_2).bind fun t870 => (if t870 = true then (some false) else (laws_FnDeckStates.l0 k4 t846 (t846.size : Int) t848 t852 t856 (wrap64 (x14_2 + 1)) t840 t843))) else (laws_FnDeckStates.l0 k4 t846 (t846.size : Int) t848 t852 t856 (wrap64 (x14_2 + 1)) t840 t843)) = some r := by rw [if_pos rfl] at H; exact H
                    clear H
                    have H := H1
                    clear H1
                    by_cases c102 : t867 = true
                    ·subst c102
                     have H1 : ((laws_a2Has.f k4 t856 x14_2).bind fun t870 => (if t870 = true then (some false) else (laws_FnDeckStates.l0 k4 t846 (t846.size : Int) t848 t852 t856 (wrap64 (x14_2 + 1)) t840 t843))) = some r := by rw [if_pos rfl] at H; exact H
                     clear H
                     have H := H1
                     clear H1
                     replace H := Option.bind_eq_some_iff.mp H
                     obtain ⟨t870, A1030, H⟩ := H
                     replace H : (if t870 = true then (some false) else (laws_FnDeckStates.l0 k4 t846 (t846.size : Int) t848 t852 t856 (wrap64 (x14_2 + 1)) t840 t843)) = some r := H
                     have A103 := Aside0.mk A1030
                     clear A1030
                     by_cases c104 : t870 = true
                     ·subst c104
                      have H1 : (some false) = some r := by rw [if_pos rfl] at H; exact H
                      clear H
                      have H := H1
                      clear H1
                      obtain rfl := Option.some.inj H
                      have hcz105_0 : wr.cell? ⟨gb847, 0, none⟩ = some (.slice (some ad863) t840.length co12) := (blk_cell BK847.out 0).trans rfl
                      have hcz105_1 : wr.cell? ⟨gb847, 1, none⟩ = some (.slice Ao14 t843.length co14) := (blk_cell BK847.out 1).trans rfl
                      have hfz105_0 := blk_frozen BK847.out 0
                      have hfz105_1 := blk_frozen BK847.out 1
                      obtain ⟨Ao106, co106, eo106⟩ := Kd.R_slice HO_8.out
                      subst eo106
                      go_wp2_with (first | ((with_reducible refine gate_callee (f := 47) rfl ?_); refine goesL_ (some 154) rfl rfl Try.func47 (by kernel_rfl) rfl #[.slice Ao106 t852.length co106, .int .i64 x14_2] rfl ln_ ?_; (with_reducible refine (laws_a2Has.calls k4 _ _ t852 x14_2 true _ ?side1 ?side2 A90.out).mono ?_); (case side1 => repeat (first | exact (Kd.R_reads' HO_8.out).2.2 | (with_reducible refine Kd.C_alloc ?_ _) | (with_reducible refine Kd.C_drewN ?_ _) | (with_reducible refine Kd.C_drew ?_))); (case side2 => exact (Kd.R_reads' HO_8.out).2.1); rintro e w' ⟨rfl, ⟨nd, rfl⟩⟩; refine ⟨_, rfl, ?_⟩) | ((with_reducible refine gate_callee (f := 31) rfl ?_); refine goesL_ (some 159) rfl rfl Try.func31 (by kernel_rfl) rfl #[.agg #[.slice (some ad863) t840.length co12, .slice Ao14 t843.length co14], .string t846, .int .i64 x14_2] rfl ln_ ?_; (with_reducible refine (impl_ChangeLine.calls k4 _ _ t840 _ _ t843 t846 x14_2 t868 t869 _ ?side1 ?side2 ?side3 ?side4 A91.out).mono ?_); (case side1 => repeat (first | exact (Kd.R_reads' HO_848000.out).2.2 | (with_reducible refine Kd.C_alloc ?_ _) | (with_reducible refine Kd.C_drewN ?_ _) | (with_reducible refine Kd.C_drew ?_))); (case side2 => exact (Kd.R_reads' HO_848000.out).2.1); (case side3 => repeat (first | exact (Kd.S_reads' HO_848001.out).2.2 | (with_reducible refine Kd.C_alloc ?_ _) | (with_reducible refine Kd.C_drewN ?_ _) | (with_reducible refine Kd.C_drew ?_))); (case side4 => exact (Kd.S_reads' HO_848001.out).2.1); rintro e w107 ⟨rfl, hb⟩; refine ⟨_, rfl, ?_⟩; have n0_ := Aside0.mk (Kd.R_below (kr_ HO_6) hb); have n1_ := Aside0.mk (Kd.R_below (kr_ HO_8) hb); have n2_ := Aside0.mk (Kd.R_below (kr_ HO_10) hb); have n3_ := Aside0.mk (Kd.R_below (kr_ HO_848000) hb); have n4_ := Aside0.mk (Kd.S_below (by (with_reducible repeat (first | apply Kd.S_alloc | apply Kd.S_drewN | apply Kd.S_drew)); exact HO_848001.out) hb); have n5_ := Aside0.mk (blk_below (g := gb847) (o := .cells #[.slice (some ad863) t840.length co12, .slice Ao14 t843.length co14] 28 (0, 0)) (bk_ BK847) hb); have n6_ := Aside0.mk (below_step (hg_ GE847) hb); clear HO_6; clear HO_8; clear HO_10; clear HO_848000; clear HO_848001; clear BK847; clear HB; have HO_6 := n0_; have HO_8 := n1_; have HO_10 := n2_; have HO_848000 := n3_; have HO_848001 := n4_; have BK847 := n5_; have HB := n6_; clear n0_ n1_ n2_ n3_ n4_ n5_ n6_; (try clear hb); (try clear hb2); (try clear hk); (try clear hi); obtain ⟨Ao108, co108, eo108⟩ := Kd.R_slice HO_10.out; subst eo108) | (go_at_call 47; (with_reducible refine (laws_a2Has.calls k4 _ _ t856 x14_2 true _ ?side1 ?side2 A103.out).mono ?_); (case side1 => repeat (first | exact (Kd.R_reads' HO_10.out).2.2 | (with_reducible refine Kd.C_alloc ?_ _) | (with_reducible refine Kd.C_drewN ?_ _) | (with_reducible refine Kd.C_drew ?_))); (case side2 => exact (Kd.R_reads' HO_10.out).2.1); rintro e w' ⟨rfl, ⟨nd, rfl⟩⟩))
                      go_ret
                      exact ⟨ew_, (hg_ GE847)⟩
                     ·replace c104 := Bool.eq_false_iff.mpr c104
                      subst c104
                      have H1 : (laws_FnDeckStates.l0 k4 t846 (t846.size : Int) t848 t852 t856 (wrap64 (x14_2 + 1)) t840 t843) = some r := by rw [if_neg (show ¬ (false = true) by decide)] at H; exact H
                      clear H
                      have H := H1
                      clear H1
                      have H' := Aside0.mk H
                      clear H
                      have hcz109_0 : wr.cell? ⟨gb847, 0, none⟩ = some (.slice (some ad863) t840.length co12) := (blk_cell BK847.out 0).trans rfl
                      have hcz109_1 : wr.cell? ⟨gb847, 1, none⟩ = some (.slice Ao14 t843.length co14) := (blk_cell BK847.out 1).trans rfl
                      have hfz109_0 := blk_frozen BK847.out 0
                      have hfz109_1 := blk_frozen BK847.out 1
                      obtain ⟨Ao110, co110, eo110⟩ := Kd.R_slice HO_8.out
                      subst eo110
                      go_wp2_with (first | ((with_reducible refine gate_callee (f := 47) rfl ?_); refine goesL_ (some 154) rfl rfl Try.func47 (by kernel_rfl) rfl #[.slice Ao110 t852.length co110, .int .i64 x14_2] rfl ln_ ?_; (with_reducible refine (laws_a2Has.calls k4 _ _ t852 x14_2 true _ ?side1 ?side2 A90.out).mono ?_); (case side1 => repeat (first | exact (Kd.R_reads' HO_8.out).2.2 | (with_reducible refine Kd.C_alloc ?_ _) | (with_reducible refine Kd.C_drewN ?_ _) | (with_reducible refine Kd.C_drew ?_))); (case side2 => exact (Kd.R_reads' HO_8.out).2.1); rintro e w' ⟨rfl, ⟨nd, rfl⟩⟩; refine ⟨_, rfl, ?_⟩) | ((with_reducible refine gate_callee (f := 31) rfl ?_); refine goesL_ (some 159) rfl rfl Try.func31 (by kernel_rfl) rfl #[.agg #[.slice (some ad863) t840.length co12, .slice Ao14 t843.length co14], .string t846, .int .i64 x14_2] rfl ln_ ?_; (with_reducible refine (impl_ChangeLine.calls k4 _ _ t840 _ _ t843 t846 x14_2 t868 t869 _ ?side1 ?side2 ?side3 ?side4 A91.out).mono ?_); (case side1 => repeat (first | exact (Kd.R_reads' HO_848000.out).2.2 | (with_reducible refine Kd.C_alloc ?_ _) | (with_reducible refine Kd.C_drewN ?_ _) | (with_reducible refine Kd.C_drew ?_))); (case side2 => exact (Kd.R_reads' HO_848000.out).2.1); (case side3 => repeat (first | exact (Kd.S_reads' HO_848001.out).2.2 | (with_reducible refine Kd.C_alloc ?_ _) | (with_reducible refine Kd.C_drewN ?_ _) | (with_reducible refine Kd.C_drew ?_))); (case side4 => exact (Kd.S_reads' HO_848001.out).2.1); rintro e w111 ⟨rfl, hb⟩; refine ⟨_, rfl, ?_⟩; have n0_ := Aside0.mk (Kd.R_below (kr_ HO_6) hb); have n1_ := Aside0.mk (Kd.R_below (kr_ HO_8) hb); have n2_ := Aside0.mk (Kd.R_below (kr_ HO_10) hb); have n3_ := Aside0.mk (Kd.R_below (kr_ HO_848000) hb); have n4_ := Aside0.mk (Kd.S_below (by (with_reducible repeat (first | apply Kd.S_alloc | apply Kd.S_drewN | apply Kd.S_drew)); exact HO_848001.out) hb); have n5_ := Aside0.mk (blk_below (g := gb847) (o := .cells #[.slice (some ad863) t840.length co12, .slice Ao14 t843.length co14] 28 (0, 0)) (bk_ BK847) hb); have n6_ := Aside0.mk (below_step (hg_ GE847) hb); clear HO_6; clear HO_8; clear HO_10; clear HO_848000; clear HO_848001; clear BK847; clear HB; have HO_6 := n0_; have HO_8 := n1_; have HO_10 := n2_; have HO_848000 := n3_; have HO_848001 := n4_; have BK847 := n5_; have HB := n6_; clear n0_ n1_ n2_ n3_ n4_ n5_ n6_; (try clear hb); (try clear hb2); (try clear hk); (try clear hi); obtain ⟨Ao112, co112, eo112⟩ := Kd.R_slice HO_10.out; subst eo112) | (go_at_call 47; (with_reducible refine (laws_a2Has.calls k4 _ _ t856 x14_2 false _ ?side1 ?side2 A103.out).mono ?_); (case side1 => repeat (first | exact (Kd.R_reads' HO_10.out).2.2 | (with_reducible refine Kd.C_alloc ?_ _) | (with_reducible refine Kd.C_drewN ?_ _) | (with_reducible refine Kd.C_drew ?_))); (case side2 => exact (Kd.R_reads' HO_10.out).2.1); rintro e w' ⟨rfl, ⟨nd, rfl⟩⟩))
                      go_roundg k4
                      case measure => have := HJ8.out; have := HK2.out; have := HJ59.out; have := HK4.out; omega
                      case rel => exact ⟨(wrap64 (x14_2 + 1)), (by first | rfl | (simp; done) | (simp [*]; done)), H', ⟨by have := HJ8.out; have := HK2.out; have := HJ59.out; have := HK4.out; omega⟩, ⟨by (with_reducible repeat (first | apply Kd.R_alloc | apply Kd.R_drewN | apply Kd.R_drew)); exact HO_6.out⟩, ⟨by (with_reducible repeat (first | apply Kd.R_alloc | apply Kd.R_drewN | apply Kd.R_drew)); exact HO_8.out⟩, ⟨by (with_reducible repeat (first | apply Kd.R_alloc | apply Kd.R_drewN | apply Kd.R_drew)); exact HO_10.out⟩, ⟨by (with_reducible repeat (first | apply Kd.R_alloc | apply Kd.R_drewN | apply Kd.R_drew)); exact HO_848000.out⟩, ⟨by (with_reducible repeat (first | apply Kd.S_alloc | apply Kd.S_drewN | apply Kd.S_drew)); exact HO_848001.out⟩, ⟨by (with_reducible repeat (first | refine blk_drewN ?_ _ | refine blk_drew ?_ | refine blk_alloc ?_ _)); exact BK847.out⟩, ⟨(hg_ GE847)⟩⟩
                    ·replace c102 := Bool.eq_false_iff.mpr c102
                     subst c102
                     have H1 : (laws_FnDeckStates.l0 k4 t846 (t846.size : Int) t848 t852 t856 (wrap64 (x14_2 + 1)) t840 t843) = some r := by rw [if_neg (show ¬ (false = true) by decide)] at H; exact H
                     clear H
                     have H := H1
                     clear H1
                     have H' := Aside0.mk H
                     clear H
                     have hcz113_0 : wr.cell? ⟨gb847, 0, none⟩ = some (.slice (some ad863) t840.length co12) := (blk_cell BK847.out 0).trans rfl
                     have hcz113_1 : wr.cell? ⟨gb847, 1, none⟩ = some (.slice Ao14 t843.length co14) := (blk_cell BK847.out 1).trans rfl
                     have hfz113_0 := blk_frozen BK847.out 0
                     have hfz113_1 := blk_frozen BK847.out 1
                     obtain ⟨Ao114, co114, eo114⟩ := Kd.R_slice HO_8.out
                     subst eo114
                     go_wp2_with (first | ((with_reducible refine gate_callee (f := 47) rfl ?_); refine goesL_ (some 154) rfl rfl Try.func47 (by kernel_rfl) rfl #[.slice Ao114 t852.length co114, .int .i64 x14_2] rfl ln_ ?_; (with_reducible refine (laws_a2Has.calls k4 _ _ t852 x14_2 false _ ?side1 ?side2 A90.out).mono ?_); (case side1 => repeat (first | exact (Kd.R_reads' HO_8.out).2.2 | (with_reducible refine Kd.C_alloc ?_ _) | (with_reducible refine Kd.C_drewN ?_ _) | (with_reducible refine Kd.C_drew ?_))); (case side2 => exact (Kd.R_reads' HO_8.out).2.1); rintro e w' ⟨rfl, ⟨nd, rfl⟩⟩; refine ⟨_, rfl, ?_⟩) | ((with_reducible refine gate_callee (f := 31) rfl ?_); refine goesL_ (some 159) rfl rfl Try.func31 (by kernel_rfl) rfl #[.agg #[.slice (some ad863) t840.length co12, .slice Ao14 t843.length co14], .string t846, .int .i64 x14_2] rfl ln_ ?_; (with_reducible refine (impl_ChangeLine.calls k4 _ _ t840 _ _ t843 t846 x14_2 t868 t869 _ ?side1 ?side2 ?side3 ?side4 A91.out).mono ?_); (case side1 => repeat (first | exact (Kd.R_reads' HO_848000.out).2.2 | (with_reducible refine Kd.C_alloc ?_ _) | (with_reducible refine Kd.C_drewN ?_ _) | (with_reducible refine Kd.C_drew ?_))); (case side2 => exact (Kd.R_reads' HO_848000.out).2.1); (case side3 => repeat (first | exact (Kd.S_reads' HO_848001.out).2.2 | (with_reducible refine Kd.C_alloc ?_ _) | (with_reducible refine Kd.C_drewN ?_ _) | (with_reducible refine Kd.C_drew ?_))); (case side4 => exact (Kd.S_reads' HO_848001.out).2.1); rintro e w115 ⟨rfl, hb⟩; refine ⟨_, rfl, ?_⟩; have n0_ := Aside0.mk (Kd.R_below (kr_ HO_6) hb); have n1_ := Aside0.mk (Kd.R_below (kr_ HO_8) hb); have n2_ := Aside0.mk (Kd.R_below (kr_ HO_10) hb); have n3_ := Aside0.mk (Kd.R_below (kr_ HO_848000) hb); have n4_ := Aside0.mk (Kd.S_below (by (with_reducible repeat (first | apply Kd.S_alloc | apply Kd.S_drewN | apply Kd.S_drew)); exact HO_848001.out) hb); have n5_ := Aside0.mk (blk_below (g := gb847) (o := .cells #[.slice (some ad863) t840.length co12, .slice Ao14 t843.length co14] 28 (0, 0)) (bk_ BK847) hb); have n6_ := Aside0.mk (below_step (hg_ GE847) hb); clear HO_6; clear HO_8; clear HO_10; clear HO_848000; clear HO_848001; clear BK847; clear HB; have HO_6 := n0_; have HO_8 := n1_; have HO_10 := n2_; have HO_848000 := n3_; have HO_848001 := n4_; have BK847 := n5_; have HB := n6_; clear n0_ n1_ n2_ n3_ n4_ n5_ n6_; (try clear hb); (try clear hb2); (try clear hk); (try clear hi)))
                     go_roundg k4
                     case measure => have := HJ8.out; have := HK2.out; have := HJ59.out; have := HK4.out; omega
                     case rel => exact ⟨(wrap64 (x14_2 + 1)), (by first | rfl | (simp; done) | (simp [*]; done)), H', ⟨by have := HJ8.out; have := HK2.out; have := HJ59.out; have := HK4.out; omega⟩, ⟨by (with_reducible repeat (first | apply Kd.R_alloc | apply Kd.R_drewN | apply Kd.R_drew)); exact HO_6.out⟩, ⟨by (with_reducible repeat (first | apply Kd.R_alloc | apply Kd.R_drewN | apply Kd.R_drew)); exact HO_8.out⟩, ⟨by (with_reducible repeat (first | apply Kd.R_alloc | apply Kd.R_drewN | apply Kd.R_drew)); exact HO_10.out⟩, ⟨by (with_reducible repeat (first | apply Kd.R_alloc | apply Kd.R_drewN | apply Kd.R_drew)); exact HO_848000.out⟩, ⟨by (with_reducible repeat (first | apply Kd.S_alloc | apply Kd.S_drewN | apply Kd.S_drew)); exact HO_848001.out⟩, ⟨by (with_reducible repeat (first | refine blk_drewN ?_ _ | refine blk_drew ?_ | refine blk_alloc ?_ _)); exact BK847.out⟩, ⟨(hg_ GE847)⟩⟩
                  ·as_aux_lemma =>
                    replace c101 := Bool.eq_false_iff.mpr c101
                    subst c101
                    have H1 : (if t869 = 10 then (if t867 = true then ((laws_a2Has.f k4 t856 x14_2).bind fun t871 => (if t871 = true then (some false) else (laws_FnDeckStates.l0 k4 t846 (t846.size : Int) t848 t852 t856 (wrap64 (x14_2 + 1)) t840 t843))) else (laws_FnDeckStates.l0 k4 t846 (t846.size : Int) t848 t852 t856 (wrap64 (x14_2 + 1)) t840 t843)) else (some false)) = some r := by rw [if_neg (show ¬ (false = true) by decide)] at H; exact H
                    clear H
                    have H := H1
                    clear H1
                    by_cases c116 : t869 = 10
                    ·rw [if_pos c116] at H
                     have c116b0 : (t869 == 10) = true := beq_iff_eq.mpr c116
                     have c116b1 : (t869 != 10) = false := bne_eq_false_iff_eq.mpr c116
                     clear c116
                     by_cases c117 : t867 = true
                     ·subst c117
                      have H1 : ((laws_a2Has.f k4 t856 x14_2).bind fun t871 => (if t871 = true then (some false) else (laws_FnDeckStates.l0 k4 t846 (t846.size : Int) t848 t852 t856 (wrap64 (x14_2 + 1)) t840 t843))) = some r := by rw [if_pos rfl] at H; exact H
                      clear H
                      have H := H1
                      clear H1
                      replace H := Option.bind_eq_some_iff.mp H
                      obtain ⟨t871, A1180, H⟩ := H
                      replace H : (if t871 = true then (some false) else (laws_FnDeckStates.l0 k4 t846 (t846.size : Int) t848 t852 t856 (wrap64 (x14_2 + 1)) t840 t843)) = some r := H
                      have A118 := Aside0.mk A1180
                      clear A1180
                      by_cases c119 : t871 = true
                      ·subst c119
                       have H1 : (some false) = some r := by rw [if_pos rfl] at H; exact H
                       clear H
                       have H := H1
                       clear H1
                       obtain rfl := Option.some.inj H
                       have hcz120_0 : wr.cell? ⟨gb847, 0, none⟩ = some (.slice (some ad863) t840.length co12) := (blk_cell BK847.out 0).trans rfl
                       have hcz120_1 : wr.cell? ⟨gb847, 1, none⟩ = some (.slice Ao14 t843.length co14) := (blk_cell BK847.out 1).trans rfl
                       have hfz120_0 := blk_frozen BK847.out 0
                       have hfz120_1 := blk_frozen BK847.out 1
                       obtain ⟨Ao121, co121, eo121⟩ := Kd.R_slice HO_8.out
                       subst eo121
                       go_wp2_with (first | ((with_reducible refine gate_callee (f := 47) rfl ?_); refine goesL_ (some 154) rfl rfl Try.func47 (by kernel_rfl) rfl #[.slice Ao121 t852.length co121, .int .i64 x14_2] rfl ln_ ?_; (with_reducible refine (laws_a2Has.calls k4 _ _ t852 x14_2 true _ ?side1 ?side2 A90.out).mono ?_); (case side1 => repeat (first | exact (Kd.R_reads' HO_8.out).2.2 | (with_reducible refine Kd.C_alloc ?_ _) | (with_reducible refine Kd.C_drewN ?_ _) | (with_reducible refine Kd.C_drew ?_))); (case side2 => exact (Kd.R_reads' HO_8.out).2.1); rintro e w' ⟨rfl, ⟨nd, rfl⟩⟩; refine ⟨_, rfl, ?_⟩) | ((with_reducible refine gate_callee (f := 31) rfl ?_); refine goesL_ (some 159) rfl rfl Try.func31 (by kernel_rfl) rfl #[.agg #[.slice (some ad863) t840.length co12, .slice Ao14 t843.length co14], .string t846, .int .i64 x14_2] rfl ln_ ?_; (with_reducible refine (impl_ChangeLine.calls k4 _ _ t840 _ _ t843 t846 x14_2 t868 t869 _ ?side1 ?side2 ?side3 ?side4 A91.out).mono ?_); (case side1 => repeat (first | exact (Kd.R_reads' HO_848000.out).2.2 | (with_reducible refine Kd.C_alloc ?_ _) | (with_reducible refine Kd.C_drewN ?_ _) | (with_reducible refine Kd.C_drew ?_))); (case side2 => exact (Kd.R_reads' HO_848000.out).2.1); (case side3 => repeat (first | exact (Kd.S_reads' HO_848001.out).2.2 | (with_reducible refine Kd.C_alloc ?_ _) | (with_reducible refine Kd.C_drewN ?_ _) | (with_reducible refine Kd.C_drew ?_))); (case side4 => exact (Kd.S_reads' HO_848001.out).2.1); rintro e w122 ⟨rfl, hb⟩; refine ⟨_, rfl, ?_⟩; have n0_ := Aside0.mk (Kd.R_below (kr_ HO_6) hb); have n1_ := Aside0.mk (Kd.R_below (kr_ HO_8) hb); have n2_ := Aside0.mk (Kd.R_below (kr_ HO_10) hb); have n3_ := Aside0.mk (Kd.R_below (kr_ HO_848000) hb); have n4_ := Aside0.mk (Kd.S_below (by (with_reducible repeat (first | apply Kd.S_alloc | apply Kd.S_drewN | apply Kd.S_drew)); exact HO_848001.out) hb); have n5_ := Aside0.mk (blk_below (g := gb847) (o := .cells #[.slice (some ad863) t840.length co12, .slice Ao14 t843.length co14] 28 (0, 0)) (bk_ BK847) hb); have n6_ := Aside0.mk (below_step (hg_ GE847) hb); clear HO_6; clear HO_8; clear HO_10; clear HO_848000; clear HO_848001; clear BK847; clear HB; have HO_6 := n0_; have HO_8 := n1_; have HO_10 := n2_; have HO_848000 := n3_; have HO_848001 := n4_; have BK847 := n5_; have HB := n6_; clear n0_ n1_ n2_ n3_ n4_ n5_ n6_; (try clear hb); (try clear hb2); (try clear hk); (try clear hi); obtain ⟨Ao123, co123, eo123⟩ := Kd.R_slice HO_10.out; subst eo123) | (go_at_call 47; (with_reducible refine (laws_a2Has.calls k4 _ _ t856 x14_2 true _ ?side1 ?side2 A118.out).mono ?_); (case side1 => repeat (first | exact (Kd.R_reads' HO_10.out).2.2 | (with_reducible refine Kd.C_alloc ?_ _) | (with_reducible refine Kd.C_drewN ?_ _) | (with_reducible refine Kd.C_drew ?_))); (case side2 => exact (Kd.R_reads' HO_10.out).2.1); rintro e w' ⟨rfl, ⟨nd, rfl⟩⟩))
                       go_ret
                       exact ⟨ew_, (hg_ GE847)⟩
                      ·replace c119 := Bool.eq_false_iff.mpr c119
                       subst c119
                       have H1 : (laws_FnDeckStates.l0 k4 t846 (t846.size : Int) t848 t852 t856 (wrap64 (x14_2 + 1)) t840 t843) = some r := by rw [if_neg (show ¬ (false = true) by decide)] at H; exact H
                       clear H
                       have H := H1
                       clear H1
                       have H' := Aside0.mk H
                       clear H
                       have hcz124_0 : wr.cell? ⟨gb847, 0, none⟩ = some (.slice (some ad863) t840.length co12) := (blk_cell BK847.out 0).trans rfl
                       have hcz124_1 : wr.cell? ⟨gb847, 1, none⟩ = some (.slice Ao14 t843.length co14) := (blk_cell BK847.out 1).trans rfl
                       have hfz124_0 := blk_frozen BK847.out 0
                       have hfz124_1 := blk_frozen BK847.out 1
                       obtain ⟨Ao125, co125, eo125⟩ := Kd.R_slice HO_8.out
                       subst eo125
                       go_wp2_with (first | ((with_reducible refine gate_callee (f := 47) rfl ?_); refine goesL_ (some 154) rfl rfl Try.func47 (by kernel_rfl) rfl #[.slice Ao125 t852.length co125, .int .i64 x14_2] rfl ln_ ?_; (with_reducible refine (laws_a2Has.calls k4 _ _ t852 x14_2 true _ ?side1 ?side2 A90.out).mono ?_); (case side1 => repeat (first | exact (Kd.R_reads' HO_8.out).2.2 | (with_reducible refine Kd.C_alloc ?_ _) | (with_reducible refine Kd.C_drewN ?_ _) | (with_reducible refine Kd.C_drew ?_))); (case side2 => exact (Kd.R_reads' HO_8.out).2.1); rintro e w' ⟨rfl, ⟨nd, rfl⟩⟩; refine ⟨_, rfl, ?_⟩) | ((with_reducible refine gate_callee (f := 31) rfl ?_); refine goesL_ (some 159) rfl rfl Try.func31 (by kernel_rfl) rfl #[.agg #[.slice (some ad863) t840.length co12, .slice Ao14 t843.length co14], .string t846, .int .i64 x14_2] rfl ln_ ?_; (with_reducible refine (impl_ChangeLine.calls k4 _ _ t840 _ _ t843 t846 x14_2 t868 t869 _ ?side1 ?side2 ?side3 ?side4 A91.out).mono ?_); (case side1 => repeat (first | exact (Kd.R_reads' HO_848000.out).2.2 | (with_reducible refine Kd.C_alloc ?_ _) | (with_reducible refine Kd.C_drewN ?_ _) | (with_reducible refine Kd.C_drew ?_))); (case side2 => exact (Kd.R_reads' HO_848000.out).2.1); (case side3 => repeat (first | exact (Kd.S_reads' HO_848001.out).2.2 | (with_reducible refine Kd.C_alloc ?_ _) | (with_reducible refine Kd.C_drewN ?_ _) | (with_reducible refine Kd.C_drew ?_))); (case side4 => exact (Kd.S_reads' HO_848001.out).2.1); rintro e w126 ⟨rfl, hb⟩; refine ⟨_, rfl, ?_⟩; have n0_ := Aside0.mk (Kd.R_below (kr_ HO_6) hb); have n1_ := Aside0.mk (Kd.R_below (kr_ HO_8) hb); have n2_ := Aside0.mk (Kd.R_below (kr_ HO_10) hb); have n3_ := Aside0.mk (Kd.R_below (kr_ HO_848000) hb); have n4_ := Aside0.mk (Kd.S_below (by (with_reducible repeat (first | apply Kd.S_alloc | apply Kd.S_drewN | apply Kd.S_drew)); exact HO_848001.out) hb); have n5_ := Aside0.mk (blk_below (g := gb847) (o := .cells #[.slice (some ad863) t840.length co12, .slice Ao14 t843.length co14] 28 (0, 0)) (bk_ BK847) hb); have n6_ := Aside0.mk (below_step (hg_ GE847) hb); clear HO_6; clear HO_8; clear HO_10; clear HO_848000; clear HO_848001; clear BK847; clear HB; have HO_6 := n0_; have HO_8 := n1_; have HO_10 := n2_; have HO_848000 := n3_; have HO_848001 := n4_; have BK847 := n5_; have HB := n6_; clear n0_ n1_ n2_ n3_ n4_ n5_ n6_; (try clear hb); (try clear hb2); (try clear hk); (try clear hi); obtain ⟨Ao127, co127, eo127⟩ := Kd.R_slice HO_10.out; subst eo127) | (go_at_call 47; (with_reducible refine (laws_a2Has.calls k4 _ _ t856 x14_2 false _ ?side1 ?side2 A118.out).mono ?_); (case side1 => repeat (first | exact (Kd.R_reads' HO_10.out).2.2 | (with_reducible refine Kd.C_alloc ?_ _) | (with_reducible refine Kd.C_drewN ?_ _) | (with_reducible refine Kd.C_drew ?_))); (case side2 => exact (Kd.R_reads' HO_10.out).2.1); rintro e w' ⟨rfl, ⟨nd, rfl⟩⟩))
                       go_roundg k4
                       case measure => have := HJ8.out; have := HK2.out; have := HJ59.out; have := HK4.out; omega
                       case rel => exact ⟨(wrap64 (x14_2 + 1)), (by first | rfl | (simp; done) | (simp [*]; done)), H', ⟨by have := HJ8.out; have := HK2.out; have := HJ59.out; have := HK4.out; omega⟩, ⟨by (with_reducible repeat (first | apply Kd.R_alloc | apply Kd.R_drewN | apply Kd.R_drew)); exact HO_6.out⟩, ⟨by (with_reducible repeat (first | apply Kd.R_alloc | apply Kd.R_drewN | apply Kd.R_drew)); exact HO_8.out⟩, ⟨by (with_reducible repeat (first | apply Kd.R_alloc | apply Kd.R_drewN | apply Kd.R_drew)); exact HO_10.out⟩, ⟨by (with_reducible repeat (first | apply Kd.R_alloc | apply Kd.R_drewN | apply Kd.R_drew)); exact HO_848000.out⟩, ⟨by (with_reducible repeat (first | apply Kd.S_alloc | apply Kd.S_drewN | apply Kd.S_drew)); exact HO_848001.out⟩, ⟨by (with_reducible repeat (first | refine blk_drewN ?_ _ | refine blk_drew ?_ | refine blk_alloc ?_ _)); exact BK847.out⟩, ⟨(hg_ GE847)⟩⟩
                     ·replace c117 := Bool.eq_false_iff.mpr c117
                      subst c117
                      have H1 : (laws_FnDeckStates.l0 k4 t846 (t846.size : Int) t848 t852 t856 (wrap64 (x14_2 + 1)) t840 t843) = some r := by rw [if_neg (show ¬ (false = true) by decide)] at H; exact H
                      clear H
                      have H := H1
                      clear H1
                      have H' := Aside0.mk H
                      clear H
                      have hcz128_0 : wr.cell? ⟨gb847, 0, none⟩ = some (.slice (some ad863) t840.length co12) := (blk_cell BK847.out 0).trans rfl
                      have hcz128_1 : wr.cell? ⟨gb847, 1, none⟩ = some (.slice Ao14 t843.length co14) := (blk_cell BK847.out 1).trans rfl
                      have hfz128_0 := blk_frozen BK847.out 0
                      have hfz128_1 := blk_frozen BK847.out 1
                      obtain ⟨Ao129, co129, eo129⟩ := Kd.R_slice HO_8.out
                      subst eo129
                      go_wp2_with (first | ((with_reducible refine gate_callee (f := 47) rfl ?_); refine goesL_ (some 154) rfl rfl Try.func47 (by kernel_rfl) rfl #[.slice Ao129 t852.length co129, .int .i64 x14_2] rfl ln_ ?_; (with_reducible refine (laws_a2Has.calls k4 _ _ t852 x14_2 false _ ?side1 ?side2 A90.out).mono ?_); (case side1 => repeat (first | exact (Kd.R_reads' HO_8.out).2.2 | (with_reducible refine Kd.C_alloc ?_ _) | (with_reducible refine Kd.C_drewN ?_ _) | (with_reducible refine Kd.C_drew ?_))); (case side2 => exact (Kd.R_reads' HO_8.out).2.1); rintro e w' ⟨rfl, ⟨nd, rfl⟩⟩; refine ⟨_, rfl, ?_⟩) | ((with_reducible refine gate_callee (f := 31) rfl ?_); refine goesL_ (some 159) rfl rfl Try.func31 (by kernel_rfl) rfl #[.agg #[.slice (some ad863) t840.length co12, .slice Ao14 t843.length co14], .string t846, .int .i64 x14_2] rfl ln_ ?_; (with_reducible refine (impl_ChangeLine.calls k4 _ _ t840 _ _ t843 t846 x14_2 t868 t869 _ ?side1 ?side2 ?side3 ?side4 A91.out).mono ?_); (case side1 => repeat (first | exact (Kd.R_reads' HO_848000.out).2.2 | (with_reducible refine Kd.C_alloc ?_ _) | (with_reducible refine Kd.C_drewN ?_ _) | (with_reducible refine Kd.C_drew ?_))); (case side2 => exact (Kd.R_reads' HO_848000.out).2.1); (case side3 => repeat (first | exact (Kd.S_reads' HO_848001.out).2.2 | (with_reducible refine Kd.C_alloc ?_ _) | (with_reducible refine Kd.C_drewN ?_ _) | (with_reducible refine Kd.C_drew ?_))); (case side4 => exact (Kd.S_reads' HO_848001.out).2.1); rintro e w130 ⟨rfl, hb⟩; refine ⟨_, rfl, ?_⟩; have n0_ := Aside0.mk (Kd.R_below (kr_ HO_6) hb); have n1_ := Aside0.mk (Kd.R_below (kr_ HO_8) hb); have n2_ := Aside0.mk (Kd.R_below (kr_ HO_10) hb); have n3_ := Aside0.mk (Kd.R_below (kr_ HO_848000) hb); have n4_ := Aside0.mk (Kd.S_below (by (with_reducible repeat (first | apply Kd.S_alloc | apply Kd.S_drewN | apply Kd.S_drew)); exact HO_848001.out) hb); have n5_ := Aside0.mk (blk_below (g := gb847) (o := .cells #[.slice (some ad863) t840.length co12, .slice Ao14 t843.length co14] 28 (0, 0)) (bk_ BK847) hb); have n6_ := Aside0.mk (below_step (hg_ GE847) hb); clear HO_6; clear HO_8; clear HO_10; clear HO_848000; clear HO_848001; clear BK847; clear HB; have HO_6 := n0_; have HO_8 := n1_; have HO_10 := n2_; have HO_848000 := n3_; have HO_848001 := n4_; have BK847 := n5_; have HB := n6_; clear n0_ n1_ n2_ n3_ n4_ n5_ n6_; (try clear hb); (try clear hb2); (try clear hk); (try clear hi)))
                      go_roundg k4
                      case measure => have := HJ8.out; have := HK2.out; have := HJ59.out; have := HK4.out; omega
                      case rel => exact ⟨(wrap64 (x14_2 + 1)), (by first | rfl | (simp; done) | (simp [*]; done)), H', ⟨by have := HJ8.out; have := HK2.out; have := HJ59.out; have := HK4.out; omega⟩, ⟨by (with_reducible repeat (first | apply Kd.R_alloc | apply Kd.R_drewN | apply Kd.R_drew)); exact HO_6.out⟩, ⟨by (with_reducible repeat (first | apply Kd.R_alloc | apply Kd.R_drewN | apply Kd.R_drew)); exact HO_8.out⟩, ⟨by (with_reducible repeat (first | apply Kd.R_alloc | apply Kd.R_drewN | apply Kd.R_drew)); exact HO_10.out⟩, ⟨by (with_reducible repeat (first | apply Kd.R_alloc | apply Kd.R_drewN | apply Kd.R_drew)); exact HO_848000.out⟩, ⟨by (with_reducible repeat (first | apply Kd.S_alloc | apply Kd.S_drewN | apply Kd.S_drew)); exact HO_848001.out⟩, ⟨by (with_reducible repeat (first | refine blk_drewN ?_ _ | refine blk_drew ?_ | refine blk_alloc ?_ _)); exact BK847.out⟩, ⟨(hg_ GE847)⟩⟩
                    ·rw [if_neg c116] at H
                     have c116b0 : (t869 == 10) = false := beq_eq_false_iff_ne.mpr c116
                     have c116b1 : (t869 != 10) = true := bne_iff_ne.mpr c116
                     obtain rfl := Option.some.inj H
                     have hcz131_0 : wr.cell? ⟨gb847, 0, none⟩ = some (.slice (some ad863) t840.length co12) := (blk_cell BK847.out 0).trans rfl
                     have hcz131_1 : wr.cell? ⟨gb847, 1, none⟩ = some (.slice Ao14 t843.length co14) := (blk_cell BK847.out 1).trans rfl
                     have hfz131_0 := blk_frozen BK847.out 0
                     have hfz131_1 := blk_frozen BK847.out 1
                     obtain ⟨Ao132, co132, eo132⟩ := Kd.R_slice HO_8.out
                     subst eo132
                     go_wp2_with (first | ((with_reducible refine gate_callee (f := 47) rfl ?_); refine goesL_ (some 154) rfl rfl Try.func47 (by kernel_rfl) rfl #[.slice Ao132 t852.length co132, .int .i64 x14_2] rfl ln_ ?_; (with_reducible refine (laws_a2Has.calls k4 _ _ t852 x14_2 t867 _ ?side1 ?side2 A90.out).mono ?_); (case side1 => repeat (first | exact (Kd.R_reads' HO_8.out).2.2 | (with_reducible refine Kd.C_alloc ?_ _) | (with_reducible refine Kd.C_drewN ?_ _) | (with_reducible refine Kd.C_drew ?_))); (case side2 => exact (Kd.R_reads' HO_8.out).2.1); rintro e w' ⟨rfl, ⟨nd, rfl⟩⟩; refine ⟨_, rfl, ?_⟩) | ((with_reducible refine gate_callee (f := 31) rfl ?_); refine goesL_ (some 159) rfl rfl Try.func31 (by kernel_rfl) rfl #[.agg #[.slice (some ad863) t840.length co12, .slice Ao14 t843.length co14], .string t846, .int .i64 x14_2] rfl ln_ ?_; (with_reducible refine (impl_ChangeLine.calls k4 _ _ t840 _ _ t843 t846 x14_2 t868 t869 _ ?side1 ?side2 ?side3 ?side4 A91.out).mono ?_); (case side1 => repeat (first | exact (Kd.R_reads' HO_848000.out).2.2 | (with_reducible refine Kd.C_alloc ?_ _) | (with_reducible refine Kd.C_drewN ?_ _) | (with_reducible refine Kd.C_drew ?_))); (case side2 => exact (Kd.R_reads' HO_848000.out).2.1); (case side3 => repeat (first | exact (Kd.S_reads' HO_848001.out).2.2 | (with_reducible refine Kd.C_alloc ?_ _) | (with_reducible refine Kd.C_drewN ?_ _) | (with_reducible refine Kd.C_drew ?_))); (case side4 => exact (Kd.S_reads' HO_848001.out).2.1); rintro e w133 ⟨rfl, hb⟩; refine ⟨_, rfl, ?_⟩; have n0_ := Aside0.mk (Kd.R_below (kr_ HO_6) hb); have n1_ := Aside0.mk (Kd.R_below (kr_ HO_8) hb); have n2_ := Aside0.mk (Kd.R_below (kr_ HO_10) hb); have n3_ := Aside0.mk (Kd.R_below (kr_ HO_848000) hb); have n4_ := Aside0.mk (Kd.S_below (by (with_reducible repeat (first | apply Kd.S_alloc | apply Kd.S_drewN | apply Kd.S_drew)); exact HO_848001.out) hb); have n5_ := Aside0.mk (blk_below (g := gb847) (o := .cells #[.slice (some ad863) t840.length co12, .slice Ao14 t843.length co14] 28 (0, 0)) (bk_ BK847) hb); have n6_ := Aside0.mk (below_step (hg_ GE847) hb); clear HO_6; clear HO_8; clear HO_10; clear HO_848000; clear HO_848001; clear BK847; clear HB; have HO_6 := n0_; have HO_8 := n1_; have HO_10 := n2_; have HO_848000 := n3_; have HO_848001 := n4_; have BK847 := n5_; have HB := n6_; clear n0_ n1_ n2_ n3_ n4_ n5_ n6_; (try clear hb); (try clear hb2); (try clear hk); (try clear hi)))
                     go_ret
                     exact ⟨ew_, (hg_ GE847)⟩
               ·as_aux_lemma =>
                 replace c92 := Bool.eq_false_iff.mpr c92
                 subst c92
                 have H1 : (if (t867 != false) = true then (some false) else (if (t867 != (t869 == 0)) = true then (some false) else (if t869 = 6 then (if t867 = true then ((laws_a2Has.f k4 t856 x14_2).bind fun t872 => (if t872 = true then (some false) else (laws_FnDeckStates.l0 k4 t846 (t846.size : Int) t848 t852 t856 (wrap64 (x14_2 + 1)) t840 t843))) else (laws_FnDeckStates.l0 k4 t846 (t846.size : Int) t848 t852 t856 (wrap64 (x14_2 + 1)) t840 t843)) else (some false)))) = some r := by rw [if_neg (show ¬ (false = true) by decide)] at H; exact H
                 clear H
                 have H := H1
                 clear H1
                 by_cases c134 : (t867 != false) = true
                 ·rw [if_pos c134] at H
                  have c134b0 : (t867 != false) = true := c134
                  (try (have c134b1 : decide (t867 = false) = false := by simpa using c134))
                  (try (have c134b2 : (t867 == false) = false := by simpa using c134))
                  (try (have c134b3 : ¬ (t867 = false) := by simpa using c134))
                  clear c134
                  obtain rfl := Option.some.inj H
                  have hcz135_0 : wr.cell? ⟨gb847, 0, none⟩ = some (.slice (some ad863) t840.length co12) := (blk_cell BK847.out 0).trans rfl
                  have hcz135_1 : wr.cell? ⟨gb847, 1, none⟩ = some (.slice Ao14 t843.length co14) := (blk_cell BK847.out 1).trans rfl
                  have hfz135_0 := blk_frozen BK847.out 0
                  have hfz135_1 := blk_frozen BK847.out 1
                  obtain ⟨Ao136, co136, eo136⟩ := Kd.R_slice HO_8.out
                  subst eo136
                  go_wp2_with (first | ((with_reducible refine gate_callee (f := 47) rfl ?_); refine goesL_ (some 154) rfl rfl Try.func47 (by kernel_rfl) rfl #[.slice Ao136 t852.length co136, .int .i64 x14_2] rfl ln_ ?_; (with_reducible refine (laws_a2Has.calls k4 _ _ t852 x14_2 t867 _ ?side1 ?side2 A90.out).mono ?_); (case side1 => repeat (first | exact (Kd.R_reads' HO_8.out).2.2 | (with_reducible refine Kd.C_alloc ?_ _) | (with_reducible refine Kd.C_drewN ?_ _) | (with_reducible refine Kd.C_drew ?_))); (case side2 => exact (Kd.R_reads' HO_8.out).2.1); rintro e w' ⟨rfl, ⟨nd, rfl⟩⟩; refine ⟨_, rfl, ?_⟩) | ((with_reducible refine gate_callee (f := 31) rfl ?_); refine goesL_ (some 159) rfl rfl Try.func31 (by kernel_rfl) rfl #[.agg #[.slice (some ad863) t840.length co12, .slice Ao14 t843.length co14], .string t846, .int .i64 x14_2] rfl ln_ ?_; (with_reducible refine (impl_ChangeLine.calls k4 _ _ t840 _ _ t843 t846 x14_2 t868 t869 _ ?side1 ?side2 ?side3 ?side4 A91.out).mono ?_); (case side1 => repeat (first | exact (Kd.R_reads' HO_848000.out).2.2 | (with_reducible refine Kd.C_alloc ?_ _) | (with_reducible refine Kd.C_drewN ?_ _) | (with_reducible refine Kd.C_drew ?_))); (case side2 => exact (Kd.R_reads' HO_848000.out).2.1); (case side3 => repeat (first | exact (Kd.S_reads' HO_848001.out).2.2 | (with_reducible refine Kd.C_alloc ?_ _) | (with_reducible refine Kd.C_drewN ?_ _) | (with_reducible refine Kd.C_drew ?_))); (case side4 => exact (Kd.S_reads' HO_848001.out).2.1); rintro e w137 ⟨rfl, hb⟩; refine ⟨_, rfl, ?_⟩; have n0_ := Aside0.mk (Kd.R_below (kr_ HO_6) hb); have n1_ := Aside0.mk (Kd.R_below (kr_ HO_8) hb); have n2_ := Aside0.mk (Kd.R_below (kr_ HO_10) hb); have n3_ := Aside0.mk (Kd.R_below (kr_ HO_848000) hb); have n4_ := Aside0.mk (Kd.S_below (by (with_reducible repeat (first | apply Kd.S_alloc | apply Kd.S_drewN | apply Kd.S_drew)); exact HO_848001.out) hb); have n5_ := Aside0.mk (blk_below (g := gb847) (o := .cells #[.slice (some ad863) t840.length co12, .slice Ao14 t843.length co14] 28 (0, 0)) (bk_ BK847) hb); have n6_ := Aside0.mk (below_step (hg_ GE847) hb); clear HO_6; clear HO_8; clear HO_10; clear HO_848000; clear HO_848001; clear BK847; clear HB; have HO_6 := n0_; have HO_8 := n1_; have HO_10 := n2_; have HO_848000 := n3_; have HO_848001 := n4_; have BK847 := n5_; have HB := n6_; clear n0_ n1_ n2_ n3_ n4_ n5_ n6_; (try clear hb); (try clear hb2); (try clear hk); (try clear hi)))
                  go_ret
                  exact ⟨ew_, (hg_ GE847)⟩
                 ·rw [if_neg c134] at H
                  have c134b0 : (t867 != false) = false := by simpa using c134
                  (try (have c134b1 : decide (t867 = false) = true := by simpa using c134))
                  (try (have c134b2 : (t867 == false) = true := by simpa using c134))
                  clear c134
                  by_cases c138 : (t867 != (t869 == 0)) = true
                  ·rw [if_pos c138] at H
                   have c138b0 : (t867 != (t869 == 0)) = true := c138
                   (try (have c138b1 : decide (t867 = (t869 == 0)) = false := by simpa using c138))
                   (try (have c138b2 : (t867 == (t869 == 0)) = false := by simpa using c138))
                   (try (have c138b3 : ¬ (t867 = (t869 == 0)) := by simpa using c138))
                   clear c138
                   obtain rfl := Option.some.inj H
                   have hcz139_0 : wr.cell? ⟨gb847, 0, none⟩ = some (.slice (some ad863) t840.length co12) := (blk_cell BK847.out 0).trans rfl
                   have hcz139_1 : wr.cell? ⟨gb847, 1, none⟩ = some (.slice Ao14 t843.length co14) := (blk_cell BK847.out 1).trans rfl
                   have hfz139_0 := blk_frozen BK847.out 0
                   have hfz139_1 := blk_frozen BK847.out 1
                   obtain ⟨Ao140, co140, eo140⟩ := Kd.R_slice HO_8.out
                   subst eo140
                   go_wp2_with (first | ((with_reducible refine gate_callee (f := 47) rfl ?_); refine goesL_ (some 154) rfl rfl Try.func47 (by kernel_rfl) rfl #[.slice Ao140 t852.length co140, .int .i64 x14_2] rfl ln_ ?_; (with_reducible refine (laws_a2Has.calls k4 _ _ t852 x14_2 t867 _ ?side1 ?side2 A90.out).mono ?_); (case side1 => repeat (first | exact (Kd.R_reads' HO_8.out).2.2 | (with_reducible refine Kd.C_alloc ?_ _) | (with_reducible refine Kd.C_drewN ?_ _) | (with_reducible refine Kd.C_drew ?_))); (case side2 => exact (Kd.R_reads' HO_8.out).2.1); rintro e w' ⟨rfl, ⟨nd, rfl⟩⟩; refine ⟨_, rfl, ?_⟩) | ((with_reducible refine gate_callee (f := 31) rfl ?_); refine goesL_ (some 159) rfl rfl Try.func31 (by kernel_rfl) rfl #[.agg #[.slice (some ad863) t840.length co12, .slice Ao14 t843.length co14], .string t846, .int .i64 x14_2] rfl ln_ ?_; (with_reducible refine (impl_ChangeLine.calls k4 _ _ t840 _ _ t843 t846 x14_2 t868 t869 _ ?side1 ?side2 ?side3 ?side4 A91.out).mono ?_); (case side1 => repeat (first | exact (Kd.R_reads' HO_848000.out).2.2 | (with_reducible refine Kd.C_alloc ?_ _) | (with_reducible refine Kd.C_drewN ?_ _) | (with_reducible refine Kd.C_drew ?_))); (case side2 => exact (Kd.R_reads' HO_848000.out).2.1); (case side3 => repeat (first | exact (Kd.S_reads' HO_848001.out).2.2 | (with_reducible refine Kd.C_alloc ?_ _) | (with_reducible refine Kd.C_drewN ?_ _) | (with_reducible refine Kd.C_drew ?_))); (case side4 => exact (Kd.S_reads' HO_848001.out).2.1); rintro e w141 ⟨rfl, hb⟩; refine ⟨_, rfl, ?_⟩; have n0_ := Aside0.mk (Kd.R_below (kr_ HO_6) hb); have n1_ := Aside0.mk (Kd.R_below (kr_ HO_8) hb); have n2_ := Aside0.mk (Kd.R_below (kr_ HO_10) hb); have n3_ := Aside0.mk (Kd.R_below (kr_ HO_848000) hb); have n4_ := Aside0.mk (Kd.S_below (by (with_reducible repeat (first | apply Kd.S_alloc | apply Kd.S_drewN | apply Kd.S_drew)); exact HO_848001.out) hb); have n5_ := Aside0.mk (blk_below (g := gb847) (o := .cells #[.slice (some ad863) t840.length co12, .slice Ao14 t843.length co14] 28 (0, 0)) (bk_ BK847) hb); have n6_ := Aside0.mk (below_step (hg_ GE847) hb); clear HO_6; clear HO_8; clear HO_10; clear HO_848000; clear HO_848001; clear BK847; clear HB; have HO_6 := n0_; have HO_8 := n1_; have HO_10 := n2_; have HO_848000 := n3_; have HO_848001 := n4_; have BK847 := n5_; have HB := n6_; clear n0_ n1_ n2_ n3_ n4_ n5_ n6_; (try clear hb); (try clear hb2); (try clear hk); (try clear hi)))
                   go_ret
                   exact ⟨ew_, (hg_ GE847)⟩
                  ·rw [if_neg c138] at H
                   have c138b0 : (t867 != (t869 == 0)) = false := by simpa using c138
                   (try (have c138b1 : decide (t867 = (t869 == 0)) = true := by simpa using c138))
                   (try (have c138b2 : (t867 == (t869 == 0)) = true := by simpa using c138))
                   clear c138
                   by_cases c142 : t869 = 6
                   ·rw [if_pos c142] at H
                    have c142b0 : (t869 == 6) = true := beq_iff_eq.mpr c142
                    have c142b1 : (t869 != 6) = false := bne_eq_false_iff_eq.mpr c142
                    clear c142
                    by_cases c143 : t867 = true
                    ·subst c143
                     have H1 : ((laws_a2Has.f k4 t856 x14_2).bind fun t872 => (if t872 = true then (some false) else (laws_FnDeckStates.l0 k4 t846 (t846.size : Int) t848 t852 t856 (wrap64 (x14_2 + 1)) t840 t843))) = some r := by rw [if_pos rfl] at H; exact H
                     clear H
                     have H := H1
                     clear H1
                     replace H := Option.bind_eq_some_iff.mp H
                     obtain ⟨t872, A1440, H⟩ := H
                     replace H : (if t872 = true then (some false) else (laws_FnDeckStates.l0 k4 t846 (t846.size : Int) t848 t852 t856 (wrap64 (x14_2 + 1)) t840 t843)) = some r := H
                     have A144 := Aside0.mk A1440
                     clear A1440
                     by_cases c145 : t872 = true
                     ·subst c145
                      have H1 : (some false) = some r := by rw [if_pos rfl] at H; exact H
                      clear H
                      have H := H1
                      clear H1
                      obtain rfl := Option.some.inj H
                      have hcz146_0 : wr.cell? ⟨gb847, 0, none⟩ = some (.slice (some ad863) t840.length co12) := (blk_cell BK847.out 0).trans rfl
                      have hcz146_1 : wr.cell? ⟨gb847, 1, none⟩ = some (.slice Ao14 t843.length co14) := (blk_cell BK847.out 1).trans rfl
                      have hfz146_0 := blk_frozen BK847.out 0
                      have hfz146_1 := blk_frozen BK847.out 1
                      obtain ⟨Ao147, co147, eo147⟩ := Kd.R_slice HO_8.out
                      subst eo147
                      go_wp2_with (first | ((with_reducible refine gate_callee (f := 47) rfl ?_); refine goesL_ (some 154) rfl rfl Try.func47 (by kernel_rfl) rfl #[.slice Ao147 t852.length co147, .int .i64 x14_2] rfl ln_ ?_; (with_reducible refine (laws_a2Has.calls k4 _ _ t852 x14_2 true _ ?side1 ?side2 A90.out).mono ?_); (case side1 => repeat (first | exact (Kd.R_reads' HO_8.out).2.2 | (with_reducible refine Kd.C_alloc ?_ _) | (with_reducible refine Kd.C_drewN ?_ _) | (with_reducible refine Kd.C_drew ?_))); (case side2 => exact (Kd.R_reads' HO_8.out).2.1); rintro e w' ⟨rfl, ⟨nd, rfl⟩⟩; refine ⟨_, rfl, ?_⟩) | ((with_reducible refine gate_callee (f := 31) rfl ?_); refine goesL_ (some 159) rfl rfl Try.func31 (by kernel_rfl) rfl #[.agg #[.slice (some ad863) t840.length co12, .slice Ao14 t843.length co14], .string t846, .int .i64 x14_2] rfl ln_ ?_; (with_reducible refine (impl_ChangeLine.calls k4 _ _ t840 _ _ t843 t846 x14_2 t868 t869 _ ?side1 ?side2 ?side3 ?side4 A91.out).mono ?_); (case side1 => repeat (first | exact (Kd.R_reads' HO_848000.out).2.2 | (with_reducible refine Kd.C_alloc ?_ _) | (with_reducible refine Kd.C_drewN ?_ _) | (with_reducible refine Kd.C_drew ?_))); (case side2 => exact (Kd.R_reads' HO_848000.out).2.1); (case side3 => repeat (first | exact (Kd.S_reads' HO_848001.out).2.2 | (with_reducible refine Kd.C_alloc ?_ _) | (with_reducible refine Kd.C_drewN ?_ _) | (with_reducible refine Kd.C_drew ?_))); (case side4 => exact (Kd.S_reads' HO_848001.out).2.1); rintro e w148 ⟨rfl, hb⟩; refine ⟨_, rfl, ?_⟩; have n0_ := Aside0.mk (Kd.R_below (kr_ HO_6) hb); have n1_ := Aside0.mk (Kd.R_below (kr_ HO_8) hb); have n2_ := Aside0.mk (Kd.R_below (kr_ HO_10) hb); have n3_ := Aside0.mk (Kd.R_below (kr_ HO_848000) hb); have n4_ := Aside0.mk (Kd.S_below (by (with_reducible repeat (first | apply Kd.S_alloc | apply Kd.S_drewN | apply Kd.S_drew)); exact HO_848001.out) hb); have n5_ := Aside0.mk (blk_below (g := gb847) (o := .cells #[.slice (some ad863) t840.length co12, .slice Ao14 t843.length co14] 28 (0, 0)) (bk_ BK847) hb); have n6_ := Aside0.mk (below_step (hg_ GE847) hb); clear HO_6; clear HO_8; clear HO_10; clear HO_848000; clear HO_848001; clear BK847; clear HB; have HO_6 := n0_; have HO_8 := n1_; have HO_10 := n2_; have HO_848000 := n3_; have HO_848001 := n4_; have BK847 := n5_; have HB := n6_; clear n0_ n1_ n2_ n3_ n4_ n5_ n6_; (try clear hb); (try clear hb2); (try clear hk); (try clear hi); obtain ⟨Ao149, co149, eo149⟩ := Kd.R_slice HO_10.out; subst eo149) | (go_at_call 47; (with_reducible refine (laws_a2Has.calls k4 _ _ t856 x14_2 true _ ?side1 ?side2 A144.out).mono ?_); (case side1 => repeat (first | exact (Kd.R_reads' HO_10.out).2.2 | (with_reducible refine Kd.C_alloc ?_ _) | (with_reducible refine Kd.C_drewN ?_ _) | (with_reducible refine Kd.C_drew ?_))); (case side2 => exact (Kd.R_reads' HO_10.out).2.1); rintro e w' ⟨rfl, ⟨nd, rfl⟩⟩))
                      go_ret
                      exact ⟨ew_, (hg_ GE847)⟩
                     ·replace c145 := Bool.eq_false_iff.mpr c145
                      subst c145
                      have H1 : (laws_FnDeckStates.l0 k4 t846 (t846.size : Int) t848 t852 t856 (wrap64 (x14_2 + 1)) t840 t843) = some r := by rw [if_neg (show ¬ (false = true) by decide)] at H; exact H
                      clear H
                      have H := H1
                      clear H1
                      have H' := Aside0.mk H
                      clear H
                      have hcz150_0 : wr.cell? ⟨gb847, 0, none⟩ = some (.slice (some ad863) t840.length co12) := (blk_cell BK847.out 0).trans rfl
                      have hcz150_1 : wr.cell? ⟨gb847, 1, none⟩ = some (.slice Ao14 t843.length co14) := (blk_cell BK847.out 1).trans rfl
                      have hfz150_0 := blk_frozen BK847.out 0
                      have hfz150_1 := blk_frozen BK847.out 1
                      obtain ⟨Ao151, co151, eo151⟩ := Kd.R_slice HO_8.out
                      subst eo151
                      go_wp2_with (first | ((with_reducible refine gate_callee (f := 47) rfl ?_); refine goesL_ (some 154) rfl rfl Try.func47 (by kernel_rfl) rfl #[.slice Ao151 t852.length co151, .int .i64 x14_2] rfl ln_ ?_; (with_reducible refine (laws_a2Has.calls k4 _ _ t852 x14_2 true _ ?side1 ?side2 A90.out).mono ?_); (case side1 => repeat (first | exact (Kd.R_reads' HO_8.out).2.2 | (with_reducible refine Kd.C_alloc ?_ _) | (with_reducible refine Kd.C_drewN ?_ _) | (with_reducible refine Kd.C_drew ?_))); (case side2 => exact (Kd.R_reads' HO_8.out).2.1); rintro e w' ⟨rfl, ⟨nd, rfl⟩⟩; refine ⟨_, rfl, ?_⟩) | ((with_reducible refine gate_callee (f := 31) rfl ?_); refine goesL_ (some 159) rfl rfl Try.func31 (by kernel_rfl) rfl #[.agg #[.slice (some ad863) t840.length co12, .slice Ao14 t843.length co14], .string t846, .int .i64 x14_2] rfl ln_ ?_; (with_reducible refine (impl_ChangeLine.calls k4 _ _ t840 _ _ t843 t846 x14_2 t868 t869 _ ?side1 ?side2 ?side3 ?side4 A91.out).mono ?_); (case side1 => repeat (first | exact (Kd.R_reads' HO_848000.out).2.2 | (with_reducible refine Kd.C_alloc ?_ _) | (with_reducible refine Kd.C_drewN ?_ _) | (with_reducible refine Kd.C_drew ?_))); (case side2 => exact (Kd.R_reads' HO_848000.out).2.1); (case side3 => repeat (first | exact (Kd.S_reads' HO_848001.out).2.2 | (with_reducible refine Kd.C_alloc ?_ _) | (with_reducible refine Kd.C_drewN ?_ _) | (with_reducible refine Kd.C_drew ?_))); (case side4 => exact (Kd.S_reads' HO_848001.out).2.1); rintro e w152 ⟨rfl, hb⟩; refine ⟨_, rfl, ?_⟩; have n0_ := Aside0.mk (Kd.R_below (kr_ HO_6) hb); have n1_ := Aside0.mk (Kd.R_below (kr_ HO_8) hb); have n2_ := Aside0.mk (Kd.R_below (kr_ HO_10) hb); have n3_ := Aside0.mk (Kd.R_below (kr_ HO_848000) hb); have n4_ := Aside0.mk (Kd.S_below (by (with_reducible repeat (first | apply Kd.S_alloc | apply Kd.S_drewN | apply Kd.S_drew)); exact HO_848001.out) hb); have n5_ := Aside0.mk (blk_below (g := gb847) (o := .cells #[.slice (some ad863) t840.length co12, .slice Ao14 t843.length co14] 28 (0, 0)) (bk_ BK847) hb); have n6_ := Aside0.mk (below_step (hg_ GE847) hb); clear HO_6; clear HO_8; clear HO_10; clear HO_848000; clear HO_848001; clear BK847; clear HB; have HO_6 := n0_; have HO_8 := n1_; have HO_10 := n2_; have HO_848000 := n3_; have HO_848001 := n4_; have BK847 := n5_; have HB := n6_; clear n0_ n1_ n2_ n3_ n4_ n5_ n6_; (try clear hb); (try clear hb2); (try clear hk); (try clear hi); obtain ⟨Ao153, co153, eo153⟩ := Kd.R_slice HO_10.out; subst eo153) | (go_at_call 47; (with_reducible refine (laws_a2Has.calls k4 _ _ t856 x14_2 false _ ?side1 ?side2 A144.out).mono ?_); (case side1 => repeat (first | exact (Kd.R_reads' HO_10.out).2.2 | (with_reducible refine Kd.C_alloc ?_ _) | (with_reducible refine Kd.C_drewN ?_ _) | (with_reducible refine Kd.C_drew ?_))); (case side2 => exact (Kd.R_reads' HO_10.out).2.1); rintro e w' ⟨rfl, ⟨nd, rfl⟩⟩))
                      go_roundg k4
                      case measure => have := HJ8.out; have := HK2.out; have := HJ59.out; have := HK4.out; omega
                      case rel => exact ⟨(wrap64 (x14_2 + 1)), (by first | rfl | (simp; done) | (simp [*]; done)), H', ⟨by have := HJ8.out; have := HK2.out; have := HJ59.out; have := HK4.out; omega⟩, ⟨by (with_reducible repeat (first | apply Kd.R_alloc | apply Kd.R_drewN | apply Kd.R_drew)); exact HO_6.out⟩, ⟨by (with_reducible repeat (first | apply Kd.R_alloc | apply Kd.R_drewN | apply Kd.R_drew)); exact HO_8.out⟩, ⟨by (with_reducible repeat (first | apply Kd.R_alloc | apply Kd.R_drewN | apply Kd.R_drew)); exact HO_10.out⟩, ⟨by (with_reducible repeat (first | apply Kd.R_alloc | apply Kd.R_drewN | apply Kd.R_drew)); exact HO_848000.out⟩, ⟨by (with_reducible repeat (first | apply Kd.S_alloc | apply Kd.S_drewN | apply Kd.S_drew)); exact HO_848001.out⟩, ⟨by (with_reducible repeat (first | refine blk_drewN ?_ _ | refine blk_drew ?_ | refine blk_alloc ?_ _)); exact BK847.out⟩, ⟨(hg_ GE847)⟩⟩
                    ·replace c143 := Bool.eq_false_iff.mpr c143
                     subst c143
                     have H1 : (laws_FnDeckStates.l0 k4 t846 (t846.size : Int) t848 t852 t856 (wrap64 (x14_2 + 1)) t840 t843) = some r := by rw [if_neg (show ¬ (false = true) by decide)] at H; exact H
                     clear H
                     have H := H1
                     clear H1
                     have H' := Aside0.mk H
                     clear H
                     have hcz154_0 : wr.cell? ⟨gb847, 0, none⟩ = some (.slice (some ad863) t840.length co12) := (blk_cell BK847.out 0).trans rfl
                     have hcz154_1 : wr.cell? ⟨gb847, 1, none⟩ = some (.slice Ao14 t843.length co14) := (blk_cell BK847.out 1).trans rfl
                     have hfz154_0 := blk_frozen BK847.out 0
                     have hfz154_1 := blk_frozen BK847.out 1
                     obtain ⟨Ao155, co155, eo155⟩ := Kd.R_slice HO_8.out
                     subst eo155
                     go_wp2_with (first | ((with_reducible refine gate_callee (f := 47) rfl ?_); refine goesL_ (some 154) rfl rfl Try.func47 (by kernel_rfl) rfl #[.slice Ao155 t852.length co155, .int .i64 x14_2] rfl ln_ ?_; (with_reducible refine (laws_a2Has.calls k4 _ _ t852 x14_2 false _ ?side1 ?side2 A90.out).mono ?_); (case side1 => repeat (first | exact (Kd.R_reads' HO_8.out).2.2 | (with_reducible refine Kd.C_alloc ?_ _) | (with_reducible refine Kd.C_drewN ?_ _) | (with_reducible refine Kd.C_drew ?_))); (case side2 => exact (Kd.R_reads' HO_8.out).2.1); rintro e w' ⟨rfl, ⟨nd, rfl⟩⟩; refine ⟨_, rfl, ?_⟩) | ((with_reducible refine gate_callee (f := 31) rfl ?_); refine goesL_ (some 159) rfl rfl Try.func31 (by kernel_rfl) rfl #[.agg #[.slice (some ad863) t840.length co12, .slice Ao14 t843.length co14], .string t846, .int .i64 x14_2] rfl ln_ ?_; (with_reducible refine (impl_ChangeLine.calls k4 _ _ t840 _ _ t843 t846 x14_2 t868 t869 _ ?side1 ?side2 ?side3 ?side4 A91.out).mono ?_); (case side1 => repeat (first | exact (Kd.R_reads' HO_848000.out).2.2 | (with_reducible refine Kd.C_alloc ?_ _) | (with_reducible refine Kd.C_drewN ?_ _) | (with_reducible refine Kd.C_drew ?_))); (case side2 => exact (Kd.R_reads' HO_848000.out).2.1); (case side3 => repeat (first | exact (Kd.S_reads' HO_848001.out).2.2 | (with_reducible refine Kd.C_alloc ?_ _) | (with_reducible refine Kd.C_drewN ?_ _) | (with_reducible refine Kd.C_drew ?_))); (case side4 => exact (Kd.S_reads' HO_848001.out).2.1); rintro e w156 ⟨rfl, hb⟩; refine ⟨_, rfl, ?_⟩; have n0_ := Aside0.mk (Kd.R_below (kr_ HO_6) hb); have n1_ := Aside0.mk (Kd.R_below (kr_ HO_8) hb); have n2_ := Aside0.mk (Kd.R_below (kr_ HO_10) hb); have n3_ := Aside0.mk (Kd.R_below (kr_ HO_848000) hb); have n4_ := Aside0.mk (Kd.S_below (by (with_reducible repeat (first | apply Kd.S_alloc | apply Kd.S_drewN | apply Kd.S_drew)); exact HO_848001.out) hb); have n5_ := Aside0.mk (blk_below (g := gb847) (o := .cells #[.slice (some ad863) t840.length co12, .slice Ao14 t843.length co14] 28 (0, 0)) (bk_ BK847) hb); have n6_ := Aside0.mk (below_step (hg_ GE847) hb); clear HO_6; clear HO_8; clear HO_10; clear HO_848000; clear HO_848001; clear BK847; clear HB; have HO_6 := n0_; have HO_8 := n1_; have HO_10 := n2_; have HO_848000 := n3_; have HO_848001 := n4_; have BK847 := n5_; have HB := n6_; clear n0_ n1_ n2_ n3_ n4_ n5_ n6_; (try clear hb); (try clear hb2); (try clear hk); (try clear hi)))
                     go_roundg k4
                     case measure => have := HJ8.out; have := HK2.out; have := HJ59.out; have := HK4.out; omega
                     case rel => exact ⟨(wrap64 (x14_2 + 1)), (by first | rfl | (simp; done) | (simp [*]; done)), H', ⟨by have := HJ8.out; have := HK2.out; have := HJ59.out; have := HK4.out; omega⟩, ⟨by (with_reducible repeat (first | apply Kd.R_alloc | apply Kd.R_drewN | apply Kd.R_drew)); exact HO_6.out⟩, ⟨by (with_reducible repeat (first | apply Kd.R_alloc | apply Kd.R_drewN | apply Kd.R_drew)); exact HO_8.out⟩, ⟨by (with_reducible repeat (first | apply Kd.R_alloc | apply Kd.R_drewN | apply Kd.R_drew)); exact HO_10.out⟩, ⟨by (with_reducible repeat (first | apply Kd.R_alloc | apply Kd.R_drewN | apply Kd.R_drew)); exact HO_848000.out⟩, ⟨by (with_reducible repeat (first | apply Kd.S_alloc | apply Kd.S_drewN | apply Kd.S_drew)); exact HO_848001.out⟩, ⟨by (with_reducible repeat (first | refine blk_drewN ?_ _ | refine blk_drew ?_ | refine blk_alloc ?_ _)); exact BK847.out⟩, ⟨(hg_ GE847)⟩⟩
                   ·rw [if_neg c142] at H
                    have c142b0 : (t869 == 6) = false := beq_eq_false_iff_ne.mpr c142
                    have c142b1 : (t869 != 6) = true := bne_iff_ne.mpr c142
                    obtain rfl := Option.some.inj H
                    have hcz157_0 : wr.cell? ⟨gb847, 0, none⟩ = some (.slice (some ad863) t840.length co12) := (blk_cell BK847.out 0).trans rfl
                    have hcz157_1 : wr.cell? ⟨gb847, 1, none⟩ = some (.slice Ao14 t843.length co14) := (blk_cell BK847.out 1).trans rfl
                    have hfz157_0 := blk_frozen BK847.out 0
                    have hfz157_1 := blk_frozen BK847.out 1
                    obtain ⟨Ao158, co158, eo158⟩ := Kd.R_slice HO_8.out
                    subst eo158
                    go_wp2_with (first | ((with_reducible refine gate_callee (f := 47) rfl ?_); refine goesL_ (some 154) rfl rfl Try.func47 (by kernel_rfl) rfl #[.slice Ao158 t852.length co158, .int .i64 x14_2] rfl ln_ ?_; (with_reducible refine (laws_a2Has.calls k4 _ _ t852 x14_2 t867 _ ?side1 ?side2 A90.out).mono ?_); (case side1 => repeat (first | exact (Kd.R_reads' HO_8.out).2.2 | (with_reducible refine Kd.C_alloc ?_ _) | (with_reducible refine Kd.C_drewN ?_ _) | (with_reducible refine Kd.C_drew ?_))); (case side2 => exact (Kd.R_reads' HO_8.out).2.1); rintro e w' ⟨rfl, ⟨nd, rfl⟩⟩; refine ⟨_, rfl, ?_⟩) | ((with_reducible refine gate_callee (f := 31) rfl ?_); refine goesL_ (some 159) rfl rfl Try.func31 (by kernel_rfl) rfl #[.agg #[.slice (some ad863) t840.length co12, .slice Ao14 t843.length co14], .string t846, .int .i64 x14_2] rfl ln_ ?_; (with_reducible refine (impl_ChangeLine.calls k4 _ _ t840 _ _ t843 t846 x14_2 t868 t869 _ ?side1 ?side2 ?side3 ?side4 A91.out).mono ?_); (case side1 => repeat (first | exact (Kd.R_reads' HO_848000.out).2.2 | (with_reducible refine Kd.C_alloc ?_ _) | (with_reducible refine Kd.C_drewN ?_ _) | (with_reducible refine Kd.C_drew ?_))); (case side2 => exact (Kd.R_reads' HO_848000.out).2.1); (case side3 => repeat (first | exact (Kd.S_reads' HO_848001.out).2.2 | (with_reducible refine Kd.C_alloc ?_ _) | (with_reducible refine Kd.C_drewN ?_ _) | (with_reducible refine Kd.C_drew ?_))); (case side4 => exact (Kd.S_reads' HO_848001.out).2.1); rintro e w159 ⟨rfl, hb⟩; refine ⟨_, rfl, ?_⟩; have n0_ := Aside0.mk (Kd.R_below (kr_ HO_6) hb); have n1_ := Aside0.mk (Kd.R_below (kr_ HO_8) hb); have n2_ := Aside0.mk (Kd.R_below (kr_ HO_10) hb); have n3_ := Aside0.mk (Kd.R_below (kr_ HO_848000) hb); have n4_ := Aside0.mk (Kd.S_below (by (with_reducible repeat (first | apply Kd.S_alloc | apply Kd.S_drewN | apply Kd.S_drew)); exact HO_848001.out) hb); have n5_ := Aside0.mk (blk_below (g := gb847) (o := .cells #[.slice (some ad863) t840.length co12, .slice Ao14 t843.length co14] 28 (0, 0)) (bk_ BK847) hb); have n6_ := Aside0.mk (below_step (hg_ GE847) hb); clear HO_6; clear HO_8; clear HO_10; clear HO_848000; clear HO_848001; clear BK847; clear HB; have HO_6 := n0_; have HO_8 := n1_; have HO_10 := n2_; have HO_848000 := n3_; have HO_848001 := n4_; have BK847 := n5_; have HB := n6_; clear n0_ n1_ n2_ n3_ n4_ n5_ n6_; (try clear hb); (try clear hb2); (try clear hk); (try clear hi)))
                    go_ret
                    exact ⟨ew_, (hg_ GE847)⟩
         ·rw [if_neg c59] at H
          exact absurd H (by simp)
        ·rw [if_neg c58] at H
         exact absurd H (by simp)
       ·rw [if_neg c57] at H
        have c57b0 : decide (x14_2 < (t846.size : Int)) = false := decide_eq_false c57
        clear c57
        obtain rfl := Option.some.inj H
        go_wp2
        go_ret
        exact ⟨ew_, (hg_ GE847)⟩

/-- THE ONE PURE STATEMENT of laws_FnDeckStates: yours. -/
def laws_FnDeckStates.Pure : Prop := ∀ (l0 : List Int), l0.length ≤ maxLen → l0.length * 1 ≤ 140737488351232 → (∀ x ∈ l0, (Lit.int .u8 x).wf = true) → ∃ k, laws_FnDeckStates.f k l0 = some true
theorem laws_FnDeckStates.walk (P : laws_FnDeckStates.Pure) (a0 : Option Addr) (len0 cap0 : Nat) (z0 : List Int) (w : World) (w0 : (a0 = none ∧ len0 = 0 ∧ cap0 = 0 ∧ z0 = []) ∨ ∃ x, a0 = some x ∧ len0 ≤ cap0 ∧ cap0 ≤ maxLen ∧ z0.length = cap0 ∧ (∀ i, i < z0.length → w.cell? (x.add i) = some (.int .u8 (z0.getD i 0))) ∧ ∀ n ∈ z0, (Lit.int .u8 n).wf = true) (y0 : len0 * 1 ≤ 140737488351232) :
  Calls Try.prog 14 #[.slice a0 len0 cap0] w fun e w' => e = .returned (.bool true) ∧ Below w.heap.size w w' := by
 obtain ⟨l0, rfl, hr0, hm0, hw0, hc0⟩ := ReadsInt.ofRowC w0
 obtain ⟨k, h⟩ := P l0 hm0 y0 hw0
 refine (laws_FnDeckStates.calls k _ _ l0 true w (Kd.C_of_reads (d := (0 : Int)) (h1 := fun _ => rfl) hr0) hc0 h).mono ?_
 rintro e w' ⟨rfl, hd⟩
 exact ⟨rfl, hd⟩

end Go.Proofs.Ytfkiamccipoioaa.P
end
