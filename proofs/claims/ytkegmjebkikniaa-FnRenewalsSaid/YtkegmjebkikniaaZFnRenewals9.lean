/- Texts of this claim, packed: Px34. -/
import Derived.Test.YtkegmjebkikniaaZFnRenewals8
section
-- Written by gprint.py (own program, over the printer of the kit) out of the translation. Lean checks it.
namespace Go.Proofs.Ytkegmjebkikniaa.P
open Go.RowKit Go.Proofs.YtkegmjebkikniaaW.PrintWords Go.Proofs.YtkegmjebkikniaaW.PrintLast Go.Proofs.YtkegmjebkikniaaW.PrintMore Go.Proofs.YtkegmjebkikniaaW.Pk
open Bool renaming true → T_, false → F_
open List renaming setIfInBounds_toArray → sT_, set_cons_zero → s0_, set_cons_succ → sS_
attribute [local go_sem] max2_int min2_int max_two min_two max_three min_three max_four min_four   -- for this text's walks alone
set_option linter.unusedVariables false
set_option linter.unusedSimpArgs false

/-! ### cmp_isNaN_int64: function 95 -/
def cmp_isNaN_int64.f (a0 : Int) : Option (Bool) := some (a0 != a0)
set_option maxHeartbeats 8000000 in
set_option maxRecDepth 100000 in
theorem cmp_isNaN_int64.calls (a0 : Int) (r : Bool) (w : World) (h : cmp_isNaN_int64.f a0 = some r) :
  Calls Try.prog 95 #[.int .i64 a0] w fun e w' => e = .returned (.bool r) ∧ Drawn0 w w' := by
 have H : (some (a0 != a0)) = some r := h
 clear h
 obtain rfl := Option.some.inj H
 go_enter Try.func95, Try.ntmps95
 go_wp2
 go_ret
 exact ⟨by first | rfl | (simp; done) | (simp [*]; done), by repeat (first | exact Drawn0.refl _ | apply Drawn0.step)⟩

/-! ### cmp_Compare_int64: function 83 -/
def cmp_Compare_int64.f (a0 : Int) (a1 : Int) : Option (Int) := (cmp_isNaN_int64.f a0).bind fun t607 => ((cmp_isNaN_int64.f a1).bind fun t608 => (if t607 = true then (if t608 = true then (some 0) else (some (-1))) else (if t608 = true then (some 1) else (if a0 < a1 then (some (-1)) else (if a0 > a1 then (some 1) else (some 0))))))
set_option maxHeartbeats 8000000 in
set_option maxRecDepth 100000 in
theorem cmp_Compare_int64.calls (a0 : Int) (a1 : Int) (r : Int) (w : World) (h : cmp_Compare_int64.f a0 a1 = some r) :
  Calls Try.prog 83 #[.int .i64 a0, .int .i64 a1] w fun e w' => e = .returned (.int .i64 r) ∧ Drawn0 w w' := by
 have H : ((cmp_isNaN_int64.f a0).bind fun t607 => ((cmp_isNaN_int64.f a1).bind fun t608 => (if t607 = true then (if t608 = true then (some 0) else (some (-1))) else (if t608 = true then (some 1) else (if a0 < a1 then (some (-1)) else (if a0 > a1 then (some 1) else (some 0))))))) = some r := h
 clear h
 replace H := Option.bind_eq_some_iff.mp H
 obtain ⟨t607, A30, H⟩ := H
 replace H : ((cmp_isNaN_int64.f a1).bind fun t608 => (if t607 = true then (if t608 = true then (some 0) else (some (-1))) else (if t608 = true then (some 1) else (if a0 < a1 then (some (-1)) else (if a0 > a1 then (some 1) else (some 0)))))) = some r := H
 have A3 := Aside0.mk A30
 clear A30
 replace H := Option.bind_eq_some_iff.mp H
 obtain ⟨t608, A40, H⟩ := H
 replace H : (if t607 = true then (if t608 = true then (some 0) else (some (-1))) else (if t608 = true then (some 1) else (if a0 < a1 then (some (-1)) else (if a0 > a1 then (some 1) else (some 0))))) = some r := H
 have A4 := Aside0.mk A40
 clear A40
 by_cases c5 : t607 = true
 ·subst c5
  have H1 : (if t608 = true then (some 0) else (some (-1))) = some r := by rw [if_pos rfl] at H; exact H
  clear H
  have H := H1
  clear H1
  by_cases c6 : t608 = true
  ·subst c6
   have H1 : (some 0) = some r := by rw [if_pos rfl] at H; exact H
   clear H
   have H := H1
   clear H1
   obtain rfl := Option.some.inj H
   go_enter Try.func83, Try.ntmps83
   go_wp2_with (first | ((with_reducible refine gate_callee (f := 95) rfl ?_); refine goesL_ (some 8) rfl rfl Try.func95 (by kernel_rfl) rfl #[.int .i64 a0] rfl ln_ ?_; (with_reducible refine (cmp_isNaN_int64.calls a0 true _ A3.out).mono ?_); rintro e w' ⟨rfl, ⟨nd, rfl⟩⟩; refine ⟨_, rfl, ?_⟩) | ((with_reducible refine gate_callee (f := 95) rfl ?_); refine goesL_ (some 10) rfl rfl Try.func95 (by kernel_rfl) rfl #[.int .i64 a1] rfl ln_ ?_; (with_reducible refine (cmp_isNaN_int64.calls a1 true _ A4.out).mono ?_); rintro e w' ⟨rfl, ⟨nd, rfl⟩⟩; refine ⟨_, rfl, ?_⟩))
   go_ret
   exact ⟨by first | rfl | (simp; done) | (simp [*]; done), by repeat (first | exact Drawn0.refl _ | apply Drawn0.step)⟩
  ·replace c6 := Bool.eq_false_iff.mpr c6
   subst c6
   have H1 : (some (-1)) = some r := by rw [if_neg (show ¬ (false = true) by decide)] at H; exact H
   clear H
   have H := H1
   clear H1
   obtain rfl := Option.some.inj H
   go_enter Try.func83, Try.ntmps83
   go_wp2_with (first | ((with_reducible refine gate_callee (f := 95) rfl ?_); refine goesL_ (some 8) rfl rfl Try.func95 (by kernel_rfl) rfl #[.int .i64 a0] rfl ln_ ?_; (with_reducible refine (cmp_isNaN_int64.calls a0 true _ A3.out).mono ?_); rintro e w' ⟨rfl, ⟨nd, rfl⟩⟩; refine ⟨_, rfl, ?_⟩) | ((with_reducible refine gate_callee (f := 95) rfl ?_); refine goesL_ (some 10) rfl rfl Try.func95 (by kernel_rfl) rfl #[.int .i64 a1] rfl ln_ ?_; (with_reducible refine (cmp_isNaN_int64.calls a1 false _ A4.out).mono ?_); rintro e w' ⟨rfl, ⟨nd, rfl⟩⟩; refine ⟨_, rfl, ?_⟩))
   go_ret
   exact ⟨by first | rfl | (simp; done) | (simp [*]; done), by repeat (first | exact Drawn0.refl _ | apply Drawn0.step)⟩
 ·replace c5 := Bool.eq_false_iff.mpr c5
  subst c5
  have H1 : (if t608 = true then (some 1) else (if a0 < a1 then (some (-1)) else (if a0 > a1 then (some 1) else (some 0)))) = some r := by rw [if_neg (show ¬ (false = true) by decide)] at H; exact H
  clear H
  have H := H1
  clear H1
  by_cases c7 : t608 = true
  ·subst c7
   have H1 : (some 1) = some r := by rw [if_pos rfl] at H; exact H
   clear H
   have H := H1
   clear H1
   obtain rfl := Option.some.inj H
   go_enter Try.func83, Try.ntmps83
   go_wp2_with (first | ((with_reducible refine gate_callee (f := 95) rfl ?_); refine goesL_ (some 8) rfl rfl Try.func95 (by kernel_rfl) rfl #[.int .i64 a0] rfl ln_ ?_; (with_reducible refine (cmp_isNaN_int64.calls a0 false _ A3.out).mono ?_); rintro e w' ⟨rfl, ⟨nd, rfl⟩⟩; refine ⟨_, rfl, ?_⟩) | ((with_reducible refine gate_callee (f := 95) rfl ?_); refine goesL_ (some 10) rfl rfl Try.func95 (by kernel_rfl) rfl #[.int .i64 a1] rfl ln_ ?_; (with_reducible refine (cmp_isNaN_int64.calls a1 true _ A4.out).mono ?_); rintro e w' ⟨rfl, ⟨nd, rfl⟩⟩; refine ⟨_, rfl, ?_⟩))
   go_ret
   exact ⟨by first | rfl | (simp; done) | (simp [*]; done), by repeat (first | exact Drawn0.refl _ | apply Drawn0.step)⟩
  ·replace c7 := Bool.eq_false_iff.mpr c7
   subst c7
   have H1 : (if a0 < a1 then (some (-1)) else (if a0 > a1 then (some 1) else (some 0))) = some r := by rw [if_neg (show ¬ (false = true) by decide)] at H; exact H
   clear H
   have H := H1
   clear H1
   by_cases c8 : a0 < a1
   ·rw [if_pos c8] at H
    have c8b0 : decide (a0 < a1) = true := decide_eq_true c8
    clear c8
    obtain rfl := Option.some.inj H
    go_enter Try.func83, Try.ntmps83
    go_wp2_with (first | ((with_reducible refine gate_callee (f := 95) rfl ?_); refine goesL_ (some 8) rfl rfl Try.func95 (by kernel_rfl) rfl #[.int .i64 a0] rfl ln_ ?_; (with_reducible refine (cmp_isNaN_int64.calls a0 false _ A3.out).mono ?_); rintro e w' ⟨rfl, ⟨nd, rfl⟩⟩; refine ⟨_, rfl, ?_⟩) | ((with_reducible refine gate_callee (f := 95) rfl ?_); refine goesL_ (some 10) rfl rfl Try.func95 (by kernel_rfl) rfl #[.int .i64 a1] rfl ln_ ?_; (with_reducible refine (cmp_isNaN_int64.calls a1 false _ A4.out).mono ?_); rintro e w' ⟨rfl, ⟨nd, rfl⟩⟩; refine ⟨_, rfl, ?_⟩))
    go_ret
    exact ⟨by first | rfl | (simp; done) | (simp [*]; done), by repeat (first | exact Drawn0.refl _ | apply Drawn0.step)⟩
   ·rw [if_neg c8] at H
    have c8b0 : decide (a0 < a1) = false := decide_eq_false c8
    clear c8
    by_cases c9 : a0 > a1
    ·rw [if_pos c9] at H
     have c9b0 : decide (a1 < a0) = true := decide_eq_true c9
     clear c9
     obtain rfl := Option.some.inj H
     go_enter Try.func83, Try.ntmps83
     go_wp2_with (first | ((with_reducible refine gate_callee (f := 95) rfl ?_); refine goesL_ (some 8) rfl rfl Try.func95 (by kernel_rfl) rfl #[.int .i64 a0] rfl ln_ ?_; (with_reducible refine (cmp_isNaN_int64.calls a0 false _ A3.out).mono ?_); rintro e w' ⟨rfl, ⟨nd, rfl⟩⟩; refine ⟨_, rfl, ?_⟩) | ((with_reducible refine gate_callee (f := 95) rfl ?_); refine goesL_ (some 10) rfl rfl Try.func95 (by kernel_rfl) rfl #[.int .i64 a1] rfl ln_ ?_; (with_reducible refine (cmp_isNaN_int64.calls a1 false _ A4.out).mono ?_); rintro e w' ⟨rfl, ⟨nd, rfl⟩⟩; refine ⟨_, rfl, ?_⟩))
     go_ret
     exact ⟨by first | rfl | (simp; done) | (simp [*]; done), by repeat (first | exact Drawn0.refl _ | apply Drawn0.step)⟩
    ·rw [if_neg c9] at H
     have c9b0 : decide (a1 < a0) = false := decide_eq_false c9
     clear c9
     obtain rfl := Option.some.inj H
     go_enter Try.func83, Try.ntmps83
     go_wp2_with (first | ((with_reducible refine gate_callee (f := 95) rfl ?_); refine goesL_ (some 8) rfl rfl Try.func95 (by kernel_rfl) rfl #[.int .i64 a0] rfl ln_ ?_; (with_reducible refine (cmp_isNaN_int64.calls a0 false _ A3.out).mono ?_); rintro e w' ⟨rfl, ⟨nd, rfl⟩⟩; refine ⟨_, rfl, ?_⟩) | ((with_reducible refine gate_callee (f := 95) rfl ?_); refine goesL_ (some 10) rfl rfl Try.func95 (by kernel_rfl) rfl #[.int .i64 a1] rfl ln_ ?_; (with_reducible refine (cmp_isNaN_int64.calls a1 false _ A4.out).mono ?_); rintro e w' ⟨rfl, ⟨nd, rfl⟩⟩; refine ⟨_, rfl, ?_⟩))
     go_ret
     exact ⟨by first | rfl | (simp; done) | (simp [*]; done), by repeat (first | exact Drawn0.refl _ | apply Drawn0.step)⟩

/-! ### impl_OrderByDue: function 45 -/
-- (by hand)
open Go.Proofs.YtkegmjebkikniaaW.Hand
/-- One due before another, as the program compares. -/
def ltD (l : List S55) (a b : Int) : Bool := decide ((rd_T55 l a).f2 < (rd_T55 l b).f2)
def cmpD (l : List S55) (a b : Int) : Int := if (rd_T55 l a).f2 < (rd_T55 l b).f2 then -1 else if (rd_T55 l a).f2 > (rd_T55 l b).f2 then 1 else 0
theorem cmpD_lt (l : List S55) (a b : Int) : decide (cmpD l a b < 0) = ltD l a b := by
 unfold cmpD ltD
 by_cases h : (rd_T55 l a).f2 < (rd_T55 l b).f2
 ·rw [if_pos h, decide_eq_true h]; rfl
 ·rw [if_neg h, decide_eq_false h]
  split <;> rfl
theorem cmpD_f (l : List S55) (a b : Int) : cmp_Compare_int64.f (rd_T55 l a).f2 (rd_T55 l b).f2 = some (cmpD l a b) := by
 unfold cmp_Compare_int64.f cmp_isNaN_int64.f cmpD
 simp only [bne_self_eq_false, Option.bind_some]
 rw [if_neg (by simp), if_neg (by simp)]
 split
 ·rfl
 ·split <;> rfl
set_option maxRecDepth 100000 in
set_option maxHeartbeats 4000000 in
theorem byDue_calls (w : World) (bl : Nat) (Al : Option Addr) (cl : Nat) (l : List S55) (a b : Int) (hm : l.length ≤ 1048576) (ha0 : 0 ≤ a) (ha : a < l.length) (hb0 : 0 ≤ b) (hb : b < l.length) (hblk : w.heap[bl]? = some (.cells #[.slice Al l.length cl] 31 (0, 0))) (hl : Kd.C k55 w Al l.length l) :
  Calls Try.prog 82 #[.int .i64 a, .int .i64 b, .pointer (some ⟨bl, 0, none⟩)] w fun e w' => e = .returned (.int .i64 (cmpD l a b)) ∧ Below w.heap.size w w' := by
 have HL := Aside0.mk hl
 have HBK := Aside0.mk hblk
 obtain ⟨al, eal, ealr⟩ := at_T55 hl a ha0 ha
 clear ealr
 subst eal
 clear hl hblk
 go_enter Try.func82, Try.ntmps82
 go_upto_region 1 with fail
 refine hand_tail 10 (fun W => Below w.heap.size w W) (by kernel_rfl) (by kernel_rfl) (below_drew (Below.refl _ _)) ?_
 rintro W hW
 have c0 : W.cell? ⟨bl, 0, none⟩ = some (.slice (some al) l.length cl) := (blk_cell ((hW.block _ (blk_lt HBK.out)).trans HBK.out) 0).trans rfl
 obtain ⟨_, e1, _, _, x1, _⟩ := at_T55 (Kd.C_below HL.out hW) a ha0 ha
 cases e1
 obtain ⟨_, e2, _, _, x2, _⟩ := at_T55 (Kd.C_below HL.out hW) b hb0 hb
 cases e2
 have HW := Aside0.mk hW
 have k1 : decide (0 ≤ a) = true := decide_eq_true ha0
 have k2 : decide (a < (l.length : Int)) = true := decide_eq_true ha
 have k3 : decide (0 ≤ b) = true := decide_eq_true hb0
 have k4 : decide (b < (l.length : Int)) = true := decide_eq_true hb
 clear hW
 simp only [List.take_succ_cons, List.take_zero, List.drop_succ_cons, List.drop_zero]
 repeat still_step
 refine wpStill_nil ?_
 go_wp2_with (go_at_call 83; refine (cmp_Compare_int64.calls _ _ _ _ (cmpD_f l a b)).mono ?_; rintro e w1 ⟨rfl, hb1⟩; have HB1 := Aside0.mk (below_then HW.out HW.out.size hb1.below); clear hb1)
 go_ret
 exact ⟨rfl, HB1.out⟩
def insort.T6 : Bool × List (List Nat × List Nat) := (true, [([], []), ([], []), ([], []), ([], []), ([3], [3]), ([], []), ([], []), ([6], [6]), ([5, 7], [5, 7]), ([8], [8]), ([], []), ([], []), ([10, 11], [10, 11]), ([12], [12]), ([0, 1, 0, 1, 5, 6, 7, 8, 9, 13], [0, 1]), ([14, 9, 0, 1, 5, 6, 7, 8, 9, 13], [9, 14]), ([2, 4, 0, 1, 2, 3, 4, 5, 6, 7, 8, 9, 10, 11, 12, 13, 14, 15], [2, 4]), ([16, 13, 15, 0, 1, 2, 3, 4, 5, 6, 7, 8, 9, 10, 11, 12, 13, 14, 15], [13, 16])])
def insort.B6 : List Nat := [0, 0, 0, 0, 8, 0, 0, 64, 224, 480, 0, 0, 3072, 7168, 16355, 32739, 65535, 131071]
theorem insort.tab6 : rtab .any (opsOf Try.f100 6) = insort.T6 := by kernel_rfl
theorem insort.bits6 : waitsOk insort.T6.2 insort.B6 = true := by kernel_rfl

def insort4.T4 : Bool × List (List Nat × List Nat) := (true, [([], []), ([], []), ([0, 1], [0, 1]), ([2], [2]), ([3], [3]), ([3], [3]), ([3], [3]), ([5, 6, 3], [3, 5, 6]), ([7, 3], [3, 7]), ([3], [3]), ([3], [3]), ([10, 3], [3, 10]), ([9, 11, 3], [3, 9, 11]), ([12, 3], [3, 12]), ([4, 8, 13, 3, 3], [3, 4, 8, 13]), ([14, 3], [3, 14]), ([3, 15], [3, 15])])
def insort4.B4 : List Nat := [0, 0, 3, 7, 15, 15, 15, 111, 239, 15, 15, 1039, 3599, 7695, 16383, 32767, 65535]
theorem insort4.tab4 : rtab .any (opsOf Try.f100 4) = insort4.T4 := by kernel_rfl
theorem insort4.bits4 : waitsOk insort4.T4.2 insort4.B4 = true := by kernel_rfl

/-- The order being sorted lies in a row of the call's own; the list is read through its variable at bl. -/
structure OInv (w0 w : World) (bl : Nat) (Al : Option Addr) (cl : Nat) (l : List S55) (A : Option Addr) (c : Nat) (xs : List Int) : Prop where
 blk : w.heap[bl]? = some (.cells #[.slice Al l.length cl] 31 (0, 0))
 row : w.ownsRow w0.heap.size 2 1 (.slice A xs.length c) xs.length (nums .i64 xs)
 list : Kd.C k55 w0 Al l.length l
 below : Below w0.heap.size w0 w
 dom : ∀ i : Nat, i < xs.length → 0 ≤ rd xs (i : Int) ∧ rd xs (i : Int) < l.length
section
variable {w0 w w1 : World} {bl : Nat} {Al : Option Addr} {cl : Nat} {l : List S55} {A : Option Addr} {c g : Nat} {xs : List Int}
theorem OInv.step (h : OInv w0 w bl Al cl l A c xs) (hb : Below w.heap.size w w1) : OInv w0 w1 bl Al cl l A c xs :=
 ⟨(hb.block _ (blk_lt h.blk)).trans h.blk, pw_own_below h.row hb, h.list, below_then h.below h.below.size hb, h.dom⟩
theorem OInv.at_ (h : OInv w0 w bl Al cl l (some ⟨g, 0, none⟩) c xs) (i : Nat) (hi : i < xs.length) : w.cell? ⟨g, i, none⟩ = some (.int .i64 (rd xs (i : Int))) := by
 have := (own_at h.row (i : Int) (by omega) (by omega)).1
 rwa [Int.toNat_natCast] at this
theorem OInv.fr (h : OInv w0 w bl Al cl l (some ⟨g, 0, none⟩) c xs) (i : Nat) (hi : i < xs.length) : w.frozen? ⟨g, i, none⟩ = false := by
 have := (own_at h.row (i : Int) (by omega) (by omega)).2
 rwa [Int.toNat_natCast] at this
theorem OInv.put (h : OInv w0 w bl Al cl l (some ⟨g, 0, none⟩) c xs) (i : Nat) (v : Int) (hv : 0 ≤ v ∧ v < l.length) : OInv w0 (w.setCell ⟨g, i, none⟩ (.int .i64 v)) bl Al cl l (some ⟨g, 0, none⟩) c (xs.set i v) := by
 have hs := (own_store h.row (i : Int) v).1
 rw [Int.toNat_natCast] at hs
 have hl : (xs.set i v).length = xs.length := List.length_set ..
 obtain ⟨gcells, hg⟩ := own_typed h.row g rfl
 refine ⟨blk_far h.blk (blk_ne h.blk hg (by decide)) _, by rw [hl]; exact hs, h.list, h.below.setCell (own_base h.row g rfl) _, fun j hj => ?_⟩
 rw [hl] at hj
 by_cases e : j = i
 ·subst e
  have : rd (xs.set j v) (j : Int) = v := by unfold rd; simp [hj]
  rw [this]
  exact hv
 ·have : rd (xs.set i v) (j : Int) = rd xs (j : Int) := by
   unfold rd
   simp [List.getD_eq_getElem?_getD, List.getElem?_set_ne (show i ≠ j by omega)]
  rw [this]
  exact h.dom j hj
end
/-- Two neighbours change places. -/
def swapL (xs : List Int) (p j : Nat) : List Int := (xs.set j (rd xs (p : Int))).set p (rd xs (j : Int))
/-- The element at j goes down to its place. -/
def insJ (l : List S55) : Nat → List Int → List Int
 | 0, xs => xs
 | j + 1, xs => if ltD l (rd xs ((j + 1 : Nat) : Int)) (rd xs (j : Int)) = true then insJ l j (swapL xs j (j + 1)) else xs
/-- Those from i on, m of them, go down one after the other. -/
def insFrom (l : List S55) : Nat → Nat → List Int → List Int
 | 0, _, xs => xs
 | m + 1, i, xs => insFrom l m (i + 1) (insJ l i xs)
theorem swapL_length (xs : List Int) (p j : Nat) : (swapL xs p j).length = xs.length := by simp [swapL]
theorem insJ_pos (l : List S55) (p j : Nat) (xs : List Int) (h : j = p + 1) : insJ l j xs = if ltD l (rd xs (j : Int)) (rd xs (p : Int)) = true then insJ l p (swapL xs p j) else xs := by
 subst h
 rfl
theorem OInv.swap {w0 w : World} {bl : Nat} {Al : Option Addr} {cl : Nat} {l : List S55} {c g : Nat} {xs : List Int} (h : OInv w0 w bl Al cl l (some ⟨g, 0, none⟩) c xs) (p j : Nat) (hp : p < xs.length) (hj : j < xs.length) (hne : j ≠ p) :
  OInv w0 ((w.setCell ⟨g, j, none⟩ (.int .i64 (rd xs (p : Int)))).setCell ⟨g, p, none⟩ (.int .i64 (rd xs (j : Int)))) bl Al cl l (some ⟨g, 0, none⟩) c (swapL xs p j) ∧ (w.setCell ⟨g, j, none⟩ (.int .i64 (rd xs (p : Int)))).frozen? ⟨g, p, none⟩ = false ∧ (w.setCell ⟨g, j, none⟩ (.int .i64 (rd xs (p : Int)))).cell? ⟨g, p, none⟩ = some (.int .i64 (rd xs (p : Int))) := by
 have h1 := h.put j (rd xs (p : Int)) (h.dom p hp)
 refine ⟨h1.put p _ (h.dom j hj), h1.fr p (by rw [List.length_set]; exact hp), ?_⟩
 rw [h1.at_ p (by rw [List.length_set]; exact hp)]
 have : rd (xs.set j (rd xs (p : Int))) (p : Int) = rd xs (p : Int) := by
  unfold rd
  simp [List.getD_eq_getElem?_getD, List.getElem?_set_ne hne]
 rw [this]
set_option maxRecDepth 100000 in
set_option maxHeartbeats 8000000 in
theorem insort_calls (w0 w : World) (bl : Nat) (Al : Option Addr) (cl : Nat) (l : List S55) (hm : l.length ≤ 1048576) (A : Option Addr) (c n : Nat) (xs : List Int) (hx : xs.length = n) (hn : n ≤ 1048576) (h : OInv w0 w bl Al cl l A c xs) :
  Calls Try.prog 100 #[.slice A n c, .int .i64 0, .int .i64 (n : Int), .func (.func 82) #[] #[.pointer (some ⟨bl, 0, none⟩)]] w fun e w' => e = .returned (.tuple #[]) ∧ OInv w0 w' bl Al cl l A c (insFrom l (n - 1) 1 xs) := by
 have HI := Aside0.mk h
 have HX := Aside0.mk hx
 clear h hx
 go_enter Try.func100, Try.ntmps100
 go_wp2_with fail
 go_loopg [8] n (fun gg v8 wr => ∃ i : Nat, v8 = .int .i64 (i : Int) ∧ Aside0 (1 ≤ i ∧ n - i ≤ gg) ∧ Aside0 (∃ ys : List Int, ys.length = n ∧ OInv w0 wr bl Al cl l A c ys ∧ insFrom l (n - i) i ys = insFrom l (n - 1) 1 xs))
 case atStart => exact ⟨1, by go_num, ⟨by omega, by omega⟩, ⟨xs, HX.out, HI.out, rfl⟩⟩
 case round =>
 obtain ⟨i, rfl, HJ, HY⟩ := hrel
 clear HI HX
 obtain ⟨ys, hyl, hI, hR⟩ := HY.out
 clear HY
 by_cases hlt : i < n
 rotate_left
 ·have hltb : decide (i < n) = false := decide_eq_false hlt
  have HP : Aside0 (OInv w0 wr bl Al cl l A c (insFrom l (n - 1) 1 xs)) := ⟨by rw [← hR, Nat.sub_eq_zero_of_le (by omega)]; exact hI⟩
  clear hR hI
  go_wp2_with fail
  first | go_end0 | refine bodyPost_ret (results_none rfl _ _ _) rfl ?_
  exact ⟨rfl, HP.out⟩
 have hltb : decide (i < n) = true := decide_eq_true hlt
 rw [show n - i = (n - (i + 1)) + 1 by omega, insFrom] at hR
 obtain ⟨zs, hzs⟩ : ∃ zs, zs = insJ l i ys := ⟨_, rfl⟩
 rw [← hzs] at hR
 have HZ := Aside0.mk hzs
 have HR := Aside0.mk hR
 have HI := Aside0.mk hI
 have HYL := Aside0.mk hyl
 clear hR hI hyl hzs
 go_wp2_with fail
 obtain ⟨wo, rfl⟩ : ∃ wo : World, wo = wr := ⟨_, rfl⟩
 go_loopg [9] i (fun gg v9 wq => ∃ j : Nat, v9 = .int .i64 (j : Int) ∧ Aside0 (j ≤ i ∧ j ≤ gg) ∧ Aside0 (∃ us : List Int, us.length = n ∧ OInv w0 wq bl Al cl l A c us ∧ insJ l j us = zs))
 case atStart => exact ⟨i, rfl, ⟨by omega, by omega⟩, ⟨ys, HYL.out, HI.out, HZ.out.symm⟩⟩
 case round =>
 obtain ⟨j, rfl, HJ2, HU⟩ := hrel
 clear HI
 obtain ⟨us, hul, hI, hR⟩ := HU.out
 clear HU
 by_cases hj0 : j = 0
 ·subst hj0
  have hI0 := Aside0.mk (show OInv w0 wr bl Al cl l A c zs by rw [← hR]; exact hI)
  have hz : zs.length = n := by rw [← hR]; exact hul
  have HZL := Aside0.mk hz
  clear hR hI hz hul
  go_upto_region 4 with fail
  refine start_ (n := 17) (S := fun w' => True) (ds := [99]) #[F_,F_,F_,F_,F_,F_,F_,F_,F_,F_,F_,F_,F_,F_,F_,F_,F_] (by kernel_rfl) rfl rfl trivial (fun hHeld => ?_); refine with_tabW insort4.tab4 insort4.bits4 (fun HT_ HW_ => ?_)
  have HI2 : Aside0 (OInv w0 wr.drew bl Al cl l A c zs) := ⟨hI0.out.step (below_drew (Below.refl _ _))⟩
  clear hI0
  generalize hW : wr.drew = W at hHeld HI2 ⊢
  clear hW
  refine pu (i := 0) (N := some 18) #[T_,F_,F_,F_,F_,F_,F_,F_,F_,F_,F_,F_,F_,F_,F_,F_,F_] HT_ ?_
  refine pu (i := 1) (N := some 19) #[T_,T_,F_,F_,F_,F_,F_,F_,F_,F_,F_,F_,F_,F_,F_,F_,F_] HT_ ?_
  refine pu (i := 2) (N := some 20) #[T_,T_,T_,F_,F_,F_,F_,F_,F_,F_,F_,F_,F_,F_,F_,F_,F_] HT_ ?_
  refine pu (i := 3) (N := some 21) #[T_,T_,T_,T_,F_,F_,F_,F_,F_,F_,F_,F_,F_,F_,F_,F_,F_] HT_ ?_
  refine pn (i := 4) (N := some 22) #[T_,T_,T_,T_,T_,F_,F_,F_,F_,F_,F_,F_,F_,F_,F_,F_,F_] HT_ ?_
  refine pn (i := 5) (N := some 23) #[T_,T_,T_,T_,T_,T_,F_,F_,F_,F_,F_,F_,F_,F_,F_,F_,F_] HT_ ?_
  refine pn (i := 6) (N := some 24) #[T_,T_,T_,T_,T_,T_,T_,F_,F_,F_,F_,F_,F_,F_,F_,F_,F_] HT_ ?_
  refine pn (i := 7) (N := some 25) #[T_,T_,T_,T_,T_,T_,T_,T_,F_,F_,F_,F_,F_,F_,F_,F_,F_] HT_ ?_
  refine pn (i := 8) (N := some 26) #[T_,T_,T_,T_,T_,T_,T_,T_,T_,F_,F_,F_,F_,F_,F_,F_,F_] HT_ ?_
  refine pn (i := 9) (N := some 27) #[T_,T_,T_,T_,T_,T_,T_,T_,T_,T_,F_,F_,F_,F_,F_,F_,F_] HT_ ?_
  refine pn (i := 10) (N := some 28) #[T_,T_,T_,T_,T_,T_,T_,T_,T_,T_,T_,F_,F_,F_,F_,F_,F_] HT_ ?_
  refine pn (i := 11) (N := some 29) #[T_,T_,T_,T_,T_,T_,T_,T_,T_,T_,T_,T_,F_,F_,F_,F_,F_] HT_ ?_
  refine pn (i := 12) (N := some 30) #[T_,T_,T_,T_,T_,T_,T_,T_,T_,T_,T_,T_,T_,F_,F_,F_,F_] HT_ ?_
  refine pn (i := 13) (N := some 31) #[T_,T_,T_,T_,T_,T_,T_,T_,T_,T_,T_,T_,T_,T_,F_,F_,F_] HT_ ?_
  refine pn (i := 14) (N := some 32) #[T_,T_,T_,T_,T_,T_,T_,T_,T_,T_,T_,T_,T_,T_,T_,F_,F_] HT_ ?_
  refine pn (i := 15) (N := some 33) #[T_,T_,T_,T_,T_,T_,T_,T_,T_,T_,T_,T_,T_,T_,T_,T_,F_] HT_ ?_
  refine pu (i := 16) (N := some 34) #[T_,T_,T_,T_,T_,T_,T_,T_,T_,T_,T_,T_,T_,T_,T_,T_,T_] HT_ ?_
  refine done_ (done_of HT_.out (by kernel_rfl)) ?_
  go_wp2_with fail
  go_roundg (n - (i + 1))
  case measure => have := HJ.out; omega
  case rel => exact ⟨i + 1, by go_num, ⟨by omega, by omega⟩, ⟨zs, HZL.out, HI2.out, HR.out⟩⟩
 ·have hj2 := HJ2.out
  obtain ⟨p, hp⟩ : ∃ p, j = p + 1 := ⟨j - 1, by omega⟩
  rw [insJ_pos l p j us hp] at hR
  obtain ⟨g, cc, eA⟩ := own_some hI.row (by omega)
  injection eA with eA _ ec
  subst eA ec
  have x0 : wr.drew.cell? ⟨g, p, none⟩ = some (.int .i64 (rd us (p : Int))) := hI.at_ p (by omega)
  have x1 : wr.drew.cell? ⟨g, j, none⟩ = some (.int .i64 (rd us (j : Int))) := hI.at_ j (by omega)
  have HW : Aside0 (OInv w0 wr.drew bl Al cl l (some ⟨g, 0, none⟩) c us) := ⟨hI.step (below_drew (Below.refl _ _))⟩
  have HR2 := Aside0.mk hR
  have HUL := Aside0.mk hul
  have D0 := Aside0.mk (hI.dom p (by omega))
  have D1 := Aside0.mk (hI.dom j (by omega))
  have hw1 : IntKind.i64.wrap ((j : Int) - 1) = (p : Int) := (IntWalk.i64_in _ (by omega)).trans (by omega)
  have hk1 : decide (0 < j) = true := decide_eq_true (by omega)
  have hk2 : j < n := by omega
  have hk3 : p < n := by omega
  have HP := Aside0.mk hp
  clear hI hR hul hj2 hp hj0
  go_upto_region 4 with fail
  refine start_ (n := 17) (S := fun w' => w'.cell? ⟨g, p, none⟩ = some (.int .i64 (rd us (p : Int))) ∧ w'.cell? ⟨g, j, none⟩ = some (.int .i64 (rd us (j : Int)))) (ds := [14]) #[F_,F_,F_,F_,F_,F_,F_,F_,F_,F_,F_,F_,F_,F_,F_,F_,F_] (by kernel_rfl) rfl rfl ⟨x0, x1⟩ (fun hHeld => ?_); refine with_tabW insort4.tab4 insort4.bits4 (fun HT_ HW_ => ?_)
  generalize hW : wr.drew = W at hHeld HW x0 x1 ⊢
  clear hW
  refine pu (i := 0) (N := some 18) #[T_,F_,F_,F_,F_,F_,F_,F_,F_,F_,F_,F_,F_,F_,F_,F_,F_] HT_ ?_
  refine pu (i := 1) (N := some 19) #[T_,T_,F_,F_,F_,F_,F_,F_,F_,F_,F_,F_,F_,F_,F_,F_,F_] HT_ ?_
  refine pu (i := 2) (N := some 20) #[T_,T_,T_,F_,F_,F_,F_,F_,F_,F_,F_,F_,F_,F_,F_,F_,F_] HT_ ?_
  refine pu (i := 3) (N := some 21) #[T_,T_,T_,T_,F_,F_,F_,F_,F_,F_,F_,F_,F_,F_,F_,F_,F_] HT_ ?_
  refine pu (i := 4) (N := some 22) #[T_,T_,T_,T_,T_,F_,F_,F_,F_,F_,F_,F_,F_,F_,F_,F_,F_] HT_ ?_
  refine pu (i := 5) (N := some 23) #[T_,T_,T_,T_,T_,T_,F_,F_,F_,F_,F_,F_,F_,F_,F_,F_,F_] HT_ ?_
  refine pu (i := 6) (N := some 24) #[T_,T_,T_,T_,T_,T_,T_,F_,F_,F_,F_,F_,F_,F_,F_,F_,F_] HT_ ?_
  refine pu (i := 7) (N := some 25) #[T_,T_,T_,T_,T_,T_,T_,T_,F_,F_,F_,F_,F_,F_,F_,F_,F_] HT_ ?_
  refine pu (i := 9) (N := some 27) #[T_,T_,T_,T_,T_,T_,T_,T_,F_,T_,F_,F_,F_,F_,F_,F_,F_] HT_ ?_
  refine pu (i := 10) (N := some 28) #[T_,T_,T_,T_,T_,T_,T_,T_,F_,T_,T_,F_,F_,F_,F_,F_,F_] HT_ ?_
  refine pu (i := 11) (N := some 29) #[T_,T_,T_,T_,T_,T_,T_,T_,F_,T_,T_,T_,F_,F_,F_,F_,F_] HT_ ?_
  refine pu (i := 12) (N := some 30) #[T_,T_,T_,T_,T_,T_,T_,T_,F_,T_,T_,T_,T_,F_,F_,F_,F_] HT_ ?_
  refine take_ (i := 8) (N := some 26) (v := ?_) (a' := ?_) #[T_,T_,T_,T_,T_,T_,T_,T_,T_,T_,T_,T_,T_,F_,F_,F_,F_] rfl rfl (take_ofW HT_.out HW_.out (by kernel_rfl)) (fun _ _ _ h => h) (Or.inl ⟨by rfl, ?_⟩) hHeld ?_ ?_
  rotate_left
  ·rintro w' ⟨s0, s1⟩
   go_simp
   with_reducible rfl
  rotate_left
  ·simp only [Act.put, sT_, s0_, sS_, i64_w, i32_w]
   rfl
  refine take_ (i := 13) (N := some 31) (v := ?_) (a' := ?_) #[T_,T_,T_,T_,T_,T_,T_,T_,T_,T_,T_,T_,T_,T_,F_,F_,F_] rfl rfl (take_ofW HT_.out HW_.out (by kernel_rfl)) (fun _ _ _ h => h) (Or.inl ⟨by rfl, ?_⟩) hHeld ?_ ?_
  rotate_left
  ·rintro w' ⟨s0, s1⟩
   go_simp
   with_reducible rfl
  rotate_left
  ·simp only [Act.put, sT_, s0_, sS_, i64_w, i32_w]
   rfl
  refine last_ (i := 14) (N := (some 32)) #[T_,T_,T_,T_,T_,T_,T_,T_,T_,T_,T_,T_,T_,T_,T_,F_,F_] rfl rfl (one_of HT_.out (by kernel_rfl)) (by decide) (fun K hK => ?_)
  go_simp
  go_at_call 82
  refine (byDue_calls W bl Al cl l (rd us (j : Int)) (rd us (p : Int)) hm D1.out.1 D1.out.2 D0.out.1 D0.out.2 HW.out.blk (Kd.C_below HW.out.list HW.out.below)).mono ?_
  rintro e w4 ⟨rfl, hb4⟩
  have HI4 := Aside0.mk (HW.out.step hb4)
  clear hb4
  refine hK.out _ _ ?_
  clear hK K
  refine pu (i := 15) (N := some 33) #[T_,T_,T_,T_,T_,T_,T_,T_,T_,T_,T_,T_,T_,T_,T_,T_,F_] HT_ ?_
  refine pu (i := 16) (N := some 34) #[T_,T_,T_,T_,T_,T_,T_,T_,T_,T_,T_,T_,T_,T_,T_,T_,T_] HT_ ?_
  refine done_ (done_of HT_.out (by kernel_rfl)) ?_
  have hcl := cmpD_lt l (rd us (j : Int)) (rd us (p : Int))
  obtain ⟨cv, hcv⟩ : ∃ cv, cv = cmpD l (rd us (j : Int)) (rd us (p : Int)) := ⟨_, rfl⟩
  rw [← hcv] at hcl ⊢
  clear hcv
  cases hb : ltD l (rd us (j : Int)) (rd us (p : Int)) with
  | false =>
   rw [hb] at hcl
   have hcl2 : ¬ cv < 0 := of_decide_eq_false hcl
   have hz : us = zs := by have := HR2.out; rw [hb] at this; simpa using this
   have HI2 : Aside0 (OInv w0 w4 bl Al cl l (some ⟨g, 0, none⟩) c zs) := ⟨by rw [← hz]; exact HI4.out⟩
   have HZL : Aside0 (zs.length = n) := ⟨by rw [← hz]; exact HUL.out⟩
   clear hz hb
   go_wp2_with fail
   go_roundg (n - (i + 1))
   case measure => have := HJ.out; omega
   case rel => exact ⟨i + 1, by go_num, ⟨by omega, by omega⟩, ⟨zs, HZL.out, HI2.out, HR.out⟩⟩
  | true =>
   rw [hb] at hcl
   have hcl2 : cv < 0 := of_decide_eq_true hcl
   have hz : insJ l p (swapL us p j) = zs := by have := HR2.out; rw [hb] at this; simpa using this
   have HZ2 := Aside0.mk hz
   clear hz hb
   have hw1' : IntKind.i64.wrap ((j : Int) - 1) = (p : Int) := hw1
   have x0 : w4.drew.cell? ⟨g, p, none⟩ = some (.int .i64 (rd us (p : Int))) := HI4.out.at_ p (by have := HUL.out; omega)
   have x1 : w4.drew.cell? ⟨g, j, none⟩ = some (.int .i64 (rd us (j : Int))) := HI4.out.at_ j (by have := HUL.out; omega)
   have f1 : w4.drew.frozen? ⟨g, j, none⟩ = false := HI4.out.fr j (by have := HUL.out; omega)
   have HS := Aside0.mk ((HI4.out.step (below_drew (Below.refl _ _))).swap p j (by have := HUL.out; omega) (by have := HUL.out; omega) (by have := HP.out; omega))
   have f0 := HS.out.2.1
   have x2 := HS.out.2.2
   go_upto_region 6 with fail
   refine start_ (n := 18) (S := fun w' => w'.cell? ⟨g, p, none⟩ = some (.int .i64 (rd us (p : Int))) ∧ w'.cell? ⟨g, j, none⟩ = some (.int .i64 (rd us (j : Int)))) (ds := [15, 17]) #[F_,F_,F_,F_,F_,F_,F_,F_,F_,F_,F_,F_,F_,F_,F_,F_,F_,F_] (by kernel_rfl) rfl rfl ⟨x0, x1⟩ (fun hHeld => ?_); refine with_tabW insort.tab6 insort.bits6 (fun HT_ HW_ => ?_)
   generalize hW2 : w4.drew = W2 at hHeld HS x0 x1 f1 f0 x2 ⊢
   clear hW2
   refine pu (i := 0) (N := some 37) #[T_,F_,F_,F_,F_,F_,F_,F_,F_,F_,F_,F_,F_,F_,F_,F_,F_,F_] HT_ ?_
   refine pu (i := 1) (N := some 38) #[T_,T_,F_,F_,F_,F_,F_,F_,F_,F_,F_,F_,F_,F_,F_,F_,F_,F_] HT_ ?_
   refine pu (i := 2) (N := some 39) #[T_,T_,T_,F_,F_,F_,F_,F_,F_,F_,F_,F_,F_,F_,F_,F_,F_,F_] HT_ ?_
   refine pu (i := 3) (N := some 40) #[T_,T_,T_,T_,F_,F_,F_,F_,F_,F_,F_,F_,F_,F_,F_,F_,F_,F_] HT_ ?_
   refine pu (i := 4) (N := some 41) #[T_,T_,T_,T_,T_,F_,F_,F_,F_,F_,F_,F_,F_,F_,F_,F_,F_,F_] HT_ ?_
   refine pu (i := 5) (N := some 42) #[T_,T_,T_,T_,T_,T_,F_,F_,F_,F_,F_,F_,F_,F_,F_,F_,F_,F_] HT_ ?_
   refine pu (i := 6) (N := some 43) #[T_,T_,T_,T_,T_,T_,T_,F_,F_,F_,F_,F_,F_,F_,F_,F_,F_,F_] HT_ ?_
   refine pu (i := 7) (N := some 44) #[T_,T_,T_,T_,T_,T_,T_,T_,F_,F_,F_,F_,F_,F_,F_,F_,F_,F_] HT_ ?_
   refine pu (i := 8) (N := some 45) #[T_,T_,T_,T_,T_,T_,T_,T_,T_,F_,F_,F_,F_,F_,F_,F_,F_,F_] HT_ ?_
   refine pu (i := 10) (N := some 47) #[T_,T_,T_,T_,T_,T_,T_,T_,T_,F_,T_,F_,F_,F_,F_,F_,F_,F_] HT_ ?_
   refine pu (i := 11) (N := some 48) #[T_,T_,T_,T_,T_,T_,T_,T_,T_,F_,T_,T_,F_,F_,F_,F_,F_,F_] HT_ ?_
   refine pu (i := 12) (N := some 49) #[T_,T_,T_,T_,T_,T_,T_,T_,T_,F_,T_,T_,T_,F_,F_,F_,F_,F_] HT_ ?_
   refine take_ (i := 9) (N := some 46) (v := ?_) (a' := ?_) #[T_,T_,T_,T_,T_,T_,T_,T_,T_,T_,T_,T_,T_,F_,F_,F_,F_,F_] rfl rfl (take_ofW HT_.out HW_.out (by kernel_rfl)) (fun _ _ _ h => h) (Or.inl ⟨by rfl, ?_⟩) hHeld ?_ ?_
   rotate_left
   ·rintro w' ⟨s0, s1⟩
    go_simp
    with_reducible rfl
   rotate_left
   ·simp only [Act.put, sT_, s0_, sS_, i64_w, i32_w]
    rfl
   refine take_ (i := 13) (N := some 50) (v := ?_) (a' := ?_) #[T_,T_,T_,T_,T_,T_,T_,T_,T_,T_,T_,T_,T_,T_,F_,F_,F_,F_] rfl rfl (take_ofW HT_.out HW_.out (by kernel_rfl)) (fun _ _ _ h => h) (Or.inl ⟨by rfl, ?_⟩) hHeld ?_ ?_
   rotate_left
   ·rintro w' ⟨s0, s1⟩
    go_simp
    with_reducible rfl
   rotate_left
   ·simp only [Act.put, sT_, s0_, sS_, i64_w, i32_w]
    rfl
   refine pu (i := 14) (N := some 51) #[T_,T_,T_,T_,T_,T_,T_,T_,T_,T_,T_,T_,T_,T_,T_,F_,F_,F_] HT_ ?_
   refine last_ (i := 15) (N := none) #[T_,T_,T_,T_,T_,T_,T_,T_,T_,T_,T_,T_,T_,T_,T_,T_,F_,F_] rfl rfl (one_of HT_.out (by kernel_rfl)) (by decide) (fun K hK => ?_)
   refine skip_ (w1 := W2.setCell ⟨g, j, none⟩ (.int .i64 (rd us (p : Int)))) (by rfl) rfl ?_ ?_
   ·go_simp
   refine hK.out _ _ ?_
   clear hK K
   refine pu (i := 16) (N := some 52) #[T_,T_,T_,T_,T_,T_,T_,T_,T_,T_,T_,T_,T_,T_,T_,T_,T_,F_] HT_ ?_
   refine last_ (i := 17) (N := none) #[T_,T_,T_,T_,T_,T_,T_,T_,T_,T_,T_,T_,T_,T_,T_,T_,T_,T_] rfl rfl (one_of HT_.out (by kernel_rfl)) (by decide) (fun K hK => ?_)
   refine skip_ (w1 := (W2.setCell ⟨g, j, none⟩ (.int .i64 (rd us (p : Int)))).setCell ⟨g, p, none⟩ (.int .i64 (rd us (j : Int)))) (by rfl) rfl ?_ ?_
   ·go_simp
   refine hK.out _ _ ?_
   clear hK K
   refine done_ (done_of HT_.out (by kernel_rfl)) ?_
   obtain ⟨w6, hw6⟩ : ∃ w6, w6 = (W2.setCell ⟨g, j, none⟩ (.int .i64 (rd us (p : Int)))).setCell ⟨g, p, none⟩ (.int .i64 (rd us (j : Int))) := ⟨_, rfl⟩
   have HI6 : Aside0 (OInv w0 w6 bl Al cl l (some ⟨g, 0, none⟩) c (swapL us p j)) := ⟨by rw [hw6]; exact HS.out.1⟩
   rw [← hw6]
   clear hw6 HS x0 x1 f1 f0 x2
   go_wp2_with fail
   go_roundg p
   case measure => have := HJ2.out; have := HP.out; omega
   case rel => exact ⟨p, by go_num, ⟨by have := HJ2.out; have := HP.out; omega, Nat.le_refl _⟩, ⟨swapL us p j, by rw [swapL_length]; exact HUL.out, HI6.out, HZ2.out⟩⟩
set_option maxRecDepth 100000 in
set_option maxHeartbeats 4000000 in
theorem stable_calls (w0 w : World) (bl : Nat) (Al : Option Addr) (cl : Nat) (l : List S55) (hm : l.length ≤ 1048576) (A : Option Addr) (c n : Nat) (xs : List Int) (hx : xs.length = n) (hn : n < 20) (h : OInv w0 w bl Al cl l A c xs) :
  Calls Try.prog 94 #[.slice A n c, .int .i64 (n : Int), .func (.func 82) #[] #[.pointer (some ⟨bl, 0, none⟩)]] w fun e w' => e = .returned (.tuple #[]) ∧ OInv w0 w' bl Al cl l A c (insFrom l (n - 1) 1 xs) := by
 have HI := Aside0.mk h
 have HX := Aside0.mk hx
 clear h hx
 have d1 : decide (20 ≤ n) = false := decide_eq_false (by omega)
 have d2 : decide (20 < n) = false := decide_eq_false (by omega)
 have d3 : decide ((20 : Int) ≤ (n : Int)) = false := decide_eq_false (by omega)
 have d4 : decide ((20 : Int) < (n : Int)) = false := decide_eq_false (by omega)
 go_enter Try.func94, Try.ntmps94
 go_wp2_with fail
 refine wp_loop_rounds 1 ?_
 rw [rounds_succ]
 go_wp2_with (go_at_call 100; refine (insort_calls w0 w bl Al cl l hm A c n xs HX.out (by omega) HI.out).mono ?_; rintro e w1 ⟨rfl, hi⟩; have HI1 := Aside0.mk hi; clear hi)
 refine wp_loop_rounds 1 ?_
 rw [rounds_succ]
 go_wp2_with fail
 first | go_end0 | refine bodyPost_ret (results_none rfl _ _ _) rfl ?_
 exact ⟨rfl, HI1.out⟩
set_option maxRecDepth 100000 in
set_option maxHeartbeats 4000000 in
theorem sortStable_calls (w0 w : World) (bl : Nat) (Al : Option Addr) (cl : Nat) (l : List S55) (hm : l.length ≤ 1048576) (A : Option Addr) (c n : Nat) (xs : List Int) (hx : xs.length = n) (hn : n < 20) (h : OInv w0 w bl Al cl l A c xs) :
  Calls Try.prog 81 #[.slice A n c, .func (.func 82) #[] #[.pointer (some ⟨bl, 0, none⟩)]] w fun e w' => e = .returned (.tuple #[]) ∧ OInv w0 w' bl Al cl l A c (insFrom l (n - 1) 1 xs) := by
 have HI := Aside0.mk h
 have HX := Aside0.mk hx
 clear h hx
 go_enter Try.func81, Try.ntmps81
 go_wp2_with (go_at_call 94; refine (stable_calls w0 w bl Al cl l hm A c n xs HX.out hn HI.out).mono ?_; rintro e w1 ⟨rfl, hi⟩; have HI1 := Aside0.mk hi; clear hi)
 first | go_end0 | refine bodyPost_ret (results_none rfl _ _ _) rfl ?_
 exact ⟨rfl, HI1.out⟩
theorem info2d : (Try.prog.info? 2).map (fun i => (i.zero, i.size, i.bytes)) = some (some (.int .i64 0), 1, 8) := by kernel_rfl
/-- The numbers below n. -/
def iotaL (n : Nat) : List Int := (List.range n).map fun (i : Nat) => (i : Int)
theorem iotaL_length (n : Nat) : (iotaL n).length = n := by simp [iotaL]
theorem iotaL_succ (n : Nat) : iotaL (n + 1) = iotaL n ++ [(n : Int)] := by simp [iotaL, List.range_succ]
theorem iotaL_rd (n i : Nat) (h : i < n) : rd (iotaL n) (i : Int) = i := by
 unfold rd iotaL
 rw [Int.toNat_natCast, List.getD_eq_getElem?_getD, List.getElem?_map, List.getElem?_range h]
 rfl
def impl_OrderByDue.f (k : Nat) (l0 : List S55) : Option (List Int × Int) := (impl_ValidRenewals.f k l0).bind fun b => if b = true then (if l0.length ≤ 7 then some (insFrom l0 (l0.length - 1) 1 (iotaL l0.length), 0) else none) else some ([], 1)
theorem insFrom_length (l : List S55) : ∀ (m i : Nat) (xs : List Int), (∀ j ys, (insJ l j ys).length = ys.length) → (insFrom l m i xs).length = xs.length := by
 intro m
 induction m with
 | zero => intro i xs _; rfl
 | succ m ih => intro i xs h; rw [insFrom, ih _ _ h, h]
theorem insJ_length (l : List S55) : ∀ (j : Nat) (xs : List Int), (insJ l j xs).length = xs.length := by
 intro j
 induction j with
 | zero => intro xs; rfl
 | succ j ih =>
  intro xs
  rw [insJ]
  split
  ·rw [ih, swapL_length]
  ·rfl
set_option maxRecDepth 100000 in
set_option maxHeartbeats 4000000 in
theorem impl_OrderByDue.calls (k : Nat) (A0 : Option Addr) (c0 : Nat) (l0 : List S55) (r1 : List Int) (r2 : Int) (w : World) (hr0 : Kd.C k55 w A0 l0.length l0) (hc0 : l0.length ≤ c0) (h : impl_OrderByDue.f k l0 = some (r1, r2)) :
  Calls Try.prog 45 #[.slice A0 l0.length c0] w fun e w' => ∃ v0_ : Value, e = .returned (.tuple #[v0_, .int .i64 r2]) ∧ Kd.R (Kd.int .i64) 2 w' w.heap.size (fun _ => True) v0_ r1 ∧ Below w.heap.size w w' := by
 unfold impl_OrderByDue.f at h
 have HR0 := Aside0.mk hr0
 have HC0 := Aside0.mk hc0
 clear hr0 hc0
 replace h := Option.bind_eq_some_iff.mp h
 obtain ⟨b, hv, h⟩ := h
 have HV := Aside0.mk hv
 clear hv
 cases b with
 | false =>
  rw [if_neg (by decide)] at h
  simp only [Option.some.injEq, Prod.mk.injEq] at h
  obtain ⟨rfl, rfl⟩ := h
  go_enter Try.func45, Try.ntmps45
  go_wp2_with (first
    | ((with_reducible refine gate_dst (N := 1) rfl ?_); refine hand_box (fun g_ W_ => Below w.heap.size w W_ ∧ W_.heap[g_]? = some (.cells #[.slice A0 l0.length c0] 31 (0, 0))) ?hg (N := 1) ?hd (cs := #[.slice A0 l0.length c0]) (t := 31) ?hr ?hF ?_; (case hd => rfl); (case hg => rfl); (case hr => first | (go_simp; done) | (go_simp; rfl)); (case hF => exact ⟨below_alloc (Below.refl _ _) _, heap_alloc_new _ _⟩); intro bl w1 hh; have c1 : w1.cell? ⟨bl, 0, none⟩ = some (.slice A0 l0.length c0) := (blk_cell hh.2 0).trans rfl; have H1 := Aside0.mk hh; clear hh)
    | (go_at_call 23; refine (impl_ValidRenewals.calls k A0 c0 l0 false w1 (Kd.C_below HR0.out H1.out.1) HC0.out HV.out).mono ?_; rintro e w3 ⟨rfl, hb⟩; have H3 := Aside0.mk (below_then H1.out.1 H1.out.1.size hb); clear hb))
  go_ret2
  exact ⟨_, rfl, Kd.R_nil _ _ _ _ _, H3.out⟩
 | true =>
  rw [if_pos rfl] at h
  by_cases hn : l0.length ≤ 7
  ·rw [if_pos hn] at h
   obtain ⟨st, hst⟩ : ∃ st, st = insFrom l0 (l0.length - 1) 1 (iotaL l0.length) := ⟨_, rfl⟩
   rw [← hst] at h
   simp only [Option.some.injEq, Prod.mk.injEq] at h
   obtain ⟨rfl, rfl⟩ := h
   have HST := Aside0.mk hst
   clear hst
   go_enter Try.func45, Try.ntmps45
   have hmf : ∀ (fn : Fn) (first cap : Array Value) (w : World), (Instr.makeFunc fn first cap).run Try.prog w = .ok (.func fn first cap) w := fun _ _ _ _ => rfl
   go_wp2_with (first
    | ((with_reducible refine gate_dst (N := 1) rfl ?_); refine hand_box (fun g_ W_ => Below w.heap.size w W_ ∧ W_.heap[g_]? = some (.cells #[.slice A0 l0.length c0] 31 (0, 0))) ?hg (N := 1) ?hd (cs := #[.slice A0 l0.length c0]) (t := 31) ?hr ?hF ?_; (case hd => rfl); (case hg => rfl); (case hr => first | (go_simp; done) | (go_simp; rfl)); (case hF => exact ⟨below_alloc (Below.refl _ _) _, heap_alloc_new _ _⟩); intro bl w1 hh; have c1 : w1.cell? ⟨bl, 0, none⟩ = some (.slice A0 l0.length c0) := (blk_cell hh.2 0).trans rfl; have H1 := Aside0.mk hh; clear hh)
    | (go_at_call 23; refine (impl_ValidRenewals.calls k A0 c0 l0 true w1 (Kd.C_below HR0.out H1.out.1) HC0.out HV.out).mono ?_; rintro e w3 ⟨rfl, hb⟩; have H3 := Aside0.mk (⟨below_then H1.out.1 H1.out.1.size hb, (hb.block _ (blk_lt H1.out.2)).trans H1.out.2⟩ : Below w.heap.size w w3 ∧ w3.heap[bl]? = some (.cells #[.slice A0 l0.length c0] 31 (0, 0))); clear hb H1 c1)
    | ((with_reducible refine gate_dst (N := 9) rfl ?_); refine Kd.R_lit (Kd.int .i64) w.heap.size 2 ?hg3 (w0 := w) (N := 9) ?hd3 (xs := ([] : List Int)) (inner := []) (ok := fun _ => True) (okp := fun _ => True) ?hr3 ?hp3 (fun _ hk => hk) trivial H3.out.1 H3.out.1.size (by simp) ?_; (case hd3 => rfl); (case hg3 => rfl); (case hr3 => first | (go_simp; done) | (go_simp; rfl)); (case hp3 => exact (Reps.none _ _)); intro v_ w5 hr_ _ hg hat; have hr := nums_of_R hr_; clear hr_; obtain ⟨A5, n5, e5⟩ := own_slice hr; subst e5; have hbB : Below w3.heap.size w3 w5 := ⟨hg.os, hg.tape, hg.output, hg.size, fun k hk => hg.block k hk (by simp)⟩; have HO5 := Aside0.mk (show w5.ownsRow w.heap.size 2 1 (.slice A5 0 n5) (iotaL 0).length (nums .i64 (iotaL 0)) from hr); have H5 := Aside0.mk (⟨below_then H3.out.1 H3.out.1.size hbB, (hbB.block _ (blk_lt H3.out.2)).trans H3.out.2⟩ : Below w.heap.size w w5 ∧ w5.heap[bl]? = some (.cells #[.slice A0 l0.length c0] 31 (0, 0))); clear hr hbB hg hat H3; have c5 : w5.cell? ⟨bl, 0, none⟩ = some (.slice A0 l0.length c0) := (blk_cell H5.out.2 0).trans rfl))
   clear c5
   go_loopg [4, 12] l0.length (fun gg v4 v12 wr => ∃ (i : Nat) (A : Option Addr) (c : Nat), v12 = .int .i64 (i : Int) ∧ v4 = .slice A i c ∧ Aside0 (i ≤ l0.length ∧ l0.length - i ≤ gg) ∧ Aside0 (wr.ownsRow w.heap.size 2 1 (.slice A i c) (iotaL i).length (nums .i64 (iotaL i))) ∧ Aside0 (Below w.heap.size w wr ∧ wr.heap[bl]? = some (.cells #[.slice A0 l0.length c0] 31 (0, 0))))
   case atStart => exact ⟨0, A5, n5, rfl, rfl, ⟨Nat.zero_le _, Nat.le_refl _⟩, HO5, H5⟩
   case round =>
   obtain ⟨i, A, c, rfl, rfl, HJ, HO, HH⟩ := hrel
   clear HO5 H5
   by_cases hlt : i < l0.length
   ·have hltb : decide (i < l0.length) = true := decide_eq_true hlt
    go_wp2_with (at_builtin; refine print_append_num (w0 := w) w.heap.size rfl (.tmp 15) (.tmp 17) 37 2 .i64 8 rfl Try.underlying37 info2d (by decide) (.slice A i c) (iotaL i) (i : Int) rfl rfl HO.out HH.out.1 HH.out.1.size (by rw [iotaL_length]; omega) ?_; intro v3 w3 hown hbel hgr hat; rw [← iotaL_succ] at hown; obtain ⟨A3, n3, e3⟩ := own_slice hown; rw [e3]; rw [e3] at hown; rw [iotaL_length] at hown; have HO3 := Aside0.mk (show w3.ownsRow w.heap.size 2 1 (.slice A3 (i + 1) n3) (iotaL (i + 1)).length (nums .i64 (iotaL (i + 1))) by rw [iotaL_length]; exact hown); have HH3 := Aside0.mk (⟨hbel, (KeepP.of_grown hgr).blk HH.out.2 (own_ne HO.out HH.out.2 (by decide))⟩ : Below w.heap.size w w3 ∧ w3.heap[bl]? = some (.cells #[.slice A0 l0.length c0] 31 (0, 0))); rw [iotaL_length]; clear hown hbel hgr hat e3 HO HH)
    go_roundg (l0.length - (i + 1))
    case measure => have := HJ.out; omega
    case rel => exact ⟨i + 1, A3, n3, by go_num, rfl, ⟨by omega, by omega⟩, HO3, HH3⟩
   ·have hltb : decide (i < l0.length) = false := decide_eq_false hlt
    have hi : i = l0.length := by have := HJ.out; omega
    subst hi
    have HI : Aside0 (OInv w wr bl A0 c0 l0 A c (iotaL l0.length)) := ⟨⟨HH.out.2, by have := HO.out; rwa [iotaL_length] at this ⊢, HR0.out, HH.out.1, fun j hj => by rw [iotaL_length] at hj; rw [iotaL_rd _ _ hj]; omega⟩⟩
    have hlen : Aside0 (st.length = l0.length) := ⟨by rw [HST.out, insFrom_length l0 _ _ _ (insJ_length l0), iotaL_length]⟩
    clear HO HH
    go_wp2_with (go_at_call 81; refine (sortStable_calls w wr bl A0 c0 l0 (by omega) A c l0.length (iotaL l0.length) (iotaL_length _) (by omega) HI.out).mono ?_; rintro e w6 ⟨rfl, hi6⟩; rw [← HST.out] at hi6; have HI6 := Aside0.mk hi6; clear hi6 HI)
    go_ret2
    refine ⟨_, rfl, R_of_nums ?_, HI6.out.below⟩
    have := HI6.out.row
    rw [hlen.out] at this ⊢
    exact this
  ·rw [if_neg hn] at h
   exact absurd h (by simp)


end Go.Proofs.Ytkegmjebkikniaa.P
end
