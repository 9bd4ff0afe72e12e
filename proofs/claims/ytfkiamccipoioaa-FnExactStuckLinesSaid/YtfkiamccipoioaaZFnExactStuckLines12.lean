/- Texts of this claim, packed: Px24. -/
import Derived.Test.YtfkiamccipoioaaZFnExactStuckLines11
section
-- Written by gprint.py (own program, over the printer of the kit) out of the translation. Lean checks it.
namespace Go.Proofs.Ytfkiamccipoioaa.P
open Go.RowKit Go.Proofs.YtfkiamccipoioaaW.PrintWords Go.Proofs.YtfkiamccipoioaaW.PrintLast Go.Proofs.YtfkiamccipoioaaW.PrintMore Go.Proofs.YtfkiamccipoioaaW.Pk
open Bool renaming true → T_, false → F_
open List renaming setIfInBounds_toArray → sT_, set_cons_zero → s0_, set_cons_succ → sS_
attribute [local go_sem] max2_int min2_int max_two min_two max_three min_three max_four min_four   -- for this text's walks alone
set_option linter.unusedVariables false
set_option linter.unusedSimpArgs false

/-! ### spec_l20Number: function 78 -/
def spec_l20Number.l0 : Nat → ByteArray → Int → Int → Option (Int)
 | 0, _, _, _ => none
 | k + 1, x0, x3, x4 => if x4 < (x0.size : Int) then (if 0 ≤ x4 then (if (bt x0 x4) = 70 then (spec_l20Number.l0 k x0 (wrap64 ((wrap64 (x3 * 2)) + 1)) (wrap64 (x4 + 1))) else (spec_l20Number.l0 k x0 (wrap64 (x3 * 2)) (wrap64 (x4 + 1)))) else (none)) else (some x3)
def spec_l20Number.f (k : Nat) (a0 : ByteArray) : Option (Int) := spec_l20Number.l0 k a0 0 0
set_option maxHeartbeats 8000000 in
set_option maxRecDepth 100000 in
theorem spec_l20Number.calls (k : Nat) (a0 : ByteArray) (r : Int) (w : World) (h : spec_l20Number.f k a0 = some r) :
  Calls Try.prog 78 #[.string a0] w fun e w' => e = .returned (.int .i64 r) ∧ Drawn0 w w' := by
 have H : (spec_l20Number.l0 k a0 0 0) = some r := h
 clear h
 have H' := Aside0.mk H
 clear H
 go_enter Try.func78, Try.ntmps78
 go_wp2
 go_loopg [3, 4] k (fun kq v3 v4 w' => ∃ (x3_1 : Int) (x4_1 : Int), v3 = .int .i64 x3_1 ∧ v4 = .int .i64 x4_1 ∧ Aside0 (spec_l20Number.l0 kq a0 x3_1 x4_1 = some r) ∧ Aside0 (kq ≤ k) ∧ Drawn0 w w')
 case atStart => exact ⟨(0), (0), (by first | rfl | (simp; done) | (simp [*]; done)), (by first | rfl | (simp; done) | (simp [*]; done)), H', ⟨Nat.le_refl _⟩, by repeat (first | exact Drawn0.refl _ | apply Drawn0.step)⟩
 case round =>
  clear H'
  obtain ⟨x3_1, x4_1, rfl, rfl, HA, HK1, ⟨m1, rfl⟩⟩ := hrel
  cases gk with
  | zero => exact absurd HA.out (by simp [spec_l20Number.l0])
  | succ k1 =>
   have H := HA.out
   clear HA
   simp only [spec_l20Number.l0] at H
   by_cases c2 : x4_1 < (a0.size : Int)
   ·rw [if_pos c2] at H
    have c2b0 : decide (x4_1 < (a0.size : Int)) = true := decide_eq_true c2
    clear c2
    by_cases c3 : 0 ≤ x4_1
    ·rw [if_pos c3] at H
     have c3b0 : decide (0 ≤ x4_1) = true := decide_eq_true c3
     clear c3
     by_cases c5 : (bt a0 x4_1) = 70
     ·rw [if_pos c5] at H
      have c5b0 : ((bt a0 x4_1) == 70) = true := beq_iff_eq.mpr c5
      have c5b1 : ((bt a0 x4_1) != 70) = false := bne_eq_false_iff_eq.mpr c5
      clear c5
      have H' := Aside0.mk H
      clear H
      have p4 : 0 ≤ (x4_1 : Int) := od_
      have q4 : x4_1 < (a0.size : Int) := od_
      have hx4 := bt_at a0 x4_1
      replace p4 := eq_true p4
      replace q4 := eq_true q4
      go_wp2
      go_roundg k1
      case measure => have := HK1.out; omega
      case rel => exact ⟨(wrap64 ((wrap64 (x3_1 * 2)) + 1)), (wrap64 (x4_1 + 1)), (by first | rfl | (simp; done) | (simp [*]; done)), (by first | rfl | (simp; done) | (simp [*]; done)), H', ⟨by have := HK1.out; omega⟩, by repeat (first | exact Drawn0.refl _ | apply Drawn0.step)⟩
     ·rw [if_neg c5] at H
      have c5b0 : ((bt a0 x4_1) == 70) = false := beq_eq_false_iff_ne.mpr c5
      have c5b1 : ((bt a0 x4_1) != 70) = true := bne_iff_ne.mpr c5
      have H' := Aside0.mk H
      clear H
      have p4 : 0 ≤ (x4_1 : Int) := od_
      have q4 : x4_1 < (a0.size : Int) := od_
      have hx4 := bt_at a0 x4_1
      replace p4 := eq_true p4
      replace q4 := eq_true q4
      go_wp2
      go_roundg k1
      case measure => have := HK1.out; omega
      case rel => exact ⟨(wrap64 (x3_1 * 2)), (wrap64 (x4_1 + 1)), (by first | rfl | (simp; done) | (simp [*]; done)), (by first | rfl | (simp; done) | (simp [*]; done)), H', ⟨by have := HK1.out; omega⟩, by repeat (first | exact Drawn0.refl _ | apply Drawn0.step)⟩
    ·rw [if_neg c3] at H
     exact absurd H (by simp)
   ·rw [if_neg c2] at H
    have c2b0 : decide (x4_1 < (a0.size : Int)) = false := decide_eq_false c2
    clear c2
    obtain rfl := Option.some.inj H
    go_wp2
    go_ret
    exact ⟨by first | rfl | (simp; done) | (simp [*]; done), by repeat (first | exact Drawn0.refl _ | apply Drawn0.step)⟩

/-! ### spec_l20All: function 68 -/
mutual
def spec_l20All.l0 : Nat → List ByteArray → List Int → List Int → List Bool → Int → List Int → List (List Int) → Option (List ByteArray × List Int × List Int)
 | 0, _, _, _, _, _, _, _ => none
 | k + 1, x7, x8, x9, x10, x11, x1000, x1001 => if x11 < (x7.length : Int) then (if 0 ≤ x11 then ((spec_l20Changes.f k x1000 x1001 (rdOf ByteArray.empty x7 x11)).bind fun t528 => (spec_l20All.l1 k x7 x8 x9 x10 x11 t528 0 x1000 x1001)) else (none)) else (some (x7, x8, x9))
def spec_l20All.l1 : Nat → List ByteArray → List Int → List Int → List Bool → Int → List Int → Int → List Int → List (List Int) → Option (List ByteArray × List Int × List Int)
 | 0, _, _, _, _, _, _, _, _, _ => none
 | k + 1, x7, x8, x9, x10, x11, x12, x13, x1000, x1001 => if x13 < (x12.length : Int) then (if 0 ≤ x11 then (if x11 < (x7.length : Int) then (if 0 ≤ x13 then ((spec_l20Change.f k x1000 x1001 (rdOf ByteArray.empty x7 x11) (rd x12 x13)).bind fun bt533 => ((spec_l20Number.f k bt533.1).bind fun t535 => (if 0 ≤ t535 then (if t535 < (x10.length : Int) then (if rdOf false x10 t535 = true then (spec_l20All.l1 k x7 x8 x9 x10 x11 x12 (wrap64 (x13 + 1)) x1000 x1001) else ((spec_l20Number.f k bt533.1).bind fun t537 => (if 0 ≤ t537 then (if t537 < (x10.length : Int) then (if x7.length < 8796093022208 then (if x8.length < 17592186044416 then (if x9.length < 17592186044416 then (spec_l20All.l1 k (x7 ++ [bt533.1]) (x8 ++ [x11]) (x9 ++ [rd x12 x13]) (x10.set (t537 : Int).toNat true) x11 x12 (wrap64 (x13 + 1)) x1000 x1001) else (none)) else (none)) else (none)) else (none)) else (none)))) else (none)) else (none)))) else (none)) else (none)) else (none)) else (spec_l20All.l0 k x7 x8 x9 x10 (wrap64 (x11 + 1)) x1000 x1001)
end
def spec_l20All.f (k : Nat) (s0_0 : List Int) (s0_1 : List (List Int)) (a1 : ByteArray) : Option (List ByteArray × List Int × List Int) := if 256 ≤ 281474976710656 then ((some (List.replicate 256 false : List Bool)).bind fun y522 => ((spec_l20Number.f k a1).bind fun t525 => (if 0 ≤ t525 then (if t525 < (y522.length : Int) then (spec_l20All.l0 k (([a1] : List ByteArray)) (([(-1)] : List Int)) (([(-1)] : List Int)) (y522.set (t525 : Int).toNat true) 0 s0_0 s0_1) else (none)) else (none)))) else (none)
def spec_l20All.T13 : Bool × List (List Nat × List Nat) := (true, [([], []), ([], []), ([], []), ([1, 2], [1, 2]), ([3], [3]), ([], []), ([], []), ([5, 6], [5, 6]), ([7], [7]), ([0, 4, 8], [0, 4, 8]), ([9], [9]), ([10], [10]), ([10], [10]), ([11, 9, 0, 1, 2, 3, 4, 5, 6, 7, 8, 9, 10, 11], [11]), ([12, 13, 0, 1, 2, 3, 4, 5, 6, 7, 8, 9, 10, 11, 12, 13], [12])])
def spec_l20All.B13 : List Nat := [0, 0, 0, 6, 14, 0, 0, 96, 224, 511, 1023, 2047, 2047, 4095, 16383]
theorem spec_l20All.tab13 : rtab .any (opsOf Try.f68 13) = spec_l20All.T13 := by kernel_rfl
theorem spec_l20All.bits13 : waitsOk spec_l20All.T13.2 spec_l20All.B13 = true := by kernel_rfl
set_option maxHeartbeats 8000000 in
set_option maxRecDepth 100000 in
theorem spec_l20All.calls (k : Nat) (g : Nat) (s0_0 : List Int) (s0_1 : List (List Int)) (a1 : ByteArray) (r1 : List ByteArray) (r2 : List Int) (r3 : List Int) (w0 w : World) (hI : IsS28 w0 w g s0_0 s0_1) (hB : Below w0.heap.size w0 w) (h : spec_l20All.f k s0_0 s0_1 a1 = some (r1, r2, r3)) :
  Calls Try.prog 68 #[.pointer (some ⟨g, 0, none⟩), .string a1] w fun e w' => ∃ v0_ v1_ v2_ : Value, e = .returned (.tuple #[v0_, v1_, v2_]) ∧ Kd.R Kd.string 9 w' w.heap.size (fun _ => True) v0_ r1 ∧ Kd.R (Kd.int .i64) 3 w' w.heap.size (fun _ => True) v1_ r2 ∧ Kd.R (Kd.int .i64) 2 w' w.heap.size (fun _ => True) v2_ r3 ∧ IsS28 w0 w' g s0_0 s0_1 ∧ Below w0.heap.size w0 w' ∧ KeepBut w w' g none := by
 have HI0 := Aside0.mk hI
 have HK := Aside0.mk (KeepBut.refl w g none)
 have HL := Aside0.mk hB.size
 clear hI
 have HW0 := Aside0.mk hB.size
 have HB := Aside0.mk hB
 clear hB
 have H : (if 256 ≤ 281474976710656 then ((some (List.replicate 256 false : List Bool)).bind fun y522 => ((spec_l20Number.f k a1).bind fun t525 => (if 0 ≤ t525 then (if t525 < (y522.length : Int) then (spec_l20All.l0 k (([a1] : List ByteArray)) (([(-1)] : List Int)) (([(-1)] : List Int)) (y522.set (t525 : Int).toNat true) 0 s0_0 s0_1) else (none)) else (none)))) else (none)) = some (r1, r2, r3) := h
 clear h
 obtain ⟨y513, hy513⟩ : ∃ y_ : List ByteArray, y_ = (([a1] : List ByteArray)) := ⟨_, rfl⟩
 replace H : (if 256 ≤ 281474976710656 then ((some (List.replicate 256 false : List Bool)).bind fun y522 => ((spec_l20Number.f k a1).bind fun t525 => (if 0 ≤ t525 then (if t525 < (y522.length : Int) then (spec_l20All.l0 k y513 (([(-1)] : List Int)) (([(-1)] : List Int)) (y522.set (t525 : Int).toNat true) 0 s0_0 s0_1) else (none)) else (none)))) else (none)) = some (r1, r2, r3) := by first | (rw [hy513]; with_reducible exact H) | (have H2_ := (Option.bind_some _ _).symm.trans H; rw [hy513]; with_reducible exact H2_) | (have H2_ := (Option.bind_some _ _).symm.trans H; with_reducible exact H2_) | with_reducible exact H | (rw [hy513]; exact H) | exact H
 have Ny513 := Aside0.mk hy513
 clear hy513
 obtain ⟨y516, hy516⟩ : ∃ y_ : List Int, y_ = (([(-1)] : List Int)) := ⟨_, rfl⟩
 replace H : (if 256 ≤ 281474976710656 then ((some (List.replicate 256 false : List Bool)).bind fun y522 => ((spec_l20Number.f k a1).bind fun t525 => (if 0 ≤ t525 then (if t525 < (y522.length : Int) then (spec_l20All.l0 k y513 y516 (([(-1)] : List Int)) (y522.set (t525 : Int).toNat true) 0 s0_0 s0_1) else (none)) else (none)))) else (none)) = some (r1, r2, r3) := by first | (rw [hy516]; with_reducible exact H) | (have H2_ := (Option.bind_some _ _).symm.trans H; rw [hy516]; with_reducible exact H2_) | (have H2_ := (Option.bind_some _ _).symm.trans H; with_reducible exact H2_) | with_reducible exact H | (rw [hy516]; exact H) | exact H
 have Ny516 := Aside0.mk hy516
 clear hy516
 obtain ⟨y519, hy519⟩ : ∃ y_ : List Int, y_ = (([(-1)] : List Int)) := ⟨_, rfl⟩
 replace H : (if 256 ≤ 281474976710656 then ((some (List.replicate 256 false : List Bool)).bind fun y522 => ((spec_l20Number.f k a1).bind fun t525 => (if 0 ≤ t525 then (if t525 < (y522.length : Int) then (spec_l20All.l0 k y513 y516 y519 (y522.set (t525 : Int).toNat true) 0 s0_0 s0_1) else (none)) else (none)))) else (none)) = some (r1, r2, r3) := by first | (rw [hy519]; with_reducible exact H) | (have H2_ := (Option.bind_some _ _).symm.trans H; rw [hy519]; with_reducible exact H2_) | (have H2_ := (Option.bind_some _ _).symm.trans H; with_reducible exact H2_) | with_reducible exact H | (rw [hy519]; exact H) | exact H
 have Ny519 := Aside0.mk hy519
 clear hy519
 by_cases c3 : 256 ≤ 281474976710656
 ·rw [if_pos c3] at H
  have c3b0 := eq_true c3
  have c3b1 : decide (256 ≤ 281474976710656) = true := decide_eq_true c3
  clear c3
  obtain ⟨y522, hy522⟩ : ∃ y_ : List Bool, y_ = (List.replicate 256 false) := ⟨_, rfl⟩
  replace H : ((spec_l20Number.f k a1).bind fun t525 => (if 0 ≤ t525 then (if t525 < (y522.length : Int) then (spec_l20All.l0 k y513 y516 y519 (y522.set (t525 : Int).toNat true) 0 s0_0 s0_1) else (none)) else (none))) = some (r1, r2, r3) := by first | (rw [hy522]; with_reducible exact H) | (have H2_ := (Option.bind_some _ _).symm.trans H; rw [hy522]; with_reducible exact H2_) | (have H2_ := (Option.bind_some _ _).symm.trans H; with_reducible exact H2_) | with_reducible exact H | (rw [hy522]; exact H) | exact H
  have Ny522 := Aside0.mk hy522
  clear hy522
  replace H := Option.bind_eq_some_iff.mp H
  obtain ⟨t525, A40, H⟩ := H
  replace H : (if 0 ≤ t525 then (if t525 < (y522.length : Int) then (spec_l20All.l0 k y513 y516 y519 (y522.set (t525 : Int).toNat true) 0 s0_0 s0_1) else (none)) else (none)) = some (r1, r2, r3) := H
  have A4 := Aside0.mk A40
  clear A40
  by_cases c5 : 0 ≤ t525
  ·rw [if_pos c5] at H
   have c5b0 : decide (0 ≤ t525) = true := decide_eq_true c5
   clear c5
   by_cases c6 : t525 < (y522.length : Int)
   ·rw [if_pos c6] at H
    have c6b0 : decide (t525 < (y522.length : Int)) = true := decide_eq_true c6
    clear c6
    obtain ⟨y526, hy526⟩ : ∃ y_ : List Bool, y_ = (y522.set (t525 : Int).toNat true) := ⟨_, rfl⟩
    replace H : (spec_l20All.l0 k y513 y516 y519 y526 0 s0_0 s0_1) = some (r1, r2, r3) := by first | (rw [hy526]; with_reducible exact H) | (have H2_ := (Option.bind_some _ _).symm.trans H; rw [hy526]; with_reducible exact H2_) | (have H2_ := (Option.bind_some _ _).symm.trans H; with_reducible exact H2_) | with_reducible exact H | (rw [hy526]; exact H) | exact H
    have Ny526 := Aside0.mk hy526
    clear hy526
    have H' := Aside0.mk H
    clear H
    go_enter Try.func68, Try.ntmps68
    go_wp2_with (first | ((with_reducible refine gate_dst (N := 17) rfl ?_); refine Kd.R_lit Kd.string _ 9 ?hg (N := 17) ?hd (xs := ([a1] : List ByteArray)) (inner := [.string a1]) (ok := fun _ => True) (okp := fun _ => True) ?hr ?hp (fun _ hk => hk) trivial (Below.refl _ _) (Nat.le_refl _) (by simp) ?_; (case hd => rfl); (case hg => rfl); (case hr => first | (go_simp; done) | (go_simp; rfl)); (case hp => exact (Reps.one (show Kd.M Kd.string _ _ _ a1 [.string a1] from rfl) (Reps.none _ _))); intro v514 w8 ho9 hb hg_ hnew_; clear hg_ hnew_; (first | rw [← Ny513.out] at ho9 | (simp only [Int.reduceToNat] at ho9; rw [← Ny513.out] at ho9)); have n0_ := Aside0.mk (Kd.R_lower ho9 (keep_size (w := w) (g := g) (row := none) (by repeat (first | (with_reducible first | exact HK.out | apply KeepBut.set_ | apply keep_drewN | apply keep_drew | apply keep_alloc) | exact HK.out)))); have n1_ := Aside0.mk (IsS28.below (by repeat (first | (with_reducible first | exact HI0.out | apply IsS28.alloc | apply IsS28.drewN | apply IsS28.drew) | exact HI0.out)) hb); have n2_ := Aside0.mk (KeepBut.trans (by repeat (first | (with_reducible first | exact HK.out | apply KeepBut.set_ | apply keep_drewN | apply keep_drew | apply keep_alloc) | exact HK.out)) (KeepBut.of_below hb g none) (.inl rfl)); have n3_ := Aside0.mk (below_step (by repeat (first | (with_reducible first | exact HB.out | apply below_alloc | apply pw_below_drewN | apply below_drew1 | refine below_set ?_ (IsS28.ge HI0.out)) | exact HB.out)) hb); clear HI0; clear HK; clear HB; have HO515 := n0_; have HI0 := n1_; have HK := n2_; have HB := n3_; clear n0_ n1_ n2_ n3_; clear hb ho9) | ((with_reducible refine gate_dst (N := 18) rfl ?_); refine Kd.R_lit (Kd.int .i64) _ 3 ?hg (N := 18) ?hd (xs := ([(-1)] : List Int)) (inner := [.int .i64 (-1)]) (ok := fun _ => True) (okp := fun _ => True) ?hr ?hp (fun _ hk => hk) trivial (Below.refl _ _) (Nat.le_refl _) (by simp) ?_; (case hd => rfl); (case hg => rfl); (case hr => first | (go_simp; done) | (go_simp; rfl)); (case hp => exact (Reps.one (show Kd.M (Kd.int .i64) _ _ _ (-1) [.int .i64 (-1)] from rfl) (Reps.none _ _))); intro v517 w10 ho11 hb hg_ hnew_; clear hg_ hnew_; (first | rw [← Ny516.out] at ho11 | (simp only [Int.reduceToNat] at ho11; rw [← Ny516.out] at ho11)); have n0_ := Aside0.mk (Kd.R_below (kr_ HO515) hb); have n1_ := Aside0.mk (Kd.R_lower ho11 (keep_size (w := w) (g := g) (row := none) (by repeat (first | (with_reducible first | exact HK.out | apply KeepBut.set_ | apply keep_drewN | apply keep_drew | apply keep_alloc) | exact HK.out)))); have n2_ := Aside0.mk (IsS28.below (by repeat (first | (with_reducible first | exact HI0.out | apply IsS28.alloc | apply IsS28.drewN | apply IsS28.drew) | exact HI0.out)) hb); have n3_ := Aside0.mk (KeepBut.trans (by repeat (first | (with_reducible first | exact HK.out | apply KeepBut.set_ | apply keep_drewN | apply keep_drew | apply keep_alloc) | exact HK.out)) (KeepBut.of_below hb g none) (.inl rfl)); have n4_ := Aside0.mk (below_step (by repeat (first | (with_reducible first | exact HB.out | apply below_alloc | apply pw_below_drewN | apply below_drew1 | refine below_set ?_ (IsS28.ge HI0.out)) | exact HB.out)) hb); clear HO515; clear HI0; clear HK; clear HB; have HO515 := n0_; have HO518 := n1_; have HI0 := n2_; have HK := n3_; have HB := n4_; clear n0_ n1_ n2_ n3_ n4_; clear hb ho11) | ((with_reducible refine gate_dst (N := 19) rfl ?_); refine Kd.R_lit (Kd.int .i64) _ 2 ?hg (N := 19) ?hd (xs := ([(-1)] : List Int)) (inner := [.int .i64 (-1)]) (ok := fun _ => True) (okp := fun _ => True) ?hr ?hp (fun _ hk => hk) trivial (Below.refl _ _) (Nat.le_refl _) (by simp) ?_; (case hd => rfl); (case hg => rfl); (case hr => first | (go_simp; done) | (go_simp; rfl)); (case hp => exact (Reps.one (show Kd.M (Kd.int .i64) _ _ _ (-1) [.int .i64 (-1)] from rfl) (Reps.none _ _))); intro v520 w12 ho13 hb hg_ hnew_; clear hg_ hnew_; (first | rw [← Ny519.out] at ho13 | (simp only [Int.reduceToNat] at ho13; rw [← Ny519.out] at ho13)); have n0_ := Aside0.mk (Kd.R_below (kr_ HO515) hb); have n1_ := Aside0.mk (Kd.R_below (kr_ HO518) hb); have n2_ := Aside0.mk (Kd.R_lower ho13 (keep_size (w := w) (g := g) (row := none) (by repeat (first | (with_reducible first | exact HK.out | apply KeepBut.set_ | apply keep_drewN | apply keep_drew | apply keep_alloc) | exact HK.out)))); have n3_ := Aside0.mk (IsS28.below (by repeat (first | (with_reducible first | exact HI0.out | apply IsS28.alloc | apply IsS28.drewN | apply IsS28.drew) | exact HI0.out)) hb); have n4_ := Aside0.mk (KeepBut.trans (by repeat (first | (with_reducible first | exact HK.out | apply KeepBut.set_ | apply keep_drewN | apply keep_drew | apply keep_alloc) | exact HK.out)) (KeepBut.of_below hb g none) (.inl rfl)); have n5_ := Aside0.mk (below_step (by repeat (first | (with_reducible first | exact HB.out | apply below_alloc | apply pw_below_drewN | apply below_drew1 | refine below_set ?_ (IsS28.ge HI0.out)) | exact HB.out)) hb); clear HO515; clear HO518; clear HI0; clear HK; clear HB; have HO515 := n0_; have HO518 := n1_; have HO521 := n2_; have HI0 := n3_; have HK := n4_; have HB := n5_; clear n0_ n1_ n2_ n3_ n4_ n5_; clear hb ho13) | ((with_reducible refine gate_dst (N := 20) rfl ?_); refine Kd.R_make Kd.bool _ 4 rfl (N := 20) rfl 86 _ _ rfl 256 rfl rfl Try.underlying86 (.bool false) 1 info4 rfl (by decide) (by omega) false (ok := fun _ => True) (okp := fun _ => True) rfl (fun _ hk => hk) trivial (by omega) (by omega) (Below.refl _ _) (Nat.le_refl _) ?_; intro v523 w14 ho15 hb hg_ hnew_; clear hg_ hnew_; (first | rw [← Ny522.out] at ho15 | (simp only [Int.reduceToNat] at ho15; rw [← Ny522.out] at ho15)); have n0_ := Aside0.mk (Kd.R_below (kr_ HO515) hb); have n1_ := Aside0.mk (Kd.R_below (kr_ HO518) hb); have n2_ := Aside0.mk (Kd.R_below (kr_ HO521) hb); have n3_ := Aside0.mk (Kd.R_lower ho15 (keep_size (w := w) (g := g) (row := none) (by repeat (first | (with_reducible first | exact HK.out | apply KeepBut.set_ | apply keep_drewN | apply keep_drew | apply keep_alloc) | exact HK.out)))); have n4_ := Aside0.mk (IsS28.below (by repeat (first | (with_reducible first | exact HI0.out | apply IsS28.alloc | apply IsS28.drewN | apply IsS28.drew) | exact HI0.out)) hb); have n5_ := Aside0.mk (KeepBut.trans (by repeat (first | (with_reducible first | exact HK.out | apply KeepBut.set_ | apply keep_drewN | apply keep_drew | apply keep_alloc) | exact HK.out)) (KeepBut.of_below hb g none) (.inl rfl)); have n6_ := Aside0.mk (below_step (by repeat (first | (with_reducible first | exact HB.out | apply below_alloc | apply pw_below_drewN | apply below_drew1 | refine below_set ?_ (IsS28.ge HI0.out)) | exact HB.out)) hb); clear HO515; clear HO518; clear HO521; clear HI0; clear HK; clear HB; have HO515 := n0_; have HO518 := n1_; have HO521 := n2_; have HO524 := n3_; have HI0 := n4_; have HK := n5_; have HB := n6_; clear n0_ n1_ n2_ n3_ n4_ n5_ n6_; clear hb ho15) | ((with_reducible refine gate_callee (f := 78) rfl ?_); refine goesL_ (some 23) rfl rfl Try.func78 (by kernel_rfl) rfl #[.string a1] rfl ln_ ?_; (with_reducible refine (spec_l20Number.calls k a1 t525 _ A4.out).mono ?_); rintro e w' ⟨rfl, ⟨nd, rfl⟩⟩; refine ⟨_, rfl, ?_⟩; (try (rw [drewN_self w14]; generalize hq_ : World.drewN w14 _ = w14; have n0_ : Aside0 (Kd.R Kd.string 9 w14 w.heap.size (fun _ => True) v514 y513) := ⟨by rw [← hq_]; exact (kr_ HO515)⟩; have n1_ : Aside0 (Kd.R (Kd.int .i64) 3 w14 w.heap.size (fun _ => True) v517 y516) := ⟨by rw [← hq_]; exact (kr_ HO518)⟩; have n2_ : Aside0 (Kd.R (Kd.int .i64) 2 w14 w.heap.size (fun _ => True) v520 y519) := ⟨by rw [← hq_]; exact (kr_ HO521)⟩; have n3_ : Aside0 (Kd.R Kd.bool 4 w14 w.heap.size (fun _ => True) v523 y522) := ⟨by rw [← hq_]; exact (kr_ HO524)⟩; have n4_ : Aside0 (IsS28 w0 w14 g s0_0 s0_1) := ⟨by rw [← hq_]; exact (by repeat (first | (with_reducible first | exact HI0.out | apply IsS28.alloc | apply IsS28.drewN | apply IsS28.drew) | exact HI0.out))⟩; have n5_ : Aside0 (KeepBut w w14 g none) := ⟨by rw [← hq_]; exact (by repeat (first | (with_reducible first | exact HK.out | apply KeepBut.set_ | apply keep_drewN | apply keep_drew | apply keep_alloc) | exact HK.out))⟩; have n6_ : Aside0 (Below w0.heap.size w0 w14) := ⟨by rw [← hq_]; exact (by repeat (first | (with_reducible first | exact HB.out | apply below_alloc | apply pw_below_drewN | apply below_drew1 | refine below_set ?_ (IsS28.ge HI0.out)) | exact HB.out))⟩; clear HO515 HO518 HO521 HO524 HI0 HK HB hq_; have HO515 := n0_; have HO518 := n1_; have HO521 := n2_; have HO524 := n3_; have HI0 := n4_; have HK := n5_; have HB := n6_; clear n0_ n1_ n2_ n3_ n4_ n5_ n6_)); have p7 : 0 ≤ (t525 : Int) := od_; have q7 : (t525 : Int) < ((y522.length : Int) : Int) := od_; obtain ⟨go7, co7, eo7, gb7, gl7, cl7, HG7⟩ := Kd.R_form HO524.out (by omega); (first | cases eo7 | (injection eo7 with ea_ en_ ec_; (first | subst ea_ | (injection ea_ with ea_; subst ea_)); subst ec_; clear en_)); have GB7 := Aside0.mk gb7; have GG7 := Aside0.mk HG7; clear gb7 gl7 HG7; obtain ⟨hx7_0, hf7_0⟩ := Kd.R_celln false HO524.out (t525 : Int) p7 q7; replace p7 := eq_true p7; replace q7 := eq_true q7; obtain ⟨hy16_, hz16_⟩ := Kd.R_celln false HO524.out (t525 : Int) (od_) (od_); have HP16 := Kd.R_putg HO524.out (t525 : Int) true) | ((with_reducible refine gate_store (t := 4) (p := 24) rfl ?_); refine store_event (t := 4) (p := 24) (v := ?vo_w17) (w1 := (w14.setCell ⟨go7, (t525 : Int).toNat, none⟩ (.bool true))) ?hg ?ho ?hn ?hr ?_; (case ho => rfl); (case hg => rfl); (case hn => rfl); (case hr => first | (go_simp; done) | (go_simp; rfl)); intro w17 hw; have hg : w14.grownBy w17 (some go7) := (by rw [hw]; exact HP16.2); have hp_ : Kd.R Kd.bool 4 w17 w.heap.size (fun _ => True) (.slice (some ⟨go7, 0, none⟩) y522.length co7) y526 := (by rw [hw, Ny526.out]; exact HP16.1); clear HP16; have n0_ := Aside0.mk (IsS28.grown (by repeat (first | (with_reducible first | exact HI0.out | apply IsS28.alloc | apply IsS28.drewN | apply IsS28.drew) | exact HI0.out)) hg (IsS28.own_ne HI0.out HO524.out (by decide))); have n1_ := Aside0.mk (Kd.R_over' (v := (.slice (some ⟨go7, 0, none⟩) y522.length co7)) (kr_ HO515) (Kd.R_typed HO524.out) (by decide) hg); have n2_ := Aside0.mk (Kd.R_over' (v := (.slice (some ⟨go7, 0, none⟩) y522.length co7)) (kr_ HO518) (Kd.R_typed HO524.out) (by decide) hg); have n3_ := Aside0.mk (Kd.R_over' (v := (.slice (some ⟨go7, 0, none⟩) y522.length co7)) (kr_ HO521) (Kd.R_typed HO524.out) (by decide) hg); have n4_ := Aside0.mk (hp_); have n5_ := Aside0.mk ((by rw [hw]; exact below_set (HB.out) (Nat.le_trans HL.out GB7.out) : Below w0.heap.size w0 w17)); have n6_ := Aside0.mk (KeepBut.trans (by repeat (first | (with_reducible first | exact HK.out | apply KeepBut.set_ | apply keep_drewN | apply keep_drew | apply keep_alloc) | exact HK.out)) (KeepBut.of_grown hg g) (Kd.R_base2 HO524.out)); clear HI0; clear HO515; clear HO518; clear HO521; clear HO524; clear HB; clear HK; have HI0 := n0_; have HO515 := n1_; have HO518 := n2_; have HO521 := n3_; have HO524 := n4_; have HB := n5_; have HK := n6_; clear n0_ n1_ n2_ n3_ n4_ n5_ n6_; clear hg hw hp_))
    go_loopg [7, 8, 9, 11] k (fun kq v7 v8 v9 v11 w' => ∃ (x7_1 : List ByteArray) (x8_1 : List Int) (x9_1 : List Int) (x10_1 : List Bool) (x11_1 : Int), v11 = .int .i64 x11_1 ∧ Aside0 (spec_l20All.l0 kq x7_1 x8_1 x9_1 x10_1 x11_1 s0_0 s0_1 = some (r1, r2, r3)) ∧ Aside0 (kq ≤ k) ∧ Aside0 (Kd.R Kd.string 9 w' w.heap.size (fun _ => True) v7 x7_1) ∧ Aside0 (Kd.R (Kd.int .i64) 3 w' w.heap.size (fun _ => True) v8 x8_1) ∧ Aside0 (Kd.R (Kd.int .i64) 2 w' w.heap.size (fun _ => True) v9 x9_1) ∧ Aside0 (Kd.R Kd.bool 4 w' w.heap.size (fun _ => True) (.slice (some ⟨go7, 0, none⟩) y522.length co7) x10_1) ∧ Aside0 (IsS28 w0 w' g s0_0 s0_1) ∧ Aside0 (KeepBut w w' g none) ∧ Aside0 (Below w0.heap.size w0 w'))
    case atStart => exact ⟨(y513), (y516), (y519), (y526), (0), (by first | rfl | (simp; done) | (simp [*]; done)), H', ⟨Nat.le_refl _⟩, ⟨by (with_reducible repeat (first | apply Kd.R_alloc | apply Kd.R_drewN | apply Kd.R_drew)); exact HO515.out⟩, ⟨by (with_reducible repeat (first | apply Kd.R_alloc | apply Kd.R_drewN | apply Kd.R_drew)); exact HO518.out⟩, ⟨by (with_reducible repeat (first | apply Kd.R_alloc | apply Kd.R_drewN | apply Kd.R_drew)); exact HO521.out⟩, ⟨by (with_reducible repeat (first | apply Kd.R_alloc | apply Kd.R_drewN | apply Kd.R_drew)); exact HO524.out⟩, ⟨by repeat (first | (with_reducible first | exact HI0.out | apply IsS28.alloc | apply IsS28.drewN | apply IsS28.drew) | exact HI0.out)⟩, ⟨by repeat (first | (with_reducible first | exact HK.out | apply KeepBut.set_ | apply keep_drewN | apply keep_drew | apply keep_alloc) | exact HK.out)⟩, ⟨by repeat (first | (with_reducible first | exact HB.out | apply below_alloc | apply pw_below_drewN | apply below_drew1 | refine below_set ?_ (IsS28.ge HI0.out)) | exact HB.out)⟩⟩
    case round =>
     clear H'
     try clear p2
     try clear c3
     try clear c3b0
     try clear c3b1
     try clear c5
     try clear c5b0
     try clear c6
     try clear c6b0
     try clear c7
     try clear p7
     try clear q7
     try clear hx7
     try clear hf7
     try clear hx7_0
     try clear p7
     try clear q7
     obtain ⟨x7_1, x8_1, x9_1, x10_1, x11_1, rfl, HA, HK1, HO_7, HO_8, HO_9, HO_10, HI0, HK, HB⟩ := hrel
     have hl10_1 := (Kd.R_reads' HO_10.out).1
     rw [hl10_1] at HO_10
     (try simp only [hl10_1])
     (try simp only [hl10_1] at HO_7)
     (try simp only [hl10_1] at HO_8)
     (try simp only [hl10_1] at HO_9)
     cases gk with
     | zero => exact absurd HA.out (by simp [spec_l20All.l0])
     | succ k1 =>
      have H := HA.out
      clear HA
      simp only [spec_l20All.l0] at H
      by_cases c18 : x11_1 < (x7_1.length : Int)
      ·rw [if_pos c18] at H
       have c18b0 : decide (x11_1 < (x7_1.length : Int)) = true := decide_eq_true c18
       clear c18
       by_cases c19 : 0 ≤ x11_1
       ·rw [if_pos c19] at H
        have c19b0 : decide (0 ≤ x11_1) = true := decide_eq_true c19
        clear c19
        replace H := Option.bind_eq_some_iff.mp H
        obtain ⟨t528, A200, H⟩ := H
        replace H : (spec_l20All.l1 k1 x7_1 x8_1 x9_1 x10_1 x11_1 t528 0 s0_0 s0_1) = some (r1, r2, r3) := H
        have A20 := Aside0.mk A200
        clear A200
        have H' := Aside0.mk H
        clear H
        obtain ⟨Ao21, co21, eo21⟩ := Kd.R_slice HO_7.out
        subst eo21
        have p527 : 0 ≤ (x11_1 : Int) := od_
        have q527 : x11_1 < (x7_1.length : Int) := od_
        obtain ⟨ad527, e527, hx527_0⟩ := Kd.at_string (Kd.R_reads' HO_7.out).2.2 x11_1 p527 q527
        cases e527
        replace p527 := eq_true p527
        replace q527 := eq_true q527
        go_wp2_with (first | ((with_reducible refine gate_callee (f := 67) rfl ?_); refine goesL_ (some 36) rfl rfl Try.func67 (by kernel_rfl) rfl #[.pointer (some ⟨g, 0, none⟩), .string (rdOf ByteArray.empty x7_1 x11_1)] rfl ln_ ?_; (with_reducible refine (spec_l20Changes.calls k1 g s0_0 s0_1 (rdOf ByteArray.empty x7_1 x11_1) t528 w0 _ ?side1 ?side2 A20.out).mono ?_); (case side1 => repeat (first | (with_reducible first | exact HI0.out | apply IsS28.alloc | apply IsS28.drewN | apply IsS28.drew) | exact HI0.out)); (case side2 => repeat (first | (with_reducible first | exact HB.out | apply below_alloc | apply pw_below_drewN | apply below_drew1 | refine below_set ?_ (IsS28.ge HI0.out)) | exact HB.out)); rintro e w22 ⟨v529, rfl, ho0, hi, hb, hk⟩; refine ⟨_, rfl, ?_⟩; have n0_ := Aside0.mk (Kd.R_mono (Kd.R_keep (IsS28.apart (show IsS28 w0 _ g s0_0 s0_1 from by repeat (first | (with_reducible first | exact HI0.out | apply IsS28.alloc | apply IsS28.drewN | apply IsS28.drew) | exact HI0.out)) (kr_ HO_7) (by decide)) hk (fun _ h => h.2)) (fun _ h => h.1)); have n1_ := Aside0.mk (Kd.R_mono (Kd.R_keep (IsS28.apart (show IsS28 w0 _ g s0_0 s0_1 from by repeat (first | (with_reducible first | exact HI0.out | apply IsS28.alloc | apply IsS28.drewN | apply IsS28.drew) | exact HI0.out)) (kr_ HO_8) (by decide)) hk (fun _ h => h.2)) (fun _ h => h.1)); have n2_ := Aside0.mk (Kd.R_mono (Kd.R_told (Kd.R_oldK (IsS28.apart (show IsS28 w0 _ g s0_0 s0_1 from by repeat (first | (with_reducible first | exact HI0.out | apply IsS28.alloc | apply IsS28.drewN | apply IsS28.drew) | exact HI0.out)) (kr_ HO_9) (by decide)) hk) (Kd.R_base ho0)) (fun _ h_ => h_.1)); have n3_ := Aside0.mk (Kd.R_mono (Kd.R_keep (IsS28.apart (show IsS28 w0 _ g s0_0 s0_1 from by repeat (first | (with_reducible first | exact HI0.out | apply IsS28.alloc | apply IsS28.drewN | apply IsS28.drew) | exact HI0.out)) (kr_ HO_10) (by decide)) hk (fun _ h => h.2)) (fun _ h => h.1)); have n4_ := Aside0.mk (Kd.R_lower (Kd.R_new' ho0 (Kd.R_lt (kr_ HO_9))) (keep_size (w := w) (g := g) (row := none) (by repeat (first | (with_reducible first | exact HK.out | apply KeepBut.set_ | apply keep_drewN | apply keep_drew | apply keep_alloc) | exact HK.out)))); have n5_ := Aside0.mk (KeepBut.trans (by repeat (first | (with_reducible first | exact HK.out | apply KeepBut.set_ | apply keep_drewN | apply keep_drew | apply keep_alloc) | exact HK.out)) hk (.inl rfl)); have n6_ := Aside0.mk (hb); have n7_ := Aside0.mk (hi); clear HO_7; clear HO_8; clear HO_9; clear HO_10; clear HK; clear HB; clear HI0; have HO_7 := n0_; have HO_8 := n1_; have HO_9 := n2_; have HO_10 := n3_; have HO530 := n4_; have HK := n5_; have HB := n6_; have HI0 := n7_; clear n0_ n1_ n2_ n3_ n4_ n5_ n6_ n7_; (try clear hb); (try clear hb2); (try clear hk); (try clear hi); (try clear ho0)))
        go_loopg [7, 8, 9, 13] k1 (fun kq v7 v8 v9 v13 w' => ∃ (x7_2 : List ByteArray) (x8_2 : List Int) (x9_2 : List Int) (x10_2 : List Bool) (x13_2 : Int), v13 = .int .i64 x13_2 ∧ Aside0 (spec_l20All.l1 kq x7_2 x8_2 x9_2 x10_2 x11_1 t528 x13_2 s0_0 s0_1 = some (r1, r2, r3)) ∧ Aside0 (kq ≤ k1) ∧ Aside0 (Kd.R Kd.string 9 w' w.heap.size (fun _ => True) v7 x7_2) ∧ Aside0 (Kd.R (Kd.int .i64) 3 w' w.heap.size (fun _ => True) v8 x8_2) ∧ Aside0 (Kd.R (Kd.int .i64) 2 w' w.heap.size (fun k_ => some k_ ≠ (v529 : Value).ownBlock) v9 x9_2) ∧ Aside0 (Kd.R Kd.bool 4 w' w.heap.size (fun _ => True) (.slice (some ⟨go7, 0, none⟩) x10_1.length co7) x10_2) ∧ Aside0 (Kd.R (Kd.int .i64) 2 w' w.heap.size (fun k_ => some k_ ≠ (v9 : Value).ownBlock) v529 t528) ∧ Aside0 (IsS28 w0 w' g s0_0 s0_1) ∧ Aside0 (KeepBut w w' g none) ∧ Aside0 (Below w0.heap.size w0 w'))
        case atStart => exact ⟨(x7_1), (x8_1), (x9_1), (x10_1), (0), (by first | rfl | (simp; done) | (simp [*]; done)), H', ⟨Nat.le_refl _⟩, ⟨by (try simp only [hl10_1]); (with_reducible repeat (first | apply Kd.R_alloc | apply Kd.R_drewN | apply Kd.R_drew)); exact HO_7.out⟩, ⟨by (try simp only [hl10_1]); (with_reducible repeat (first | apply Kd.R_alloc | apply Kd.R_drewN | apply Kd.R_drew)); exact HO_8.out⟩, ⟨by (try simp only [hl10_1]); (with_reducible repeat (first | apply Kd.R_alloc | apply Kd.R_drewN | apply Kd.R_drew)); exact Kd.R_mono HO_9.out (fun _ hk => hk.2)⟩, ⟨by (try simp only [hl10_1]); (with_reducible repeat (first | apply Kd.R_alloc | apply Kd.R_drewN | apply Kd.R_drew)); exact HO_10.out⟩, ⟨by (try simp only [hl10_1]); (with_reducible repeat (first | apply Kd.R_alloc | apply Kd.R_drewN | apply Kd.R_drew)); exact Kd.R_mono HO530.out (fun _ hk => hk.2)⟩, ⟨by repeat (first | (with_reducible first | exact HI0.out | apply IsS28.alloc | apply IsS28.drewN | apply IsS28.drew) | exact HI0.out)⟩, ⟨by repeat (first | (with_reducible first | exact HK.out | apply KeepBut.set_ | apply keep_drewN | apply keep_drew | apply keep_alloc) | exact HK.out)⟩, ⟨by repeat (first | (with_reducible first | exact HB.out | apply below_alloc | apply pw_below_drewN | apply below_drew1 | refine below_set ?_ (IsS28.ge HI0.out)) | exact HB.out)⟩⟩
        case round =>
         clear H'
         try clear c1
         try clear p2
         try clear c3
         try clear c3b0
         try clear c3b1
         try clear c5
         try clear c5b0
         try clear p5
         try clear q5
         try clear hx5
         try clear c6
         try clear c6b0
         try clear c7
         try clear p7
         try clear q7
         try clear hx7
         try clear hf7
         try clear c18
         try clear c18b0
         try clear c19
         try clear c19b0
         try clear hx527_0
         try clear hx7_0
         try clear p2
         try clear p527
         try clear p7
         try clear q527
         try clear q7
         obtain ⟨x7_2, x8_2, x9_2, x10_2, x13_2, rfl, HA, HK2, HO_7, HO_8, HO_9, HO_10, HO_12, HI0, HK, HB⟩ := hrel
         have hl10_2 := (Kd.R_reads' HO_10.out).1
         rw [hl10_2] at HO_10
         (try simp only [hl10_2])
         (try simp only [hl10_2] at HO_7)
         (try simp only [hl10_2] at HO_8)
         (try simp only [hl10_2] at HO_9)
         (try simp only [hl10_2] at HO_12)
         cases gk with
         | zero => exact absurd HA.out (by simp [spec_l20All.l1])
         | succ k2 =>
          have H := HA.out
          clear HA
          simp only [spec_l20All.l1] at H
          by_cases c23 : x13_2 < (t528.length : Int)
          ·rw [if_pos c23] at H
           have c23b0 : decide (x13_2 < (t528.length : Int)) = true := decide_eq_true c23
           clear c23
           by_cases c24 : 0 ≤ x11_1
           ·rw [if_pos c24] at H
            have c24b0 : decide (0 ≤ x11_1) = true := decide_eq_true c24
            clear c24
            by_cases c25 : x11_1 < (x7_2.length : Int)
            ·rw [if_pos c25] at H
             have c25b0 : decide (x11_1 < (x7_2.length : Int)) = true := decide_eq_true c25
             clear c25
             by_cases c26 : 0 ≤ x13_2
             ·rw [if_pos c26] at H
              have c26b0 : decide (0 ≤ x13_2) = true := decide_eq_true c26
              clear c26
              replace H := Option.bind_eq_some_iff.mp H
              obtain ⟨⟨t533, t534⟩, A270, H⟩ := H
              replace H : ((spec_l20Number.f k2 t533).bind fun t535 => (if 0 ≤ t535 then (if t535 < (x10_2.length : Int) then (if rdOf false x10_2 t535 = true then (spec_l20All.l1 k2 x7_2 x8_2 x9_2 x10_2 x11_1 t528 (wrap64 (x13_2 + 1)) s0_0 s0_1) else ((spec_l20Number.f k2 t533).bind fun t537 => (if 0 ≤ t537 then (if t537 < (x10_2.length : Int) then (if x7_2.length < 8796093022208 then (if x8_2.length < 17592186044416 then (if x9_2.length < 17592186044416 then (spec_l20All.l1 k2 (x7_2 ++ [t533]) (x8_2 ++ [x11_1]) (x9_2 ++ [rd t528 x13_2]) (x10_2.set (t537 : Int).toNat true) x11_1 t528 (wrap64 (x13_2 + 1)) s0_0 s0_1) else (none)) else (none)) else (none)) else (none)) else (none)))) else (none)) else (none))) = some (r1, r2, r3) := H
              have A27 := Aside0.mk A270
              clear A270
              replace H := Option.bind_eq_some_iff.mp H
              obtain ⟨t535, A280, H⟩ := H
              replace H : (if 0 ≤ t535 then (if t535 < (x10_2.length : Int) then (if rdOf false x10_2 t535 = true then (spec_l20All.l1 k2 x7_2 x8_2 x9_2 x10_2 x11_1 t528 (wrap64 (x13_2 + 1)) s0_0 s0_1) else ((spec_l20Number.f k2 t533).bind fun t537 => (if 0 ≤ t537 then (if t537 < (x10_2.length : Int) then (if x7_2.length < 8796093022208 then (if x8_2.length < 17592186044416 then (if x9_2.length < 17592186044416 then (spec_l20All.l1 k2 (x7_2 ++ [t533]) (x8_2 ++ [x11_1]) (x9_2 ++ [rd t528 x13_2]) (x10_2.set (t537 : Int).toNat true) x11_1 t528 (wrap64 (x13_2 + 1)) s0_0 s0_1) else (none)) else (none)) else (none)) else (none)) else (none)))) else (none)) else (none)) = some (r1, r2, r3) := H
              have A28 := Aside0.mk A280
              clear A280
              by_cases c29 : 0 ≤ t535
              ·rw [if_pos c29] at H
               have c29b0 : decide (0 ≤ t535) = true := decide_eq_true c29
               clear c29
               by_cases c30 : t535 < (x10_2.length : Int)
               ·rw [if_pos c30] at H
                have c30b0 : decide (t535 < (x10_2.length : Int)) = true := decide_eq_true c30
                clear c30
                obtain ⟨bq31, hbq31⟩ : ∃ b_ : Bool, b_ = (rdOf false x10_2 t535) := ⟨_, rfl⟩
                replace H : (if bq31 = true then (spec_l20All.l1 k2 x7_2 x8_2 x9_2 x10_2 x11_1 t528 (wrap64 (x13_2 + 1)) s0_0 s0_1) else ((spec_l20Number.f k2 t533).bind fun t537 => (if 0 ≤ t537 then (if t537 < (x10_2.length : Int) then (if x7_2.length < 8796093022208 then (if x8_2.length < 17592186044416 then (if x9_2.length < 17592186044416 then (spec_l20All.l1 k2 (x7_2 ++ [t533]) (x8_2 ++ [x11_1]) (x9_2 ++ [rd t528 x13_2]) (x10_2.set (t537 : Int).toNat true) x11_1 t528 (wrap64 (x13_2 + 1)) s0_0 s0_1) else (none)) else (none)) else (none)) else (none)) else (none)))) = some (r1, r2, r3) := by rw [← hbq31] at H; exact H
                have Nbq31 := Aside0.mk hbq31
                clear hbq31
                by_cases c32 : bq31 = true
                ·subst c32
                 have H1 : (spec_l20All.l1 k2 x7_2 x8_2 x9_2 x10_2 x11_1 t528 (wrap64 (x13_2 + 1)) s0_0 s0_1) = some (r1, r2, r3) := by rw [if_pos rfl] at H; exact H
                 clear H
                 have H := H1
                 clear H1
                 have H' := Aside0.mk H
                 clear H
                 obtain ⟨Ao33, co33, eo33⟩ := Kd.R_slice HO_12.out
                 subst eo33
                 try go_wp2
                 have n0_ := Aside0.mk (Kd.R_drew HO_7.out)
                 have n1_ := Aside0.mk (Kd.R_drew HO_8.out)
                 have n2_ := Aside0.mk (Kd.R_drew HO_9.out)
                 have n3_ := Aside0.mk (Kd.R_drew HO_10.out)
                 have n4_ := Aside0.mk (Kd.R_drew HO_12.out)
                 have n5_ := Aside0.mk (IsS28.drew HI0.out)
                 have n6_ := Aside0.mk (keep_drew HK.out)
                 have n7_ := Aside0.mk (below_drew1 HB.out)
                 clear HO_7
                 clear HO_8
                 clear HO_9
                 clear HO_10
                 clear HO_12
                 clear HI0
                 clear HK
                 clear HB
                 have HO_7 := n0_
                 have HO_8 := n1_
                 have HO_9 := n2_
                 have HO_10 := n3_
                 have HO_12 := n4_
                 have HI0 := n5_
                 have HK := n6_
                 have HB := n7_
                 clear n0_ n1_ n2_ n3_ n4_ n5_ n6_ n7_
                 obtain ⟨Ao35, co35, eo35⟩ := Kd.R_slice HO_7.out
                 (first | subst eo35 | (injection eo35 with f1_ f2_ f3_; have f4_ := f1_.symm; have f5_ := f3_.symm; clear f1_ f2_ f3_; subst f4_; subst f5_))
                 have p531 : 0 ≤ (x11_1 : Int) := od_
                 have q531 : x11_1 < (x7_2.length : Int) := od_
                 obtain ⟨ad531, e531, hx531_0⟩ := Kd.at_string (Kd.R_reads' HO_7.out).2.2 x11_1 p531 q531
                 cases e531
                 replace p531 := eq_true p531
                 replace q531 := eq_true q531
                 have p532 : 0 ≤ (x13_2 : Int) := od_
                 have q532 : x13_2 < (t528.length : Int) := od_
                 obtain ⟨ad532, e532, hx532_0⟩ := Kd.at_int (Kd.R_reads' HO_12.out).2.2 x13_2 p532 q532
                 cases e532
                 replace p532 := eq_true p532
                 replace q532 := eq_true q532
                 refine start_ (n := 15) (S := fun w' => w'.cell? (ad531.add (x11_1).toNat) = some (.string (rdOf ByteArray.empty x7_2 x11_1)) ∧ w'.cell? (ad532.add (x13_2).toNat) = some (.int .i64 (rd t528 x13_2))) (ds := []) #[F_,F_,F_,F_,F_,F_,F_,F_,F_,F_,F_,F_,F_,F_,F_] (by kernel_rfl) rfl rfl ⟨hx531_0, hx532_0⟩ (fun hHeld => ?_); refine with_tabW spec_l20All.tab13 spec_l20All.bits13 (fun HT_ HW_ => ?_)
                 generalize wr.drew = w34 at HO_7 HO_8 HO_9 HO_10 HO_12 HI0 HK HB hx531_0 hx532_0 hHeld ⊢
                 refine pu (i := 0) (N := some 44) #[T_,F_,F_,F_,F_,F_,F_,F_,F_,F_,F_,F_,F_,F_,F_] HT_ ?_
                 refine pu (i := 1) (N := some 45) #[T_,T_,F_,F_,F_,F_,F_,F_,F_,F_,F_,F_,F_,F_,F_] HT_ ?_
                 refine pu (i := 2) (N := some 46) #[T_,T_,T_,F_,F_,F_,F_,F_,F_,F_,F_,F_,F_,F_,F_] HT_ ?_
                 refine pu (i := 3) (N := some 47) #[T_,T_,T_,T_,F_,F_,F_,F_,F_,F_,F_,F_,F_,F_,F_] HT_ ?_
                 refine pu (i := 5) (N := some 49) #[T_,T_,T_,T_,F_,T_,F_,F_,F_,F_,F_,F_,F_,F_,F_] HT_ ?_
                 refine pu (i := 6) (N := some 50) #[T_,T_,T_,T_,F_,T_,T_,F_,F_,F_,F_,F_,F_,F_,F_] HT_ ?_
                 refine pu (i := 7) (N := some 51) #[T_,T_,T_,T_,F_,T_,T_,T_,F_,F_,F_,F_,F_,F_,F_] HT_ ?_
                 refine take_ (i := 4) (N := some 48) (v := ?_) (a' := ?_) #[T_,T_,T_,T_,T_,T_,T_,T_,F_,F_,F_,F_,F_,F_,F_] rfl rfl (take_ofW HT_.out HW_.out (by kernel_rfl)) (fun _ _ _ h => h) (Or.inl ⟨by rfl, ?_⟩) hHeld ?_ ?_
                 rotate_left
                 ·rintro w' ⟨s0, s1⟩
                  go_simp
                  with_reducible rfl
                 rotate_left
                 ·simp only [Act.put, sT_, s0_, sS_, i64_w, i32_w]
                  rfl
                 refine take_ (i := 8) (N := some 52) (v := ?_) (a' := ?_) #[T_,T_,T_,T_,T_,T_,T_,T_,T_,F_,F_,F_,F_,F_,F_] rfl rfl (take_ofW HT_.out HW_.out (by kernel_rfl)) (fun _ _ _ h => h) (Or.inl ⟨by rfl, ?_⟩) hHeld ?_ ?_
                 rotate_left
                 ·rintro w' ⟨s0, s1⟩
                  go_simp
                  with_reducible rfl
                 rotate_left
                 ·simp only [Act.put, sT_, s0_, sS_, i64_w, i32_w]
                  rfl
                 refine one_ (i := 9) (N := some 53) #[T_,T_,T_,T_,T_,T_,T_,T_,T_,T_,F_,F_,F_,F_,F_] rfl rfl (one_of HT_.out (by kernel_rfl)) (by decide) (fun K hK => ?_)
                 refine goes_ Try.func64 (by kernel_rfl) rfl #[.pointer (some ⟨g, 0, none⟩), .string (rdOf ByteArray.empty x7_2 x11_1), .int .i64 (rd t528 x13_2)] (by rfl) rfl rfl ln_ ?_
                 with_reducible refine (spec_l20Change.calls k2 g s0_0 s0_1 (rdOf ByteArray.empty x7_2 x11_1) (rd t528 x13_2) t533 t534 w0 _ ?side1 ?side2 A27.out).mono ?_
                 (case side1 => repeat (first | (with_reducible first | exact HI0.out | apply IsS28.alloc | apply IsS28.drewN | apply IsS28.drew) | exact HI0.out))
                 (case side2 => repeat (first | (with_reducible first | exact HB.out | apply below_alloc | apply pw_below_drewN | apply below_drew1 | refine below_set ?_ (IsS28.ge HI0.out)) | exact HB.out))
                 rintro e w36 ⟨rfl, hi, hb, hk⟩
                 have HS0_ := keep_cell hk (hHeld.1) (by first | (rw [add_block]; exact Kd.own_blk (IsS28.own_ne HI0.out HO_7.out (by decide))) | (show (Addr.add _ _).block ≠ _; rw [add_block]; exact Kd.own_blk (IsS28.own_ne HI0.out HO_7.out (by decide))) | exact Kd.own_blk (IsS28.own_ne HI0.out HO_7.out (by decide)))
                 have HS1_ := keep_cell hk (hHeld.2) (by first | (rw [add_block]; exact Kd.own_blk (IsS28.own_ne HI0.out HO_12.out (by decide))) | (show (Addr.add _ _).block ≠ _; rw [add_block]; exact Kd.own_blk (IsS28.own_ne HI0.out HO_12.out (by decide))) | exact Kd.own_blk (IsS28.own_ne HI0.out HO_12.out (by decide)))
                 refine ⟨_, rfl, ?_⟩
                 have n0_ := Aside0.mk (Kd.R_mono (Kd.R_keep (IsS28.apart (show IsS28 w0 _ g s0_0 s0_1 from by repeat (first | (with_reducible first | exact HI0.out | apply IsS28.alloc | apply IsS28.drewN | apply IsS28.drew) | exact HI0.out)) (kr_ HO_7) (by decide)) hk (fun _ h => h.2)) (fun _ h => h.1))
                 have n1_ := Aside0.mk (Kd.R_mono (Kd.R_keep (IsS28.apart (show IsS28 w0 _ g s0_0 s0_1 from by repeat (first | (with_reducible first | exact HI0.out | apply IsS28.alloc | apply IsS28.drewN | apply IsS28.drew) | exact HI0.out)) (kr_ HO_8) (by decide)) hk (fun _ h => h.2)) (fun _ h => h.1))
                 have n2_ := Aside0.mk (Kd.R_mono (Kd.R_keep (IsS28.apart (show IsS28 w0 _ g s0_0 s0_1 from by repeat (first | (with_reducible first | exact HI0.out | apply IsS28.alloc | apply IsS28.drewN | apply IsS28.drew) | exact HI0.out)) (kr_ HO_9) (by decide)) hk (fun _ h => h.2)) (fun _ h => h.1))
                 have n3_ := Aside0.mk (Kd.R_mono (Kd.R_keep (IsS28.apart (show IsS28 w0 _ g s0_0 s0_1 from by repeat (first | (with_reducible first | exact HI0.out | apply IsS28.alloc | apply IsS28.drewN | apply IsS28.drew) | exact HI0.out)) (kr_ HO_10) (by decide)) hk (fun _ h => h.2)) (fun _ h => h.1))
                 have n4_ := Aside0.mk (Kd.R_mono (Kd.R_keep (IsS28.apart (show IsS28 w0 _ g s0_0 s0_1 from by repeat (first | (with_reducible first | exact HI0.out | apply IsS28.alloc | apply IsS28.drewN | apply IsS28.drew) | exact HI0.out)) (kr_ HO_12) (by decide)) hk (fun _ h => h.2)) (fun _ h => h.1))
                 have n5_ := Aside0.mk (KeepBut.trans (by repeat (first | (with_reducible first | exact HK.out | apply KeepBut.set_ | apply keep_drewN | apply keep_drew | apply keep_alloc) | exact HK.out)) hk (.inl rfl))
                 have n6_ := Aside0.mk (hb)
                 have n7_ := Aside0.mk (hi)
                 clear HO_7
                 clear HO_8
                 clear HO_9
                 clear HO_10
                 clear HO_12
                 clear HK
                 clear HB
                 clear HI0
                 have HO_7 := n0_
                 have HO_8 := n1_
                 have HO_9 := n2_
                 have HO_10 := n3_
                 have HO_12 := n4_
                 have HK := n5_
                 have HB := n6_
                 have HI0 := n7_
                 clear n0_ n1_ n2_ n3_ n4_ n5_ n6_ n7_
                 (try clear hb)
                 (try clear hb2)
                 (try clear hk)
                 (try clear hi)
                 refine hK.out _ _ ⟨HS0_, HS1_⟩ (fun hHeld => ?_)
                 clear hK K
                 refine norm_ (a' := ?_) ?_ ?_
                 rotate_left
                 ·show Act.put _ (some 53) _ = _
                  simp only [Act.put, sT_, s0_, sS_, i64_w, i32_w]
                  rfl
                 refine pu (i := 10) (N := some 43) #[T_,T_,T_,T_,T_,T_,T_,T_,T_,T_,T_,F_,F_,F_,F_] HT_ ?_
                 refine pu (i := 11) (N := some 54) #[T_,T_,T_,T_,T_,T_,T_,T_,T_,T_,T_,T_,F_,F_,F_] HT_ ?_
                 refine pu (i := 12) (N := some 55) #[T_,T_,T_,T_,T_,T_,T_,T_,T_,T_,T_,T_,T_,F_,F_] HT_ ?_
                 refine pu (i := 13) (N := some 14) #[T_,T_,T_,T_,T_,T_,T_,T_,T_,T_,T_,T_,T_,T_,F_] HT_ ?_
                 refine pu (i := 14) (N := some 15) #[T_,T_,T_,T_,T_,T_,T_,T_,T_,T_,T_,T_,T_,T_,T_] HT_ ?_
                 refine done_ (done_of HT_.out (by kernel_rfl)) ?_
                 try go_wp2_with (first | ((with_reducible refine gate_callee (f := 78) rfl ?_); refine goesL_ (some 58) rfl rfl Try.func78 (by kernel_rfl) rfl #[.string t533] rfl ln_ ?_; (with_reducible refine (spec_l20Number.calls k2 t533 t535 _ A28.out).mono ?_); rintro e w' ⟨rfl, ⟨nd, rfl⟩⟩; refine ⟨_, rfl, ?_⟩; have p536 : 0 ≤ (t535 : Int) := od_; have q536 : t535 < (x10_2.length : Int) := od_; obtain ⟨ad536, e536, hx536_0⟩ := Kd.at_bool (Kd.R_reads' HO_10.out).2.2 t535 p536 q536; (try rw [← Nbq31.out] at hx536_0); obtain rfl : (⟨go7, 0, none⟩ : Addr) = ad536 := (by injection e536); (first | simp only [add_plain] at hx536_0 | simp only [add_at] at hx536_0 | simp only [Addr.add, Nat.zero_add] at hx536_0 | skip); replace p536 := eq_true p536; replace q536 := eq_true q536))
                 (try simp only [← hl10_2])
                 go_roundg k2
                 case measure => have := HK1.out; have := HK2.out; omega
                 case rel => exact ⟨(x7_2), (x8_2), (x9_2), (x10_2), (wrap64 (x13_2 + 1)), (by first | rfl | (simp; done) | (simp [*]; done)), H', ⟨by have := HK1.out; have := HK2.out; omega⟩, ⟨by (try simp only [hl10_1]); (try simp only [hl10_2]); (with_reducible repeat (first | apply Kd.R_alloc | apply Kd.R_drewN | apply Kd.R_drew)); exact HO_7.out⟩, ⟨by (try simp only [hl10_1]); (try simp only [hl10_2]); (with_reducible repeat (first | apply Kd.R_alloc | apply Kd.R_drewN | apply Kd.R_drew)); exact HO_8.out⟩, ⟨by (try simp only [hl10_1]); (try simp only [hl10_2]); (with_reducible repeat (first | apply Kd.R_alloc | apply Kd.R_drewN | apply Kd.R_drew)); exact HO_9.out⟩, ⟨by (try simp only [hl10_1]); (try simp only [hl10_2]); (with_reducible repeat (first | apply Kd.R_alloc | apply Kd.R_drewN | apply Kd.R_drew)); exact HO_10.out⟩, ⟨by (try simp only [hl10_1]); (try simp only [hl10_2]); (with_reducible repeat (first | apply Kd.R_alloc | apply Kd.R_drewN | apply Kd.R_drew)); exact HO_12.out⟩, ⟨by repeat (first | (with_reducible first | exact HI0.out | apply IsS28.alloc | apply IsS28.drewN | apply IsS28.drew) | exact HI0.out)⟩, ⟨by repeat (first | (with_reducible first | exact HK.out | apply KeepBut.set_ | apply keep_drewN | apply keep_drew | apply keep_alloc) | exact HK.out)⟩, ⟨by repeat (first | (with_reducible first | exact HB.out | apply below_alloc | apply pw_below_drewN | apply below_drew1 | refine below_set ?_ (IsS28.ge HI0.out)) | exact HB.out)⟩⟩
                ·replace c32 := Bool.eq_false_iff.mpr c32
                 subst c32
                 have H1 : ((spec_l20Number.f k2 t533).bind fun t537 => (if 0 ≤ t537 then (if t537 < (x10_2.length : Int) then (if x7_2.length < 8796093022208 then (if x8_2.length < 17592186044416 then (if x9_2.length < 17592186044416 then (spec_l20All.l1 k2 (x7_2 ++ [t533]) (x8_2 ++ [x11_1]) (x9_2 ++ [rd t528 x13_2]) (x10_2.set (t537 : Int).toNat true) x11_1 t528 (wrap64 (x13_2 + 1)) s0_0 s0_1) else (none)) else (none)) else (none)) else (none)) else (none))) = some (r1, r2, r3) := by rw [if_neg (show ¬ (false = true) by decide)] at H; exact H
                 clear H
                 have H := H1
                 clear H1
                 replace H := Option.bind_eq_some_iff.mp H
                 obtain ⟨t537, A370, H⟩ := H
                 replace H : (if 0 ≤ t537 then (if t537 < (x10_2.length : Int) then (if x7_2.length < 8796093022208 then (if x8_2.length < 17592186044416 then (if x9_2.length < 17592186044416 then (spec_l20All.l1 k2 (x7_2 ++ [t533]) (x8_2 ++ [x11_1]) (x9_2 ++ [rd t528 x13_2]) (x10_2.set (t537 : Int).toNat true) x11_1 t528 (wrap64 (x13_2 + 1)) s0_0 s0_1) else (none)) else (none)) else (none)) else (none)) else (none)) = some (r1, r2, r3) := H
                 have A37 := Aside0.mk A370
                 clear A370
                 by_cases c38 : 0 ≤ t537
                 ·rw [if_pos c38] at H
                  have c38b0 : decide (0 ≤ t537) = true := decide_eq_true c38
                  clear c38
                  by_cases c39 : t537 < (x10_2.length : Int)
                  ·rw [if_pos c39] at H
                   have c39b0 : decide (t537 < (x10_2.length : Int)) = true := decide_eq_true c39
                   clear c39
                   obtain ⟨y538, hy538⟩ : ∃ y_ : List Bool, y_ = (x10_2.set (t537 : Int).toNat true) := ⟨_, rfl⟩
                   replace H : (if x7_2.length < 8796093022208 then (if x8_2.length < 17592186044416 then (if x9_2.length < 17592186044416 then (spec_l20All.l1 k2 (x7_2 ++ [t533]) (x8_2 ++ [x11_1]) (x9_2 ++ [rd t528 x13_2]) y538 x11_1 t528 (wrap64 (x13_2 + 1)) s0_0 s0_1) else (none)) else (none)) else (none)) = some (r1, r2, r3) := by first | (rw [hy538]; with_reducible exact H) | (have H2_ := (Option.bind_some _ _).symm.trans H; rw [hy538]; with_reducible exact H2_) | (have H2_ := (Option.bind_some _ _).symm.trans H; with_reducible exact H2_) | with_reducible exact H | (rw [hy538]; exact H) | exact H
                   have Ny538 := Aside0.mk hy538
                   clear hy538
                   by_cases c41 : x7_2.length < 8796093022208
                   ·rw [if_pos c41] at H
                    have LMc41 := Aside0.mk c41
                    clear c41
                    obtain ⟨y539, hy539⟩ : ∃ y_ : List ByteArray, y_ = (x7_2 ++ [t533]) := ⟨_, rfl⟩
                    replace H : (if x8_2.length < 17592186044416 then (if x9_2.length < 17592186044416 then (spec_l20All.l1 k2 y539 (x8_2 ++ [x11_1]) (x9_2 ++ [rd t528 x13_2]) y538 x11_1 t528 (wrap64 (x13_2 + 1)) s0_0 s0_1) else (none)) else (none)) = some (r1, r2, r3) := by first | (rw [hy539]; with_reducible exact H) | (have H2_ := (Option.bind_some _ _).symm.trans H; rw [hy539]; with_reducible exact H2_) | (have H2_ := (Option.bind_some _ _).symm.trans H; with_reducible exact H2_) | with_reducible exact H | (rw [hy539]; exact H) | exact H
                    have Ny539 := Aside0.mk hy539
                    clear hy539
                    by_cases c42 : x8_2.length < 17592186044416
                    ·rw [if_pos c42] at H
                     have LMc42 := Aside0.mk c42
                     clear c42
                     obtain ⟨y542, hy542⟩ : ∃ y_ : List Int, y_ = (x8_2 ++ [x11_1]) := ⟨_, rfl⟩
                     replace H : (if x9_2.length < 17592186044416 then (spec_l20All.l1 k2 y539 y542 (x9_2 ++ [rd t528 x13_2]) y538 x11_1 t528 (wrap64 (x13_2 + 1)) s0_0 s0_1) else (none)) = some (r1, r2, r3) := by first | (rw [hy542]; with_reducible exact H) | (have H2_ := (Option.bind_some _ _).symm.trans H; rw [hy542]; with_reducible exact H2_) | (have H2_ := (Option.bind_some _ _).symm.trans H; with_reducible exact H2_) | with_reducible exact H | (rw [hy542]; exact H) | exact H
                     have Ny542 := Aside0.mk hy542
                     clear hy542
                     by_cases c43 : x9_2.length < 17592186044416
                     ·rw [if_pos c43] at H
                      have LMc43 := Aside0.mk c43
                      clear c43
                      obtain ⟨y546, hy546⟩ : ∃ y_ : List Int, y_ = (x9_2 ++ [rd t528 x13_2]) := ⟨_, rfl⟩
                      replace H : (spec_l20All.l1 k2 y539 y542 y546 y538 x11_1 t528 (wrap64 (x13_2 + 1)) s0_0 s0_1) = some (r1, r2, r3) := by first | (rw [hy546]; with_reducible exact H) | (have H2_ := (Option.bind_some _ _).symm.trans H; rw [hy546]; with_reducible exact H2_) | (have H2_ := (Option.bind_some _ _).symm.trans H; with_reducible exact H2_) | with_reducible exact H | (rw [hy546]; exact H) | exact H
                      have Ny546 := Aside0.mk hy546
                      clear hy546
                      have H' := Aside0.mk H
                      clear H
                      obtain ⟨Ao44, co44, eo44⟩ := Kd.R_slice HO_12.out
                      subst eo44
                      try go_wp2
                      have n0_ := Aside0.mk (Kd.R_drew HO_7.out)
                      have n1_ := Aside0.mk (Kd.R_drew HO_8.out)
                      have n2_ := Aside0.mk (Kd.R_drew HO_9.out)
                      have n3_ := Aside0.mk (Kd.R_drew HO_10.out)
                      have n4_ := Aside0.mk (Kd.R_drew HO_12.out)
                      have n5_ := Aside0.mk (IsS28.drew HI0.out)
                      have n6_ := Aside0.mk (keep_drew HK.out)
                      have n7_ := Aside0.mk (below_drew1 HB.out)
                      clear HO_7
                      clear HO_8
                      clear HO_9
                      clear HO_10
                      clear HO_12
                      clear HI0
                      clear HK
                      clear HB
                      have HO_7 := n0_
                      have HO_8 := n1_
                      have HO_9 := n2_
                      have HO_10 := n3_
                      have HO_12 := n4_
                      have HI0 := n5_
                      have HK := n6_
                      have HB := n7_
                      clear n0_ n1_ n2_ n3_ n4_ n5_ n6_ n7_
                      obtain ⟨Ao46, co46, eo46⟩ := Kd.R_slice HO_7.out
                      (first | subst eo46 | (injection eo46 with f1_ f2_ f3_; have f4_ := f1_.symm; have f5_ := f3_.symm; clear f1_ f2_ f3_; subst f4_; subst f5_))
                      have p531 : 0 ≤ (x11_1 : Int) := od_
                      have q531 : x11_1 < (x7_2.length : Int) := od_
                      obtain ⟨ad531, e531, hx531_0⟩ := Kd.at_string (Kd.R_reads' HO_7.out).2.2 x11_1 p531 q531
                      cases e531
                      replace p531 := eq_true p531
                      replace q531 := eq_true q531
                      have p532 : 0 ≤ (x13_2 : Int) := od_
                      have q532 : x13_2 < (t528.length : Int) := od_
                      obtain ⟨ad532, e532, hx532_0⟩ := Kd.at_int (Kd.R_reads' HO_12.out).2.2 x13_2 p532 q532
                      cases e532
                      replace p532 := eq_true p532
                      replace q532 := eq_true q532
                      refine start_ (n := 15) (S := fun w' => w'.cell? (ad531.add (x11_1).toNat) = some (.string (rdOf ByteArray.empty x7_2 x11_1)) ∧ w'.cell? (ad532.add (x13_2).toNat) = some (.int .i64 (rd t528 x13_2))) (ds := []) #[F_,F_,F_,F_,F_,F_,F_,F_,F_,F_,F_,F_,F_,F_,F_] (by kernel_rfl) rfl rfl ⟨hx531_0, hx532_0⟩ (fun hHeld => ?_); refine with_tabW spec_l20All.tab13 spec_l20All.bits13 (fun HT_ HW_ => ?_)
                      generalize wr.drew = w45 at HO_7 HO_8 HO_9 HO_10 HO_12 HI0 HK HB hx531_0 hx532_0 hHeld ⊢
                      refine pu (i := 0) (N := some 44) #[T_,F_,F_,F_,F_,F_,F_,F_,F_,F_,F_,F_,F_,F_,F_] HT_ ?_
                      refine pu (i := 1) (N := some 45) #[T_,T_,F_,F_,F_,F_,F_,F_,F_,F_,F_,F_,F_,F_,F_] HT_ ?_
                      refine pu (i := 2) (N := some 46) #[T_,T_,T_,F_,F_,F_,F_,F_,F_,F_,F_,F_,F_,F_,F_] HT_ ?_
                      refine pu (i := 3) (N := some 47) #[T_,T_,T_,T_,F_,F_,F_,F_,F_,F_,F_,F_,F_,F_,F_] HT_ ?_
                      refine pu (i := 5) (N := some 49) #[T_,T_,T_,T_,F_,T_,F_,F_,F_,F_,F_,F_,F_,F_,F_] HT_ ?_
                      refine pu (i := 6) (N := some 50) #[T_,T_,T_,T_,F_,T_,T_,F_,F_,F_,F_,F_,F_,F_,F_] HT_ ?_
                      refine pu (i := 7) (N := some 51) #[T_,T_,T_,T_,F_,T_,T_,T_,F_,F_,F_,F_,F_,F_,F_] HT_ ?_
                      refine take_ (i := 4) (N := some 48) (v := ?_) (a' := ?_) #[T_,T_,T_,T_,T_,T_,T_,T_,F_,F_,F_,F_,F_,F_,F_] rfl rfl (take_ofW HT_.out HW_.out (by kernel_rfl)) (fun _ _ _ h => h) (Or.inl ⟨by rfl, ?_⟩) hHeld ?_ ?_
                      rotate_left
                      ·rintro w' ⟨s0, s1⟩
                       go_simp
                       with_reducible rfl
                      rotate_left
                      ·simp only [Act.put, sT_, s0_, sS_, i64_w, i32_w]
                       rfl
                      refine take_ (i := 8) (N := some 52) (v := ?_) (a' := ?_) #[T_,T_,T_,T_,T_,T_,T_,T_,T_,F_,F_,F_,F_,F_,F_] rfl rfl (take_ofW HT_.out HW_.out (by kernel_rfl)) (fun _ _ _ h => h) (Or.inl ⟨by rfl, ?_⟩) hHeld ?_ ?_
                      rotate_left
                      ·rintro w' ⟨s0, s1⟩
                       go_simp
                       with_reducible rfl
                      rotate_left
                      ·simp only [Act.put, sT_, s0_, sS_, i64_w, i32_w]
                       rfl
                      refine one_ (i := 9) (N := some 53) #[T_,T_,T_,T_,T_,T_,T_,T_,T_,T_,F_,F_,F_,F_,F_] rfl rfl (one_of HT_.out (by kernel_rfl)) (by decide) (fun K hK => ?_)
                      refine goes_ Try.func64 (by kernel_rfl) rfl #[.pointer (some ⟨g, 0, none⟩), .string (rdOf ByteArray.empty x7_2 x11_1), .int .i64 (rd t528 x13_2)] (by rfl) rfl rfl ln_ ?_
                      with_reducible refine (spec_l20Change.calls k2 g s0_0 s0_1 (rdOf ByteArray.empty x7_2 x11_1) (rd t528 x13_2) t533 t534 w0 _ ?side1 ?side2 A27.out).mono ?_
                      (case side1 => repeat (first | (with_reducible first | exact HI0.out | apply IsS28.alloc | apply IsS28.drewN | apply IsS28.drew) | exact HI0.out))
                      (case side2 => repeat (first | (with_reducible first | exact HB.out | apply below_alloc | apply pw_below_drewN | apply below_drew1 | refine below_set ?_ (IsS28.ge HI0.out)) | exact HB.out))
                      rintro e w47 ⟨rfl, hi, hb, hk⟩
                      have HS0_ := keep_cell hk (hHeld.1) (by first | (rw [add_block]; exact Kd.own_blk (IsS28.own_ne HI0.out HO_7.out (by decide))) | (show (Addr.add _ _).block ≠ _; rw [add_block]; exact Kd.own_blk (IsS28.own_ne HI0.out HO_7.out (by decide))) | exact Kd.own_blk (IsS28.own_ne HI0.out HO_7.out (by decide)))
                      have HS1_ := keep_cell hk (hHeld.2) (by first | (rw [add_block]; exact Kd.own_blk (IsS28.own_ne HI0.out HO_12.out (by decide))) | (show (Addr.add _ _).block ≠ _; rw [add_block]; exact Kd.own_blk (IsS28.own_ne HI0.out HO_12.out (by decide))) | exact Kd.own_blk (IsS28.own_ne HI0.out HO_12.out (by decide)))
                      refine ⟨_, rfl, ?_⟩
                      have n0_ := Aside0.mk (Kd.R_mono (Kd.R_keep (IsS28.apart (show IsS28 w0 _ g s0_0 s0_1 from by repeat (first | (with_reducible first | exact HI0.out | apply IsS28.alloc | apply IsS28.drewN | apply IsS28.drew) | exact HI0.out)) (kr_ HO_7) (by decide)) hk (fun _ h => h.2)) (fun _ h => h.1))
                      have n1_ := Aside0.mk (Kd.R_mono (Kd.R_keep (IsS28.apart (show IsS28 w0 _ g s0_0 s0_1 from by repeat (first | (with_reducible first | exact HI0.out | apply IsS28.alloc | apply IsS28.drewN | apply IsS28.drew) | exact HI0.out)) (kr_ HO_8) (by decide)) hk (fun _ h => h.2)) (fun _ h => h.1))
                      have n2_ := Aside0.mk (Kd.R_mono (Kd.R_keep (IsS28.apart (show IsS28 w0 _ g s0_0 s0_1 from by repeat (first | (with_reducible first | exact HI0.out | apply IsS28.alloc | apply IsS28.drewN | apply IsS28.drew) | exact HI0.out)) (kr_ HO_9) (by decide)) hk (fun _ h => h.2)) (fun _ h => h.1))
                      have n3_ := Aside0.mk (Kd.R_mono (Kd.R_keep (IsS28.apart (show IsS28 w0 _ g s0_0 s0_1 from by repeat (first | (with_reducible first | exact HI0.out | apply IsS28.alloc | apply IsS28.drewN | apply IsS28.drew) | exact HI0.out)) (kr_ HO_10) (by decide)) hk (fun _ h => h.2)) (fun _ h => h.1))
                      have n4_ := Aside0.mk (Kd.R_mono (Kd.R_keep (IsS28.apart (show IsS28 w0 _ g s0_0 s0_1 from by repeat (first | (with_reducible first | exact HI0.out | apply IsS28.alloc | apply IsS28.drewN | apply IsS28.drew) | exact HI0.out)) (kr_ HO_12) (by decide)) hk (fun _ h => h.2)) (fun _ h => h.1))
                      have n5_ := Aside0.mk (KeepBut.trans (by repeat (first | (with_reducible first | exact HK.out | apply KeepBut.set_ | apply keep_drewN | apply keep_drew | apply keep_alloc) | exact HK.out)) hk (.inl rfl))
                      have n6_ := Aside0.mk (hb)
                      have n7_ := Aside0.mk (hi)
                      clear HO_7
                      clear HO_8
                      clear HO_9
                      clear HO_10
                      clear HO_12
                      clear HK
                      clear HB
                      clear HI0
                      have HO_7 := n0_
                      have HO_8 := n1_
                      have HO_9 := n2_
                      have HO_10 := n3_
                      have HO_12 := n4_
                      have HK := n5_
                      have HB := n6_
                      have HI0 := n7_
                      clear n0_ n1_ n2_ n3_ n4_ n5_ n6_ n7_
                      (try clear hb)
                      (try clear hb2)
                      (try clear hk)
                      (try clear hi)
                      refine hK.out _ _ ⟨HS0_, HS1_⟩ (fun hHeld => ?_)
                      clear hK K
                      refine norm_ (a' := ?_) ?_ ?_
                      rotate_left
                      ·show Act.put _ (some 53) _ = _
                       simp only [Act.put, sT_, s0_, sS_, i64_w, i32_w]
                       rfl
                      refine pu (i := 10) (N := some 43) #[T_,T_,T_,T_,T_,T_,T_,T_,T_,T_,T_,F_,F_,F_,F_] HT_ ?_
                      refine pu (i := 11) (N := some 54) #[T_,T_,T_,T_,T_,T_,T_,T_,T_,T_,T_,T_,F_,F_,F_] HT_ ?_
                      refine pu (i := 12) (N := some 55) #[T_,T_,T_,T_,T_,T_,T_,T_,T_,T_,T_,T_,T_,F_,F_] HT_ ?_
                      refine pu (i := 13) (N := some 14) #[T_,T_,T_,T_,T_,T_,T_,T_,T_,T_,T_,T_,T_,T_,F_] HT_ ?_
                      refine pu (i := 14) (N := some 15) #[T_,T_,T_,T_,T_,T_,T_,T_,T_,T_,T_,T_,T_,T_,T_] HT_ ?_
                      refine done_ (done_of HT_.out (by kernel_rfl)) ?_
                      try go_wp2_with (first | ((with_reducible refine gate_callee (f := 78) rfl ?_); refine goesL_ (some 58) rfl rfl Try.func78 (by kernel_rfl) rfl #[.string t533] rfl ln_ ?_; (with_reducible refine (spec_l20Number.calls k2 t533 t535 _ A28.out).mono ?_); rintro e w' ⟨rfl, ⟨nd, rfl⟩⟩; refine ⟨_, rfl, ?_⟩; (try (rw [drewN_self w47]; generalize hq_ : World.drewN w47 _ = w47; have n0_ : Aside0 (Kd.R Kd.bool 4 w47 w.heap.size (fun _ => True) (.slice (some ⟨go7, 0, none⟩) x10_2.length co7) x10_2) := ⟨by rw [← hq_]; exact (kr_ HO_10)⟩; have n1_ : Aside0 (Kd.R (Kd.int .i64) 2 w47 w.heap.size (fun k_ => some k_ ≠ (u9 : Value).ownBlock) (.slice (some ad532) t528.length co44) t528) := ⟨by rw [← hq_]; exact (kr_ HO_12)⟩; have n2_ : Aside0 (Kd.R Kd.string 9 w47 w.heap.size (fun _ => True) (.slice (some ad531) x7_2.length co46) x7_2) := ⟨by rw [← hq_]; exact (kr_ HO_7)⟩; have n3_ : Aside0 (Kd.R (Kd.int .i64) 3 w47 w.heap.size (fun _ => True) u8 x8_2) := ⟨by rw [← hq_]; exact (kr_ HO_8)⟩; have n4_ : Aside0 (Kd.R (Kd.int .i64) 2 w47 w.heap.size (fun k_ => some k_ ≠ (.slice (some ad532) t528.length co44 : Value).ownBlock) u9 x9_2) := ⟨by rw [← hq_]; exact (kr_ HO_9)⟩; have n5_ : Aside0 (IsS28 w0 w47 g s0_0 s0_1) := ⟨by rw [← hq_]; exact (by repeat (first | (with_reducible first | exact HI0.out | apply IsS28.alloc | apply IsS28.drewN | apply IsS28.drew) | exact HI0.out))⟩; have n6_ : Aside0 (KeepBut w w47 g none) := ⟨by rw [← hq_]; exact (by repeat (first | (with_reducible first | exact HK.out | apply KeepBut.set_ | apply keep_drewN | apply keep_drew | apply keep_alloc) | exact HK.out))⟩; have n7_ : Aside0 (Below w0.heap.size w0 w47) := ⟨by rw [← hq_]; exact (by repeat (first | (with_reducible first | exact HB.out | apply below_alloc | apply pw_below_drewN | apply below_drew1 | refine below_set ?_ (IsS28.ge HI0.out)) | exact HB.out))⟩; clear HO_10 HO_12 HO_7 HO_8 HO_9 HI0 HK HB hq_; have HO_10 := n0_; have HO_12 := n1_; have HO_7 := n2_; have HO_8 := n3_; have HO_9 := n4_; have HI0 := n5_; have HK := n6_; have HB := n7_; clear n0_ n1_ n2_ n3_ n4_ n5_ n6_ n7_)); have p536 : 0 ≤ (t535 : Int) := od_; have q536 : t535 < (x10_2.length : Int) := od_; obtain ⟨ad536, e536, hx536_0⟩ := Kd.at_bool (Kd.R_reads' HO_10.out).2.2 t535 p536 q536; (try rw [← Nbq31.out] at hx536_0); obtain rfl : (⟨go7, 0, none⟩ : Addr) = ad536 := (by injection e536); (first | simp only [add_plain] at hx536_0 | simp only [add_at] at hx536_0 | simp only [Addr.add, Nat.zero_add] at hx536_0 | skip); replace p536 := eq_true p536; replace q536 := eq_true q536) | ((with_reducible refine gate_callee (f := 78) rfl ?_); refine goesL_ (some 64) rfl rfl Try.func78 (by kernel_rfl) rfl #[.string t533] rfl ln_ ?_; (with_reducible refine (spec_l20Number.calls k2 t533 t537 _ A37.out).mono ?_); rintro e w' ⟨rfl, ⟨nd, rfl⟩⟩; refine ⟨_, rfl, ?_⟩; (try (rw [drewN_self w47]; generalize hq_ : World.drewN w47 _ = w47; have n0_ : Aside0 (Kd.R Kd.bool 4 w47 w.heap.size (fun _ => True) (.slice (some ⟨go7, 0, none⟩) x10_2.length co7) x10_2) := ⟨by rw [← hq_]; exact (kr_ HO_10)⟩; have n1_ : Aside0 (Kd.R (Kd.int .i64) 2 w47 w.heap.size (fun k_ => some k_ ≠ (u9 : Value).ownBlock) (.slice (some ad532) t528.length co44) t528) := ⟨by rw [← hq_]; exact (kr_ HO_12)⟩; have n2_ : Aside0 (Kd.R Kd.string 9 w47 w.heap.size (fun _ => True) (.slice (some ad531) x7_2.length co46) x7_2) := ⟨by rw [← hq_]; exact (kr_ HO_7)⟩; have n3_ : Aside0 (Kd.R (Kd.int .i64) 3 w47 w.heap.size (fun _ => True) u8 x8_2) := ⟨by rw [← hq_]; exact (kr_ HO_8)⟩; have n4_ : Aside0 (Kd.R (Kd.int .i64) 2 w47 w.heap.size (fun k_ => some k_ ≠ (.slice (some ad532) t528.length co44 : Value).ownBlock) u9 x9_2) := ⟨by rw [← hq_]; exact (kr_ HO_9)⟩; have n5_ : Aside0 (IsS28 w0 w47 g s0_0 s0_1) := ⟨by rw [← hq_]; exact (by repeat (first | (with_reducible first | exact HI0.out | apply IsS28.alloc | apply IsS28.drewN | apply IsS28.drew) | exact HI0.out))⟩; have n6_ : Aside0 (KeepBut w w47 g none) := ⟨by rw [← hq_]; exact (by repeat (first | (with_reducible first | exact HK.out | apply KeepBut.set_ | apply keep_drewN | apply keep_drew | apply keep_alloc) | exact HK.out))⟩; have n7_ : Aside0 (Below w0.heap.size w0 w47) := ⟨by rw [← hq_]; exact (by repeat (first | (with_reducible first | exact HB.out | apply below_alloc | apply pw_below_drewN | apply below_drew1 | refine below_set ?_ (IsS28.ge HI0.out)) | exact HB.out))⟩; clear HO_10 HO_12 HO_7 HO_8 HO_9 HI0 HK HB hq_; have HO_10 := n0_; have HO_12 := n1_; have HO_7 := n2_; have HO_8 := n3_; have HO_9 := n4_; have HI0 := n5_; have HK := n6_; have HB := n7_; clear n0_ n1_ n2_ n3_ n4_ n5_ n6_ n7_)); have p40 : 0 ≤ (t537 : Int) := od_; have q40 : (t537 : Int) < ((x10_2.length : Int) : Int) := od_; obtain ⟨hx40_0, hf40_0⟩ := Kd.R_celln false HO_10.out (t537 : Int) p40 q40; replace p40 := eq_true p40; replace q40 := eq_true q40; obtain ⟨hy48_, hz48_⟩ := Kd.R_celln false HO_10.out (t537 : Int) (od_) (od_); have HP48 := Kd.R_putg HO_10.out (t537 : Int) true) | ((with_reducible refine gate_store (t := 4) (p := 65) rfl ?_); refine store_event (t := 4) (p := 65) (v := ?vo_w49) (w1 := (w47.setCell ⟨go7, (t537 : Int).toNat, none⟩ (.bool true))) ?hg ?ho ?hn ?hr ?_; (case ho => rfl); (case hg => rfl); (case hn => rfl); (case hr => first | (go_simp; done) | (go_simp; rfl)); intro w49 hw; have hg : w47.grownBy w49 (some go7) := (by rw [hw]; exact HP48.2); have hp_ : Kd.R Kd.bool 4 w49 w.heap.size (fun _ => True) (.slice (some ⟨go7, 0, none⟩) x10_2.length co7) y538 := (by rw [hw, Ny538.out]; exact HP48.1); clear HP48; have n0_ := Aside0.mk (Kd.R_over' (v := (.slice (some ⟨go7, 0, none⟩) x10_2.length co7)) (kr_ HO_7) (Kd.R_typed HO_10.out) (by decide) hg); have n1_ := Aside0.mk (Kd.R_over' (v := (.slice (some ⟨go7, 0, none⟩) x10_2.length co7)) (kr_ HO_8) (Kd.R_typed HO_10.out) (by decide) hg); have n2_ := Aside0.mk (Kd.R_over' (v := (.slice (some ⟨go7, 0, none⟩) x10_2.length co7)) (kr_ HO_9) (Kd.R_typed HO_10.out) (by decide) hg); have n3_ := Aside0.mk (hp_); have n4_ := Aside0.mk (Kd.R_over' (v := (.slice (some ⟨go7, 0, none⟩) x10_2.length co7)) (kr_ HO_12) (Kd.R_typed HO_10.out) (by decide) hg); have n5_ := Aside0.mk (IsS28.grown (by repeat (first | (with_reducible first | exact HI0.out | apply IsS28.alloc | apply IsS28.drewN | apply IsS28.drew) | exact HI0.out)) hg (IsS28.own_ne HI0.out HO_10.out (by decide))); have n6_ := Aside0.mk ((by rw [hw]; exact below_set (HB.out) (Nat.le_trans HL.out GB7.out) : Below w0.heap.size w0 w49)); have n7_ := Aside0.mk (KeepBut.trans (by repeat (first | (with_reducible first | exact HK.out | apply KeepBut.set_ | apply keep_drewN | apply keep_drew | apply keep_alloc) | exact HK.out)) (KeepBut.of_grown hg g) (Kd.R_base2 HO_10.out)); clear HO_7; clear HO_8; clear HO_9; clear HO_10; clear HO_12; clear HI0; clear HB; clear HK; have HO_7 := n0_; have HO_8 := n1_; have HO_9 := n2_; have HO_10 := n3_; have HO_12 := n4_; have HI0 := n5_; have HB := n6_; have HK := n7_; clear n0_ n1_ n2_ n3_ n4_ n5_ n6_ n7_; clear hg hw hp_) | ((with_reducible refine gate_builtin (b := .append) (xs := #[.tmp 66, .tmp 68]) rfl ?_); at_builtin; refine Kd.R_append Kd.string w.heap.size rfl (.tmp 66) (.tmp 68) 72 9 (.string ⟨#[]⟩) 16 rfl Try.underlying72 info9 rfl (by decide) (by omega) (.slice (some ad531) x7_2.length co46) x7_2 t533 [.string t533] (fun _ => True) (fun _ => False) rfl rfl ?aP (fun _ hk => hk.elim) ?aF ?aO (Below.refl _ _) ?aS ?aL ?_; (case aP => exact rfl); (case aF => exact (fun _ _ => trivial)); (case aO => exact (kr_ HO_7)); (case aS => exact (keep_size (w := w) (g := g) (row := none) (by repeat (first | (with_reducible first | exact HK.out | apply KeepBut.set_ | apply keep_drewN | apply keep_drew | apply keep_alloc) | exact HK.out)))); (case aL => have := LMc41.out; omega); intro v540 w50 ho hb hg hat; rw [← Ny539.out] at ho; have n0_ := Aside0.mk (Kd.R_over' (kr_ HO_8) (Kd.R_typed (kr_ HO_7)) (by decide) hg); have n1_ := Aside0.mk (Kd.R_over' (kr_ HO_9) (Kd.R_typed (kr_ HO_7)) (by decide) hg); have n2_ := Aside0.mk (Kd.R_over' (kr_ HO_10) (Kd.R_typed (kr_ HO_7)) (by decide) hg); have n3_ := Aside0.mk (Kd.R_over' (kr_ HO_12) (Kd.R_typed (kr_ HO_7)) (by decide) hg); have n4_ := Aside0.mk (IsS28.grown (by repeat (first | (with_reducible first | exact HI0.out | apply IsS28.alloc | apply IsS28.drewN | apply IsS28.drew) | exact HI0.out)) hg (IsS28.own_ne HI0.out HO_7.out (by decide))); have n5_ := Aside0.mk (below_weaken (by repeat (first | (with_reducible first | exact HB.out | apply below_alloc | apply pw_below_drewN | apply below_drew1 | refine below_set ?_ (IsS28.ge HI0.out)) | exact HB.out)) HL.out hb); have n6_ := Aside0.mk (KeepBut.trans (by repeat (first | (with_reducible first | exact HK.out | apply KeepBut.set_ | apply keep_drewN | apply keep_drew | apply keep_alloc) | exact HK.out)) (KeepBut.of_grown hg g) (Kd.R_base2 HO_7.out)); have n7_ := Aside0.mk (ho); clear HO_8; clear HO_9; clear HO_10; clear HO_12; clear HI0; clear HB; clear HK; clear HO_7; have HO_8 := n0_; have HO_9 := n1_; have HO_10 := n2_; have HO_12 := n3_; have HI0 := n4_; have HB := n5_; have HK := n6_; have HO541 := n7_; clear n0_ n1_ n2_ n3_ n4_ n5_ n6_ n7_; clear ho hb hg hat) | ((with_reducible refine gate_builtin (b := .append) (xs := #[.tmp 70, .tmp 72]) rfl ?_); at_builtin; refine Kd.R_append (Kd.int .i64) w.heap.size rfl (.tmp 70) (.tmp 72) 73 3 (.int .i64 0) 8 rfl Try.underlying73 info3 rfl (by decide) (by omega) u8 x8_2 x11_1 [.int .i64 x11_1] (fun _ => True) (fun _ => False) rfl rfl ?aP (fun _ hk => hk.elim) ?aF ?aO (Below.refl _ _) ?aS ?aL ?_; (case aP => exact rfl); (case aF => exact (fun _ _ => trivial)); (case aO => exact (kr_ HO_8)); (case aS => exact (keep_size (w := w) (g := g) (row := none) (by repeat (first | (with_reducible first | exact HK.out | apply KeepBut.set_ | apply keep_drewN | apply keep_drew | apply keep_alloc) | exact HK.out)))); (case aL => have := LMc42.out; omega); intro v543 w51 ho hb hg hat; rw [← Ny542.out] at ho; have n0_ := Aside0.mk (Kd.R_over' (kr_ HO_9) (Kd.R_typed (kr_ HO_8)) (by decide) hg); have n1_ := Aside0.mk (Kd.R_over' (kr_ HO_10) (Kd.R_typed (kr_ HO_8)) (by decide) hg); have n2_ := Aside0.mk (Kd.R_over' (kr_ HO_12) (Kd.R_typed (kr_ HO_8)) (by decide) hg); have n3_ := Aside0.mk (IsS28.grown (by repeat (first | (with_reducible first | exact HI0.out | apply IsS28.alloc | apply IsS28.drewN | apply IsS28.drew) | exact HI0.out)) hg (IsS28.own_ne HI0.out HO_8.out (by decide))); have n4_ := Aside0.mk (Kd.R_over' (kr_ HO541) (Kd.R_typed (kr_ HO_8)) (by decide) hg); have n5_ := Aside0.mk (below_weaken (by repeat (first | (with_reducible first | exact HB.out | apply below_alloc | apply pw_below_drewN | apply below_drew1 | refine below_set ?_ (IsS28.ge HI0.out)) | exact HB.out)) HL.out hb); have n6_ := Aside0.mk (KeepBut.trans (by repeat (first | (with_reducible first | exact HK.out | apply KeepBut.set_ | apply keep_drewN | apply keep_drew | apply keep_alloc) | exact HK.out)) (KeepBut.of_grown hg g) (Kd.R_base2 HO_8.out)); have n7_ := Aside0.mk (ho); clear HO_9; clear HO_10; clear HO_12; clear HI0; clear HO541; clear HB; clear HK; clear HO_8; have HO_9 := n0_; have HO_10 := n1_; have HO_12 := n2_; have HI0 := n3_; have HO541 := n4_; have HB := n5_; have HK := n6_; have HO544 := n7_; clear n0_ n1_ n2_ n3_ n4_ n5_ n6_ n7_; clear ho hb hg hat; have p545 : 0 ≤ (x13_2 : Int) := od_; have q545 : x13_2 < (t528.length : Int) := od_; obtain ⟨ad545, e545, hx545_0⟩ := Kd.at_int (Kd.R_reads' HO_12.out).2.2 x13_2 p545 q545; obtain rfl : ad532 = ad545 := (by injection e545); replace p545 := eq_true p545; replace q545 := eq_true q545) | ((with_reducible refine gate_builtin (b := .append) (xs := #[.tmp 74, .tmp 79]) rfl ?_); at_builtin; refine Kd.R_append (Kd.int .i64) w.heap.size rfl (.tmp 74) (.tmp 79) 22 2 (.int .i64 0) 8 rfl Try.underlying22 info2 rfl (by decide) (by omega) u9 x9_2 (rd t528 x13_2) [.int .i64 (rd t528 x13_2)] (fun k_ => some k_ ≠ (.slice (some ad532) t528.length co44 : Value).ownBlock) (fun _ => False) rfl rfl ?aP (fun _ hk => hk.elim) ?aF ?aO (Below.refl _ _) ?aS ?aL ?_; (case aP => exact rfl); (case aF => exact (fun k_ hk => Kd.fresh' (Kd.R_lt (kr_ HO_12)) k_ hk)); (case aO => exact (kr_ HO_9)); (case aS => exact (keep_size (w := w) (g := g) (row := none) (by repeat (first | (with_reducible first | exact HK.out | apply KeepBut.set_ | apply keep_drewN | apply keep_drew | apply keep_alloc) | exact HK.out)))); (case aL => have := LMc43.out; omega); intro v547 w52 ho hb hg hat; rw [← Ny546.out] at ho; have n0_ := Aside0.mk (Kd.R_over' (kr_ HO_10) (Kd.R_typed (kr_ HO_9)) (by decide) hg); have n1_ := Aside0.mk (Kd.R_after (ok := (fun _ => True)) (by (with_reducible repeat (first | apply Kd.R_alloc | apply Kd.R_drewN | apply Kd.R_drew)); exact Kd.R_mono HO_12.out (fun _ hk => ⟨trivial, hk⟩)) hg hat); have n2_ := Aside0.mk (IsS28.grown (by repeat (first | (with_reducible first | exact HI0.out | apply IsS28.alloc | apply IsS28.drewN | apply IsS28.drew) | exact HI0.out)) hg (IsS28.own_ne HI0.out HO_9.out (by decide))); have n3_ := Aside0.mk (Kd.R_over' (kr_ HO541) (Kd.R_typed (kr_ HO_9)) (by decide) hg); have n4_ := Aside0.mk (Kd.R_over' (kr_ HO544) (Kd.R_typed (kr_ HO_9)) (by decide) hg); have n5_ := Aside0.mk (below_weaken (by repeat (first | (with_reducible first | exact HB.out | apply below_alloc | apply pw_below_drewN | apply below_drew1 | refine below_set ?_ (IsS28.ge HI0.out)) | exact HB.out)) HL.out hb); have n6_ := Aside0.mk (KeepBut.trans (by repeat (first | (with_reducible first | exact HK.out | apply KeepBut.set_ | apply keep_drewN | apply keep_drew | apply keep_alloc) | exact HK.out)) (KeepBut.of_grown hg g) (Kd.R_base2 HO_9.out)); have n7_ := Aside0.mk (ho); clear HO_10; clear HO_12; clear HI0; clear HO541; clear HO544; clear HB; clear HK; clear HO_9; have HO_10 := n0_; have HO_12 := n1_; have HI0 := n2_; have HO541 := n3_; have HO544 := n4_; have HB := n5_; have HK := n6_; have HO548 := n7_; clear n0_ n1_ n2_ n3_ n4_ n5_ n6_ n7_; clear ho hb hg hat))
                      (try simp only [← hl10_2])
                      go_roundg k2
                      case measure => have := HK1.out; have := HK2.out; omega
                      case rel => exact ⟨(y539), (y542), (y546), (y538), (wrap64 (x13_2 + 1)), (by first | rfl | (simp; done) | (simp [*]; done)), H', ⟨by have := HK1.out; have := HK2.out; omega⟩, ⟨by (try simp only [hl10_1]); (try simp only [hl10_2]); (with_reducible repeat (first | apply Kd.R_alloc | apply Kd.R_drewN | apply Kd.R_drew)); exact HO541.out⟩, ⟨by (try simp only [hl10_1]); (try simp only [hl10_2]); (with_reducible repeat (first | apply Kd.R_alloc | apply Kd.R_drewN | apply Kd.R_drew)); exact HO544.out⟩, ⟨by (try simp only [hl10_1]); (try simp only [hl10_2]); (with_reducible repeat (first | apply Kd.R_alloc | apply Kd.R_drewN | apply Kd.R_drew)); exact HO548.out⟩, ⟨by (try simp only [hl10_1]); (try simp only [hl10_2]); (with_reducible repeat (first | apply Kd.R_alloc | apply Kd.R_drewN | apply Kd.R_drew)); exact HO_10.out⟩, ⟨by (try simp only [hl10_1]); (try simp only [hl10_2]); (with_reducible repeat (first | apply Kd.R_alloc | apply Kd.R_drewN | apply Kd.R_drew)); exact Kd.R_mono HO_12.out (fun _ hk => hk.2)⟩, ⟨by repeat (first | (with_reducible first | exact HI0.out | apply IsS28.alloc | apply IsS28.drewN | apply IsS28.drew) | exact HI0.out)⟩, ⟨by repeat (first | (with_reducible first | exact HK.out | apply KeepBut.set_ | apply keep_drewN | apply keep_drew | apply keep_alloc) | exact HK.out)⟩, ⟨by repeat (first | (with_reducible first | exact HB.out | apply below_alloc | apply pw_below_drewN | apply below_drew1 | refine below_set ?_ (IsS28.ge HI0.out)) | exact HB.out)⟩⟩
                     ·rw [if_neg c43] at H
                      exact absurd H (by simp)
                    ·rw [if_neg c42] at H
                     exact absurd H (by simp)
                   ·rw [if_neg c41] at H
                    exact absurd H (by simp)
                  ·rw [if_neg c39] at H
                   exact absurd H (by simp)
                 ·rw [if_neg c38] at H
                  exact absurd H (by simp)
               ·rw [if_neg c30] at H
                exact absurd H (by simp)
              ·rw [if_neg c29] at H
               exact absurd H (by simp)
             ·rw [if_neg c26] at H
              exact absurd H (by simp)
            ·rw [if_neg c25] at H
             exact absurd H (by simp)
           ·rw [if_neg c24] at H
            exact absurd H (by simp)
          ·rw [if_neg c23] at H
           have c23b0 : decide (x13_2 < (t528.length : Int)) = false := decide_eq_false c23
           clear c23
           have H' := Aside0.mk H
           clear H
           obtain ⟨Ao53, co53, eo53⟩ := Kd.R_slice HO_12.out
           subst eo53
           go_wp2
           (try simp only [← hl10_1, ← hl10_2])
           go_roundg k2
           case measure => have := HK1.out; have := HK2.out; omega
           case rel => exact ⟨(x7_2), (x8_2), (x9_2), (x10_2), (wrap64 (x11_1 + 1)), (by first | rfl | (simp; done) | (simp [*]; done)), H', ⟨by have := HK1.out; have := HK2.out; omega⟩, ⟨by (try simp only [hl10_1]); (try simp only [hl10_2]); (with_reducible repeat (first | apply Kd.R_alloc | apply Kd.R_drewN | apply Kd.R_drew)); exact HO_7.out⟩, ⟨by (try simp only [hl10_1]); (try simp only [hl10_2]); (with_reducible repeat (first | apply Kd.R_alloc | apply Kd.R_drewN | apply Kd.R_drew)); exact HO_8.out⟩, ⟨by (try simp only [hl10_1]); (try simp only [hl10_2]); (with_reducible repeat (first | apply Kd.R_alloc | apply Kd.R_drewN | apply Kd.R_drew)); exact Kd.R_mono HO_9.out (fun _ hk => trivial)⟩, ⟨by (try simp only [hl10_1]); (try simp only [hl10_2]); (with_reducible repeat (first | apply Kd.R_alloc | apply Kd.R_drewN | apply Kd.R_drew)); exact HO_10.out⟩, ⟨by repeat (first | (with_reducible first | exact HI0.out | apply IsS28.alloc | apply IsS28.drewN | apply IsS28.drew) | exact HI0.out)⟩, ⟨by repeat (first | (with_reducible first | exact HK.out | apply KeepBut.set_ | apply keep_drewN | apply keep_drew | apply keep_alloc) | exact HK.out)⟩, ⟨by repeat (first | (with_reducible first | exact HB.out | apply below_alloc | apply pw_below_drewN | apply below_drew1 | refine below_set ?_ (IsS28.ge HI0.out)) | exact HB.out)⟩⟩
       ·rw [if_neg c19] at H
        exact absurd H (by simp)
      ·rw [if_neg c18] at H
       have c18b0 : decide (x11_1 < (x7_1.length : Int)) = false := decide_eq_false c18
       clear c18
       simp only [Option.some.injEq, Prod.mk.injEq] at H
       obtain ⟨rfl, rfl, rfl⟩ := H
       obtain ⟨Ao54, co54, eo54⟩ := Kd.R_slice HO_7.out
       subst eo54
       go_wp2
       go_ret3
       exact ⟨_, _, _, ew_, by (with_reducible repeat (first | apply Kd.R_alloc | apply Kd.R_drewN | apply Kd.R_drew)); exact HO_7.out, by (with_reducible repeat (first | apply Kd.R_alloc | apply Kd.R_drewN | apply Kd.R_drew)); exact HO_8.out, by (with_reducible repeat (first | apply Kd.R_alloc | apply Kd.R_drewN | apply Kd.R_drew)); exact HO_9.out, by repeat (first | (with_reducible first | exact HI0.out | apply IsS28.alloc | apply IsS28.drewN | apply IsS28.drew) | exact HI0.out), by repeat (first | (with_reducible first | exact HB.out | apply below_alloc | apply pw_below_drewN | apply below_drew1 | refine below_set ?_ (IsS28.ge HI0.out)) | exact HB.out), by repeat (first | (with_reducible first | exact HK.out | apply KeepBut.set_ | apply keep_drewN | apply keep_drew | apply keep_alloc) | exact HK.out)⟩
   ·rw [if_neg c6] at H
    exact absurd H (by simp)
  ·rw [if_neg c5] at H
   exact absurd H (by simp)
 ·rw [if_neg c3] at H
  exact absurd H (by simp)

end Go.Proofs.Ytfkiamccipoioaa.P
end
