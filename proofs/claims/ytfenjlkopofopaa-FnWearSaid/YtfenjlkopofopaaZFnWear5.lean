/- Texts of this claim, packed: Px3. -/
import Derived.Test.YtfenjlkopofopaaZFnWear4
section
-- Written by gprint.py (own program, over the printer of the kit) out of the translation. Lean checks it.
namespace Go.Proofs.Ytfenjlkopofopaa.P
open Go.RowKit Go.Proofs.YtfenjlkopofopaaW.PrintWords Go.Proofs.YtfenjlkopofopaaW.PrintLast Go.Proofs.YtfenjlkopofopaaW.PrintMore Go.Proofs.YtfenjlkopofopaaW.Pk
open Bool renaming true → T_, false → F_
open List renaming setIfInBounds_toArray → sT_, set_cons_zero → s0_, set_cons_succ → sS_
attribute [local go_sem] max2_int min2_int max_two min_two max_three min_three max_four min_four   -- for this text's walks alone
set_option linter.unusedVariables false
set_option linter.unusedSimpArgs false

/-! ### spec_l21DrawChecks: function 102 -/
mutual
def spec_l21DrawChecks.l0 : Nat → List (S72) → List (S75) → Int → Int → List Int → Int → Int → Option ((List (S75)) × Int × Int)
 | 0, _, _, _, _, _, _, _ => none
 | k + 1, x1, x5, x6, x7, x1000, x1001, x1002 => if x7 > 0 then (spec_l21DrawChecks.j1 k x1 x5 x6 x7 (decide ((x1.length : Int) > 0)) x1000 x1001 x1002) else (spec_l21DrawChecks.j1 k x1 x5 x6 x7 false x1000 x1001 x1002)
def spec_l21DrawChecks.j1 : Nat → List (S72) → List (S75) → Int → Int → Bool → List Int → Int → Int → Option ((List (S75)) × Int × Int)
 | 0, _, _, _, _, _, _, _, _ => none
 | k + 1, x1, x5, x6, x7, x22, x1000, x1001, x1002 => if x22 = true then ((spec_l00Src_pick.f x1000 x1001 x1002 (x1.length : Int)).bind fun bt290 => (if 0 ≤ bt290.1 then (if bt290.1 < (x1.length : Int) then ((spec_l00Src_pick.f x1000 bt290.2.1 bt290.2.2 40).bind fun bt295 => ((spec_l00Src_pick.f x1000 bt295.2.1 bt295.2.2 30).bind fun bt298 => ((spec_AddCheck.f k x1 x5 ((rd_T72 x1 bt290.1).f0) x6 (wrap64 (10 * bt295.1))).bind fun bt301 => (if bt301.2 = 0 then (spec_l21DrawChecks.l0 k x1 bt301.1 (wrap64 (x6 + bt298.1)) (wrap64 (x7 - 1)) x1000 bt298.2.1 bt298.2.2) else (spec_l21DrawChecks.l0 k x1 x5 (wrap64 (x6 + bt298.1)) (wrap64 (x7 - 1)) x1000 bt298.2.1 bt298.2.2))))) else (none)) else (none))) else (if (x1.length : Int) > 0 then ((spec_l00Src_one.f x1000 x1001 x1002 20).bind fun bt305 => (spec_l21DrawChecks.j2 k x1 x5 bt305.1 x1000 bt305.2.1 bt305.2.2)) else (spec_l21DrawChecks.j2 k x1 x5 false x1000 x1001 x1002))
def spec_l21DrawChecks.j2 : Nat → List (S72) → List (S75) → Bool → List Int → Int → Int → Option ((List (S75)) × Int × Int)
 | 0, _, _, _, _, _, _ => none
 | k + 1, x1, x5, x59, x1000, x1001, x1002 => if x59 = true then ((spec_l00Src_pick.f x1000 x1001 x1002 2).bind fun bt311 => (spec_l21DrawChecks.l1 k x1 (([] : List (S75))) (wrap64 (60 + bt311.1)) x1000 bt311.2.1 bt311.2.2)) else (spec_l21DrawChecks.j4 k x5 x1000 x1001 x1002)
def spec_l21DrawChecks.j4 : Nat → List (S75) → List Int → Int → Int → Option ((List (S75)) × Int × Int)
 | 0, _, _, _, _ => none
 | k + 1, x5, x1000, x1001, x1002 => if (x5.length : Int) > 0 then ((spec_l00Src_pick.f x1000 x1001 x1002 (x5.length : Int)).bind fun bt318 => (if 0 ≤ bt318.1 then (if bt318.1 < (x5.length : Int) then ((spec_l00Src_pick.f x1000 bt318.2.1 bt318.2.2 20).bind fun bt321 => (if bt321.1 = 0 then ((spec_l00Src_among.f x1000 bt321.2.1 bt321.2.2 (([(-1), 0, 20000, 20001] : List Int))).bind fun bt327 => (some ((x5.set (bt318.1 : Int).toNat (⟨(rd_T75 x5 bt318.1).f0, bt327.1, (rd_T75 x5 bt318.1).f2⟩ : S75)), bt327.2.1, bt327.2.2))) else (if bt321.1 = 1 then ((spec_l00Src_among.f x1000 bt321.2.1 bt321.2.2 (([(-1), 0, 1000000, 1000001] : List Int))).bind fun bt334 => (some ((x5.set (bt318.1 : Int).toNat (⟨(rd_T75 x5 bt318.1).f0, (rd_T75 x5 bt318.1).f1, bt334.1⟩ : S75)), bt334.2.1, bt334.2.2))) else (if bt321.1 = 2 then ((spec_l00Src_text.f x1000 bt321.2.1 bt321.2.2 (([(⟨#[]⟩ : ByteArray), (⟨#[110, 111, 110, 101]⟩ : ByteArray), (⟨#[98, 97, 99, 107, 115, 116, 97, 121]⟩ : ByteArray)] : List ByteArray))).bind fun bt341 => (some ((x5.set (bt318.1 : Int).toNat (⟨bt341.1, (rd_T75 x5 bt318.1).f1, (rd_T75 x5 bt318.1).f2⟩ : S75)), bt341.2.1, bt341.2.2))) else (some (x5, bt321.2.1, bt321.2.2)))))) else (none)) else (none))) else (some (x5, x1001, x1002))
def spec_l21DrawChecks.l1 : Nat → List (S72) → List (S75) → Int → List Int → Int → Int → Option ((List (S75)) × Int × Int)
 | 0, _, _, _, _, _, _ => none
 | k + 1, x1, x5, x11, x1000, x1001, x1002 => if x11 > 0 then (if 0 < (x1.length : Int) then (if x5.length < 4398046511104 then (spec_l21DrawChecks.l1 k x1 (x5 ++ [(⟨(rd_T72 x1 0).f0, wrap64 (100 + (x5.length : Int)), 0⟩ : S75)]) (wrap64 (x11 - 1)) x1000 x1001 x1002) else (none)) else (none)) else (spec_l21DrawChecks.j4 k x5 x1000 x1001 x1002)
end
def spec_l21DrawChecks.f (k : Nat) (s0_0 : List Int) (s0_1 : Int) (s0_2 : Int) (l1 : List (S72)) : Option ((List (S75)) × Int × Int) := (spec_l00Src_pick.f s0_0 s0_1 s0_2 9).bind fun bt287 => (spec_l21DrawChecks.l0 k l1 (([] : List (S75))) 100 bt287.1 s0_0 bt287.2.1 bt287.2.2)
set_option maxHeartbeats 8000000 in
set_option maxRecDepth 100000 in
theorem spec_l21DrawChecks.calls (k : Nat) (g : Nat) (s0_0 : List Int) (s0_1 : Int) (s0_2 : Int) (A1 : Option Addr) (c1 : Nat) (l1 : List (S72)) (r1 : List (S75)) (r2 : Int) (r3 : Int) (w0 w : World) (hI : IsS135 w0 w g s0_0 s0_1 s0_2) (hB : Below w0.heap.size w0 w) (hr1 : ∀ W_, KeepBut w W_ g none → Kd.C k72 W_ A1 l1.length l1) (hc1 : l1.length ≤ c1) (h : spec_l21DrawChecks.f k s0_0 s0_1 s0_2 l1 = some (r1, r2, r3)) :
  Calls Try.prog 102 #[.pointer (some ⟨g, 0, none⟩), .slice A1 l1.length c1] w fun e w' => ∃ v0_ : Value, e = .returned (v0_) ∧ Kd.R k75 75 w' w.heap.size (fun _ => True) v0_ r1 ∧ IsS135 w0 w' g s0_0 r2 r3 ∧ Below w0.heap.size w0 w' ∧ KeepBut w w' g none := by
 have hu75 := Try.underlying75
 have HR1 := ak_ hr1
 have HC1 := ak_ hc1
 clear hr1 hc1
 have HI0 := ak_ hI
 have HK := ak_ (KeepBut.refl w g none)
 have HL := ak_ hB.size
 clear hI
 have HW0 := ak_ hB.size
 have HB := ak_ hB
 clear hB
 have H : ((spec_l00Src_pick.f s0_0 s0_1 s0_2 9).bind fun bt287 => (spec_l21DrawChecks.l0 k l1 (([] : List (S75))) 100 bt287.1 s0_0 bt287.2.1 bt287.2.2)) = some (r1, r2, r3) := h
 clear h
 obtain ⟨y284, hy284⟩ : ∃ y_ : List (S75), y_ = (([] : List (S75))) := ⟨_, rfl⟩
 replace H : ((spec_l00Src_pick.f s0_0 s0_1 s0_2 9).bind fun bt287 => (spec_l21DrawChecks.l0 k l1 y284 100 bt287.1 s0_0 bt287.2.1 bt287.2.2)) = some (r1, r2, r3) := by first | (rw [hy284]; with_reducible exact H) | (have H2_ := (Option.bind_some _ _).symm.trans H; rw [hy284]; with_reducible exact H2_) | (have H2_ := (Option.bind_some _ _).symm.trans H; with_reducible exact H2_) | with_reducible exact H | (rw [hy284]; exact H) | exact H
 have Ny284 := ak_ hy284
 clear hy284
 replace H := ob_ H
 obtain ⟨⟨t287, t288, t289⟩, A30, H⟩ := H
 replace H : (spec_l21DrawChecks.l0 k l1 y284 100 t287 s0_0 t288 t289) = some (r1, r2, r3) := H
 have A3 := ak_ A30
 clear A30
 have H' := ak_ H
 clear H
 go_enter Try.func102, Try.ntmps102
 go_wp2_with (first | ((with_reducible refine gate_dst (N := 13) rfl ?_); (try (refine gate_guard (by rfl) ?_; dsimp only)); refine Kd.R_lit k75 _ 75 ?hg (N := 13) ?hd (xs := ([] : List (S75))) (inner := []) (ok := fun _ => True) (okp := fun _ => True) ?hr ?hp (fun _ hk => hk) trivial (Below.refl _ _) (Nat.le_refl _) (by simp) ?_; (case hd => rfl); (case hg => rfl); (case hr => first | (go_simp; done) | (go_simp; rfl)); (case hp => exact (Reps.none _ _)); intro v285 w4 ho5 hb hg_ hnew_; clear hg_ hnew_; (first | rw [← Ny284.out] at ho5 | (simp only [Int.reduceToNat] at ho5; rw [← Ny284.out] at ho5)); have n0_ := ak_ (Kd.R_lower ho5 (keep_size (w := w) (g := g) (row := none) kb_)); have n1_ := ak_ (IsS135.below (isS135_a HI0) hb); have n2_ := ak_ (KeepBut.trans kb_ (KeepBut.of_below hb g none) (.inl rfl)); have n3_ := ak_ (below_step (hz_ (IsS135.ge HI0.out)) hb); clear HI0 HK HB; have HO286 := n0_; have HI0 := n1_; have HK := n2_; have HB := n3_; clear n0_ n1_ n2_ n3_; clear hb ho5) | ((with_reducible refine gate_callee (f := 104) rfl ?_); refine goesL_ (some 15) rfl rfl Try.func104 (by kernel_rfl) rfl #[.pointer (some ⟨g, 0, none⟩), .int .i64 9] rfl ln_ ?_; (with_reducible refine (spec_l00Src_pick.calls g s0_0 s0_1 s0_2 9 t287 t288 t289 w0 _ ?side1 ?side2 A3.out).mono ?_); (case side1 => exact isS135_a HI0); (case side2 => exact hz_ (IsS135.ge HI0.out)); rintro e w6 ⟨rfl, hi, hb, hk⟩; refine ⟨_, rfl, ?_⟩; have n0_ := ak_ (Kd.R_mono (Kd.R_keep (IsS135.apart (show IsS135 w0 _ g s0_0 s0_1 s0_2 from isS135_a HI0) (kr_ HO286) (by decide)) hk (fun _ h => h.2)) (fun _ h => h.1)); have n1_ := ak_ (KeepBut.trans kb_ hk (.inl rfl)); have n2_ := ak_ (hb); have n3_ := ak_ (hi); clear HO286 HK HB HI0; have HO286 := n0_; have HK := n1_; have HB := n2_; have HI0 := n3_; clear n0_ n1_ n2_ n3_; clear hb hk hi))
 go_loopg [5, 6, 7] k (fun kq v5 v6 v7 w' => ∃ (x5_1 : List (S75)) (x6_1 : Int) (x7_1 : Int) (x1001_1 : Int) (x1002_1 : Int), v6 = .int .i64 x6_1 ∧ v7 = .int .i64 x7_1 ∧ Aside0 (spec_l21DrawChecks.l0 kq l1 x5_1 x6_1 x7_1 s0_0 x1001_1 x1002_1 = some (r1, r2, r3)) ∧ Aside0 (kq ≤ k) ∧ Aside0 (Kd.R k75 75 w' w.heap.size (fun _ => True) v5 x5_1) ∧ Aside0 (IsS135 w0 w' g s0_0 x1001_1 x1002_1) ∧ Aside0 (KeepBut w w' g none) ∧ Aside0 (Below w0.heap.size w0 w'))
 case atStart => exact ⟨(y284), (100), (t287), (t288), (t289), fr_, fr_, H', ⟨Nat.le_refl _⟩, ⟨kr_ HO286⟩, ⟨by repeat (first | (with_reducible first | exact HI0.out | apply IsS135.alloc | apply IsS135.drewN | apply IsS135.drew | apply IsS135.set_1 | apply IsS135.set_2) | exact HI0.out)⟩, ⟨kb_⟩, ⟨hz_ (IsS135.ge HI0.out)⟩⟩
 case round =>
  clear H'
  try clear c1
  try clear p2
  obtain ⟨x5_1, x6_1, x7_1, x1001_1, x1002_1, rfl, rfl, HA, HK1, HO_5, HI0, HK, HB⟩ := hrel
  cases gk with
  | zero => exact absurd HA.out (by simp [spec_l21DrawChecks.l0])
  | succ k1 =>
   have H := HA.out
   clear HA
   simp only [spec_l21DrawChecks.l0] at H
   have HC7 := ak_ H
   clear H
   go_upto_region 4 with (fail)
   go_cut [22] (fun v22 wc => ∃ (kq : Nat) (x22_6 : Bool), v22 = .bool x22_6 ∧ Aside0 (spec_l21DrawChecks.j1 kq l1 x5_1 x6_1 x7_1 x22_6 s0_0 x1001_1 x1002_1 = some (r1, r2, r3)) ∧ Aside0 (kq ≤ k1) ∧ Aside0 (Kd.R k75 75 wc w.heap.size (fun _ => True) u5 x5_1) ∧ Aside0 (IsS135 w0 wc g s0_0 x1001_1 x1002_1) ∧ Aside0 (KeepBut w wc g none) ∧ Aside0 (Below w0.heap.size w0 wc))
   case first =>
    have H := HC7.out
    clear HC7
    by_cases c8 : x7_1 > 0
    ·rw [if_pos c8] at H
     have c8b0 : decide (0 < x7_1) = true := dt_ c8
     clear c8
     (first | rw [c8b0] | (simp only [i64_w, i32_w]; rw [c8b0]) | skip)
     have H' := ak_ H
     clear H
     go_wp2
     go_meet
     case rel => exact ⟨_, (decide ((l1.length : Int) > 0)), fr_, H', ⟨by have := HK1.out; first | omega | exact Nat.le_refl _⟩, ⟨kr_ HO_5⟩, ⟨by repeat (first | (with_reducible first | exact HI0.out | apply IsS135.alloc | apply IsS135.drewN | apply IsS135.drew | apply IsS135.set_1 | apply IsS135.set_2) | exact HI0.out)⟩, ⟨kb_⟩, ⟨hz_ (IsS135.ge HI0.out)⟩⟩
    ·rw [if_neg c8] at H
     have c8b0 : decide (0 < x7_1) = false := decide_eq_false c8
     clear c8
     (first | rw [c8b0] | (simp only [i64_w, i32_w]; rw [c8b0]) | skip)
     have H' := ak_ H
     clear H
     go_wp2
     go_meet
     case rel => exact ⟨_, (false), fr_, H', ⟨by have := HK1.out; first | omega | exact Nat.le_refl _⟩, ⟨kr_ HO_5⟩, ⟨by repeat (first | (with_reducible first | exact HI0.out | apply IsS135.alloc | apply IsS135.drewN | apply IsS135.drew | apply IsS135.set_1 | apply IsS135.set_2) | exact HI0.out)⟩, ⟨kb_⟩, ⟨hz_ (IsS135.ge HI0.out)⟩⟩
   case rest =>
    clear HC7
    try clear c1
    try clear p2
    try clear c8
    try clear c8b0
    try clear p2
    obtain ⟨kq, x22_6, rfl, HA, HJ6, HO_5, HI0, HK, HB⟩ := hcut
    cases kq with
    | zero => exact absurd HA.out (by simp [spec_l21DrawChecks.j1])
    | succ kj6 =>
     have H := HA.out
     clear HA
     simp only [spec_l21DrawChecks.j1] at H
     by_cases c9 : x22_6 = true
     ·subst c9
      have H1 : ((spec_l00Src_pick.f s0_0 x1001_1 x1002_1 (l1.length : Int)).bind fun bt290 => (if 0 ≤ bt290.1 then (if bt290.1 < (l1.length : Int) then ((spec_l00Src_pick.f s0_0 bt290.2.1 bt290.2.2 40).bind fun bt295 => ((spec_l00Src_pick.f s0_0 bt295.2.1 bt295.2.2 30).bind fun bt298 => ((spec_AddCheck.f kj6 l1 x5_1 ((rd_T72 l1 bt290.1).f0) x6_1 (wrap64 (10 * bt295.1))).bind fun bt301 => (if bt301.2 = 0 then (spec_l21DrawChecks.l0 kj6 l1 bt301.1 (wrap64 (x6_1 + bt298.1)) (wrap64 (x7_1 - 1)) s0_0 bt298.2.1 bt298.2.2) else (spec_l21DrawChecks.l0 kj6 l1 x5_1 (wrap64 (x6_1 + bt298.1)) (wrap64 (x7_1 - 1)) s0_0 bt298.2.1 bt298.2.2))))) else (none)) else (none))) = some (r1, r2, r3) := by rw [if_pos rfl] at H; exact H
      clear H
      have H := H1
      clear H1
      replace H := ob_ H
      obtain ⟨⟨t290, t291, t292⟩, A100, H⟩ := H
      replace H : (if 0 ≤ t290 then (if t290 < (l1.length : Int) then ((spec_l00Src_pick.f s0_0 t291 t292 40).bind fun bt295 => ((spec_l00Src_pick.f s0_0 bt295.2.1 bt295.2.2 30).bind fun bt298 => ((spec_AddCheck.f kj6 l1 x5_1 ((rd_T72 l1 t290).f0) x6_1 (wrap64 (10 * bt295.1))).bind fun bt301 => (if bt301.2 = 0 then (spec_l21DrawChecks.l0 kj6 l1 bt301.1 (wrap64 (x6_1 + bt298.1)) (wrap64 (x7_1 - 1)) s0_0 bt298.2.1 bt298.2.2) else (spec_l21DrawChecks.l0 kj6 l1 x5_1 (wrap64 (x6_1 + bt298.1)) (wrap64 (x7_1 - 1)) s0_0 bt298.2.1 bt298.2.2))))) else (none)) else (none)) = some (r1, r2, r3) := H
      have A10 := ak_ A100
      clear A100
      by_cases c11 : 0 ≤ t290
      ·rw [if_pos c11] at H
       have c11b0 : decide (0 ≤ t290) = true := dt_ c11
       clear c11
       by_cases c12 : t290 < (l1.length : Int)
       ·rw [if_pos c12] at H
        have c12b0 : decide (t290 < (l1.length : Int)) = true := dt_ c12
        clear c12
        replace H := ob_ H
        obtain ⟨⟨t295, t296, t297⟩, A130, H⟩ := H
        replace H : ((spec_l00Src_pick.f s0_0 t296 t297 30).bind fun bt298 => ((spec_AddCheck.f kj6 l1 x5_1 ((rd_T72 l1 t290).f0) x6_1 (wrap64 (10 * t295))).bind fun bt301 => (if bt301.2 = 0 then (spec_l21DrawChecks.l0 kj6 l1 bt301.1 (wrap64 (x6_1 + bt298.1)) (wrap64 (x7_1 - 1)) s0_0 bt298.2.1 bt298.2.2) else (spec_l21DrawChecks.l0 kj6 l1 x5_1 (wrap64 (x6_1 + bt298.1)) (wrap64 (x7_1 - 1)) s0_0 bt298.2.1 bt298.2.2)))) = some (r1, r2, r3) := H
        have A13 := ak_ A130
        clear A130
        replace H := ob_ H
        obtain ⟨⟨t298, t299, t300⟩, A140, H⟩ := H
        replace H : ((spec_AddCheck.f kj6 l1 x5_1 ((rd_T72 l1 t290).f0) x6_1 (wrap64 (10 * t295))).bind fun bt301 => (if bt301.2 = 0 then (spec_l21DrawChecks.l0 kj6 l1 bt301.1 (wrap64 (x6_1 + t298)) (wrap64 (x7_1 - 1)) s0_0 t299 t300) else (spec_l21DrawChecks.l0 kj6 l1 x5_1 (wrap64 (x6_1 + t298)) (wrap64 (x7_1 - 1)) s0_0 t299 t300))) = some (r1, r2, r3) := H
        have A14 := ak_ A140
        clear A140
        replace H := ob_ H
        obtain ⟨⟨t301, t304⟩, A150, H⟩ := H
        replace H : (if t304 = 0 then (spec_l21DrawChecks.l0 kj6 l1 t301 (wrap64 (x6_1 + t298)) (wrap64 (x7_1 - 1)) s0_0 t299 t300) else (spec_l21DrawChecks.l0 kj6 l1 x5_1 (wrap64 (x6_1 + t298)) (wrap64 (x7_1 - 1)) s0_0 t299 t300)) = some (r1, r2, r3) := H
        have A15 := ak_ A150
        clear A150
        by_cases c16 : t304 = 0
        ·rw [if_pos c16] at H
         have c16b0 : (t304 == 0) = true := beq_iff_eq.mpr c16
         have c16b1 : (t304 != 0) = false := bne_eq_false_iff_eq.mpr c16
         clear c16
         have H' := ak_ H
         clear H
         go_wp2_with (first | ((with_reducible refine gate_callee (f := 104) rfl ?_); refine goesL_ (some 29) rfl rfl Try.func104 (by kernel_rfl) rfl #[.pointer (some ⟨g, 0, none⟩), .int .i64 (l1.length : Int)] rfl ln_ ?_; (with_reducible refine (spec_l00Src_pick.calls g s0_0 x1001_1 x1002_1 (l1.length : Int) t290 t291 t292 w0 _ ?side1 ?side2 A10.out).mono ?_); (case side1 => exact isS135_a HI0); (case side2 => exact hz_ (IsS135.ge HI0.out)); rintro e w17 ⟨rfl, hi, hb, hk⟩; refine ⟨_, rfl, ?_⟩; have n0_ := ak_ (Kd.R_mono (Kd.R_keep (IsS135.apart (show IsS135 w0 _ g s0_0 x1001_1 x1002_1 from isS135_a HI0) (kr_ HO_5) (by decide)) hk (fun _ h => h.2)) (fun _ h => h.1)); have n1_ := ak_ (KeepBut.trans kb_ hk (.inl rfl)); have n2_ := ak_ (hb); have n3_ := ak_ (hi); clear HO_5 HK HB HI0; have HO_5 := n0_; have HK := n1_; have HB := n2_; have HI0 := n3_; clear n0_ n1_ n2_ n3_; (try clear hb); (try clear hb2); (try clear hk); (try clear hi); have p293 : 0 ≤ (t290 : Int) := od_; have q293 : t290 < (l1.length : Int) := od_; obtain ⟨ad293, e293, hx293_0, hx293_1, hx293_2, hx293_3⟩ := at_T72 (Kd.C_foot_now HR1.out HK.out) t290 p293 q293; cases e293; replace p293 := eq_true p293; replace q293 := eq_true q293) | ((with_reducible refine gate_dst (N := 8) rfl ?_); (try (refine gate_guard (by rfl) ?_; dsimp only)); refine box_event ?hg (N := 8) ?hd (cs := #[.string (⟨#[]⟩ : ByteArray), .int .i64 0, .int .i64 0]) (t := 75) ?hr ?_; (case hd => rfl); (case hg => rfl); (case hr => first | (go_simp; done) | (go_simp; rfl)); intro gb294 hg w18 hbox hb; have n0_ := ak_ (Kd.R_below (Kd.R_elderB (kr_ HO_5) gb294 (Nat.le_of_eq hg.symm)) hb); have n1_ := ak_ (IsS135.below (isS135_a HI0) hb); have n2_ := ak_ (KeepBut.trans kb_ (KeepBut.of_below hb g none) (.inl rfl)); have n3_ := ak_ (below_step (hz_ (IsS135.ge HI0.out)) hb); have n4_ := ak_ (hbox); have n5_ := ak_ ((by rw [hg]; exact (keep_size (w := w) (g := g) (row := none) kb_) : w.heap.size ≤ gb294)); have n6_ := ak_ ((Nat.le_trans HW0.out (by rw [hg]; exact (keep_size (w := w) (g := g) (row := none) kb_) : w.heap.size ≤ gb294) : w0.heap.size ≤ gb294)); have n7_ := ak_ ((by rw [hg]; exact Nat.ne_of_lt (IsS135.lt (show IsS135 w0 _ g s0_0 t291 t292 from isS135_a HI0)) : g ≠ gb294)); have n8_ := ak_ ((by rw [hg]; exact Nat.ne_of_gt (IsS135.lt (show IsS135 w0 _ g s0_0 t291 t292 from isS135_a HI0)) : gb294 ≠ g)); clear HO_5 HI0 HK HB; have HO_5 := n0_; have HI0 := n1_; have HK := n2_; have HB := n3_; have BK294 := n4_; have GW294 := n5_; have GE294 := n6_; have NB0_294 := n7_; have NB294_0 := n8_; clear n0_ n1_ n2_ n3_ n4_ n5_ n6_ n7_ n8_; clear hb hbox hg; have hnb19 := NB294_0.out; have hnc19 := NB0_294.out; have hcz20_0 : w18.cell? ⟨gb294, 0, none⟩ = some (.string (⟨#[]⟩ : ByteArray)) := (blk_cell BK294.out 0).trans rfl; have hcz20_1 : w18.cell? ⟨gb294, 1, none⟩ = some (.int .i64 0) := (blk_cell BK294.out 1).trans rfl; have hcz20_2 : w18.cell? ⟨gb294, 2, none⟩ = some (.int .i64 0) := (blk_cell BK294.out 2).trans rfl; have hfz20_0 := blk_frozen BK294.out 0; have hfz20_1 := blk_frozen BK294.out 1; have hfz20_2 := blk_frozen BK294.out 2) | ((with_reducible refine gate_callee (f := 104) rfl ?_); refine goesL_ (some 36) rfl rfl Try.func104 (by kernel_rfl) rfl #[.pointer (some ⟨g, 0, none⟩), .int .i64 40] rfl ln_ ?_; (with_reducible refine (spec_l00Src_pick.calls g s0_0 t291 t292 40 t295 t296 t297 w0 _ ?side1 ?side2 A13.out).mono ?_); (case side1 => repeat (first | (with_reducible first | exact HI0.out | apply IsS135.alloc | apply IsS135.drewN | apply IsS135.drew | apply IsS135.set_1 | apply IsS135.set_2 | refine IsS135.far ?_ NB0_294.out _) | exact HI0.out)); (case side2 => repeat (first | (with_reducible first | exact HB.out | apply below_alloc | apply pw_below_drewN | apply below_drew1 | refine below_set ?_ (IsS135.ge HI0.out) | refine below_set ?_ GE294.out) | exact HB.out)); rintro e w21 ⟨rfl, hi, hb, hk⟩; refine ⟨_, rfl, ?_⟩; have n0_ := ak_ (Kd.R_mono (Kd.R_keep (IsS135.apart (show IsS135 w0 _ g s0_0 t291 t292 from by repeat (first | (with_reducible first | exact HI0.out | apply IsS135.alloc | apply IsS135.drewN | apply IsS135.drew | apply IsS135.set_1 | apply IsS135.set_2 | refine IsS135.far ?_ NB0_294.out _) | exact HI0.out)) (by (with_reducible repeat (first | apply Kd.R_alloc | apply Kd.R_drewN | apply Kd.R_drew)); exact (Kd.R_mono (Kd.R_far (p := ⟨gb294, 2, none⟩) (Kd.R_far (p := ⟨gb294, 1, none⟩) (Kd.R_far (p := ⟨gb294, 0, none⟩) (Kd.R_mono HO_5.out (fun k_ hk => (⟨hk, hk.2⟩ : _ ∧ k_ ≠ gb294))) (fun _ hk => hk.2) (.string ((rd_T72 l1 t290).f0))) (fun _ hk => hk.2) (.int .i64 x6_1)) (fun _ hk => hk.2) (.int .i64 0)) (fun _ h_ => h_.1))) (by decide)) hk (fun _ h => h.2)) (fun _ h => h.1)); have n1_ := ak_ (KeepBut.blk hk (g' := gb294) (o := .cells #[.string ((rd_T72 l1 t290).f0), .int .i64 x6_1, .int .i64 0] 75 (0, 0)) (by (with_reducible repeat (first | refine blk_drewN ?_ _ | refine blk_drew ?_ | refine blk_alloc ?_ _)); refine blk_put (cs := #[.string ((rd_T72 l1 t290).f0), .int .i64 x6_1, .int .i64 0]) ?_ 2 _ rfl; (with_reducible repeat (first | refine blk_drewN ?_ _ | refine blk_drew ?_ | refine blk_alloc ?_ _)); refine blk_put (cs := #[.string ((rd_T72 l1 t290).f0), .int .i64 0, .int .i64 0]) ?_ 1 _ rfl; (with_reducible repeat (first | refine blk_drewN ?_ _ | refine blk_drew ?_ | refine blk_alloc ?_ _)); refine blk_put (cs := #[.string (⟨#[]⟩ : ByteArray), .int .i64 0, .int .i64 0]) ?_ 0 _ rfl; (with_reducible repeat (first | refine blk_drewN ?_ _ | refine blk_drew ?_ | refine blk_alloc ?_ _)); exact BK294.out) NB294_0.out (by simp)); have n2_ := ak_ (KeepBut.trans (by repeat (first | (with_reducible first | exact HK.out | apply KeepBut.set_ | apply keep_drewN | apply keep_drew | apply keep_alloc | refine keep_far ?_ GW294.out _) | exact HK.out)) hk (.inl rfl)); have n3_ := ak_ (hb); have n4_ := ak_ (hi); clear HO_5 BK294 HK HB HI0; have HO_5 := n0_; have BK294 := n1_; have HK := n2_; have HB := n3_; have HI0 := n4_; clear n0_ n1_ n2_ n3_ n4_; (try clear hb); (try clear hb2); (try clear hk); (try clear hi); have hcz22_0 : w21.cell? ⟨gb294, 0, none⟩ = some (.string ((rd_T72 l1 t290).f0)) := (blk_cell BK294.out 0).trans rfl; have hcz22_1 : w21.cell? ⟨gb294, 1, none⟩ = some (.int .i64 x6_1) := (blk_cell BK294.out 1).trans rfl; have hcz22_2 : w21.cell? ⟨gb294, 2, none⟩ = some (.int .i64 0) := (blk_cell BK294.out 2).trans rfl; have hfz22_0 := blk_frozen BK294.out 0; have hfz22_1 := blk_frozen BK294.out 1; have hfz22_2 := blk_frozen BK294.out 2) | ((with_reducible refine gate_callee (f := 104) rfl ?_); refine goesL_ (some 41) rfl rfl Try.func104 (by kernel_rfl) rfl #[.pointer (some ⟨g, 0, none⟩), .int .i64 30] rfl ln_ ?_; (with_reducible refine (spec_l00Src_pick.calls g s0_0 t296 t297 30 t298 t299 t300 w0 _ ?side1 ?side2 A14.out).mono ?_); (case side1 => repeat (first | (with_reducible first | exact HI0.out | apply IsS135.alloc | apply IsS135.drewN | apply IsS135.drew | apply IsS135.set_1 | apply IsS135.set_2 | refine IsS135.far ?_ NB0_294.out _) | exact HI0.out)); (case side2 => repeat (first | (with_reducible first | exact HB.out | apply below_alloc | apply pw_below_drewN | apply below_drew1 | refine below_set ?_ (IsS135.ge HI0.out) | refine below_set ?_ GE294.out) | exact HB.out)); rintro e w23 ⟨rfl, hi, hb, hk⟩; refine ⟨_, rfl, ?_⟩; have n0_ := ak_ (Kd.R_mono (Kd.R_keep (IsS135.apart (show IsS135 w0 _ g s0_0 t296 t297 from by repeat (first | (with_reducible first | exact HI0.out | apply IsS135.alloc | apply IsS135.drewN | apply IsS135.drew | apply IsS135.set_1 | apply IsS135.set_2 | refine IsS135.far ?_ NB0_294.out _) | exact HI0.out)) (by (with_reducible repeat (first | apply Kd.R_alloc | apply Kd.R_drewN | apply Kd.R_drew)); exact (Kd.R_mono (Kd.R_far (p := ⟨gb294, 2, none⟩) (Kd.R_mono HO_5.out (fun k_ hk => (⟨hk, hk.2⟩ : _ ∧ k_ ≠ gb294))) (fun _ hk => hk.2) (.int .i64 (wrap64 (10 * t295)))) (fun _ h_ => h_.1))) (by decide)) hk (fun _ h => h.2)) (fun _ h => h.1)); have n1_ := ak_ (KeepBut.blk hk (g' := gb294) (o := .cells #[.string ((rd_T72 l1 t290).f0), .int .i64 x6_1, .int .i64 (wrap64 (10 * t295))] 75 (0, 0)) (by (with_reducible repeat (first | refine blk_drewN ?_ _ | refine blk_drew ?_ | refine blk_alloc ?_ _)); refine blk_put (cs := #[.string ((rd_T72 l1 t290).f0), .int .i64 x6_1, .int .i64 0]) ?_ 2 _ rfl; (with_reducible repeat (first | refine blk_drewN ?_ _ | refine blk_drew ?_ | refine blk_alloc ?_ _)); exact BK294.out) NB294_0.out (by simp)); have n2_ := ak_ (KeepBut.trans (by repeat (first | (with_reducible first | exact HK.out | apply KeepBut.set_ | apply keep_drewN | apply keep_drew | apply keep_alloc | refine keep_far ?_ GW294.out _) | exact HK.out)) hk (.inl rfl)); have n3_ := ak_ (hb); have n4_ := ak_ (hi); clear HO_5 BK294 HK HB HI0; have HO_5 := n0_; have BK294 := n1_; have HK := n2_; have HB := n3_; have HI0 := n4_; clear n0_ n1_ n2_ n3_ n4_; (try clear hb); (try clear hb2); (try clear hk); (try clear hi); have hcz24_0 : w23.cell? ⟨gb294, 0, none⟩ = some (.string ((rd_T72 l1 t290).f0)) := (blk_cell BK294.out 0).trans rfl; have hcz24_1 : w23.cell? ⟨gb294, 1, none⟩ = some (.int .i64 x6_1) := (blk_cell BK294.out 1).trans rfl; have hcz24_2 : w23.cell? ⟨gb294, 2, none⟩ = some (.int .i64 (wrap64 (10 * t295))) := (blk_cell BK294.out 2).trans rfl; have hfz24_0 := blk_frozen BK294.out 0; have hfz24_1 := blk_frozen BK294.out 1; have hfz24_2 := blk_frozen BK294.out 2; obtain ⟨Ao25, co25, eo25⟩ := Kd.R_slice HO_5.out; subst eo25) | ((with_reducible refine gate_callee (f := 126) rfl ?_); refine goesL_ (some 47) rfl rfl Try.func126 (by kernel_rfl) rfl #[.slice (some ad293) l1.length c1, .slice Ao25 x5_1.length co25, .agg #[.string ((rd_T72 l1 t290).f0), .int .i64 x6_1, .int .i64 (wrap64 (10 * t295))]] rfl ln_ ?_; (with_reducible refine (spec_AddCheck.calls kj6 _ _ l1 _ _ x5_1 ((rd_T72 l1 t290).f0) x6_1 (wrap64 (10 * t295)) t301 t304 _ ?side1 ?side2 ?side3 ?side4 A15.out).mono ?_); (case side1 => exact Kd.C_foot_now HR1.out (by repeat (first | (with_reducible first | exact HK.out | apply KeepBut.set_ | apply keep_drewN | apply keep_drew | apply keep_alloc | refine keep_far ?_ GW294.out _) | exact HK.out))); (case side2 => exact HC1.out); (case side3 => repeat (first | exact (Kd.R_reads' HO_5.out).2.2 | (with_reducible refine Kd.C_alloc ?_ _) | (with_reducible refine Kd.C_drewN ?_ _) | (with_reducible refine Kd.C_drew ?_))); (case side4 => exact (Kd.R_reads' HO_5.out).2.1); rintro e w26 ⟨v302, rfl, ho0, hb⟩; refine ⟨_, rfl, ?_⟩; have n0_ := ak_ (Kd.R_elder' (kr_ HO_5) (Kd.R_base ho0) hb); have n1_ := ak_ (Kd.R_lower (Kd.R_newB (Kd.R_new' ho0 (Kd.R_lt (kr_ HO_5))) (g := gb294) (o := .cells #[.string ((rd_T72 l1 t290).f0), .int .i64 x6_1, .int .i64 (wrap64 (10 * t295))] 75 (0, 0)) (bk_ BK294)) (keep_size (w := w) (g := g) (row := none) (by repeat (first | (with_reducible first | exact HK.out | apply KeepBut.set_ | apply keep_drewN | apply keep_drew | apply keep_alloc | refine keep_far ?_ GW294.out _) | exact HK.out)))); have n2_ := ak_ (IsS135.below (by repeat (first | (with_reducible first | exact HI0.out | apply IsS135.alloc | apply IsS135.drewN | apply IsS135.drew | apply IsS135.set_1 | apply IsS135.set_2 | refine IsS135.far ?_ NB0_294.out _) | exact HI0.out)) hb); have n3_ := ak_ (blk_below (g := gb294) (o := .cells #[.string ((rd_T72 l1 t290).f0), .int .i64 x6_1, .int .i64 (wrap64 (10 * t295))] 75 (0, 0)) (bk_ BK294) hb); have n4_ := ak_ (KeepBut.trans (by repeat (first | (with_reducible first | exact HK.out | apply KeepBut.set_ | apply keep_drewN | apply keep_drew | apply keep_alloc | refine keep_far ?_ GW294.out _) | exact HK.out)) (KeepBut.of_below hb g none) (.inl rfl)); have n5_ := ak_ (below_step (by repeat (first | (with_reducible first | exact HB.out | apply below_alloc | apply pw_below_drewN | apply below_drew1 | refine below_set ?_ (IsS135.ge HI0.out) | refine below_set ?_ GE294.out) | exact HB.out)) hb); clear HO_5 HI0 BK294 HK HB; have HO_5 := n0_; have HO303 := n1_; have HI0 := n2_; have BK294 := n3_; have HK := n4_; have HB := n5_; clear n0_ n1_ n2_ n3_ n4_ n5_; clear hb ho0))
         go_roundg kj6
         case measure => have := HK1.out; have := HJ6.out; omega
         case rel => exact ⟨(t301), (wrap64 (x6_1 + t298)), (wrap64 (x7_1 - 1)), (t299), (t300), fr_, fr_, H', ⟨by have := HK1.out; have := HJ6.out; omega⟩, ⟨by (with_reducible repeat (first | apply Kd.R_alloc | apply Kd.R_drewN | apply Kd.R_drew)); exact Kd.R_mono HO303.out (fun _ hk => trivial)⟩, ⟨by repeat (first | (with_reducible first | exact HI0.out | apply IsS135.alloc | apply IsS135.drewN | apply IsS135.drew | apply IsS135.set_1 | apply IsS135.set_2 | refine IsS135.far ?_ NB0_294.out _) | exact HI0.out)⟩, ⟨by repeat (first | (with_reducible first | exact HK.out | apply KeepBut.set_ | apply keep_drewN | apply keep_drew | apply keep_alloc | refine keep_far ?_ GW294.out _) | exact HK.out)⟩, ⟨by repeat (first | (with_reducible first | exact HB.out | apply below_alloc | apply pw_below_drewN | apply below_drew1 | refine below_set ?_ (IsS135.ge HI0.out) | refine below_set ?_ GE294.out) | exact HB.out)⟩⟩
        ·rw [if_neg c16] at H
         have c16b0 : (t304 == 0) = false := beq_eq_false_iff_ne.mpr c16
         have c16b1 : (t304 != 0) = true := bne_iff_ne.mpr c16
         have H' := ak_ H
         clear H
         go_wp2_with (first | ((with_reducible refine gate_callee (f := 104) rfl ?_); refine goesL_ (some 29) rfl rfl Try.func104 (by kernel_rfl) rfl #[.pointer (some ⟨g, 0, none⟩), .int .i64 (l1.length : Int)] rfl ln_ ?_; (with_reducible refine (spec_l00Src_pick.calls g s0_0 x1001_1 x1002_1 (l1.length : Int) t290 t291 t292 w0 _ ?side1 ?side2 A10.out).mono ?_); (case side1 => exact isS135_a HI0); (case side2 => exact hz_ (IsS135.ge HI0.out)); rintro e w27 ⟨rfl, hi, hb, hk⟩; refine ⟨_, rfl, ?_⟩; have n0_ := ak_ (Kd.R_mono (Kd.R_keep (IsS135.apart (show IsS135 w0 _ g s0_0 x1001_1 x1002_1 from isS135_a HI0) (kr_ HO_5) (by decide)) hk (fun _ h => h.2)) (fun _ h => h.1)); have n1_ := ak_ (KeepBut.trans kb_ hk (.inl rfl)); have n2_ := ak_ (hb); have n3_ := ak_ (hi); clear HO_5 HK HB HI0; have HO_5 := n0_; have HK := n1_; have HB := n2_; have HI0 := n3_; clear n0_ n1_ n2_ n3_; (try clear hb); (try clear hb2); (try clear hk); (try clear hi); have p293 : 0 ≤ (t290 : Int) := od_; have q293 : t290 < (l1.length : Int) := od_; obtain ⟨ad293, e293, hx293_0, hx293_1, hx293_2, hx293_3⟩ := at_T72 (Kd.C_foot_now HR1.out HK.out) t290 p293 q293; cases e293; replace p293 := eq_true p293; replace q293 := eq_true q293) | ((with_reducible refine gate_dst (N := 8) rfl ?_); (try (refine gate_guard (by rfl) ?_; dsimp only)); refine box_event ?hg (N := 8) ?hd (cs := #[.string (⟨#[]⟩ : ByteArray), .int .i64 0, .int .i64 0]) (t := 75) ?hr ?_; (case hd => rfl); (case hg => rfl); (case hr => first | (go_simp; done) | (go_simp; rfl)); intro gb294 hg w28 hbox hb; have n0_ := ak_ (Kd.R_below (Kd.R_elderB (kr_ HO_5) gb294 (Nat.le_of_eq hg.symm)) hb); have n1_ := ak_ (IsS135.below (isS135_a HI0) hb); have n2_ := ak_ (KeepBut.trans kb_ (KeepBut.of_below hb g none) (.inl rfl)); have n3_ := ak_ (below_step (hz_ (IsS135.ge HI0.out)) hb); have n4_ := ak_ (hbox); have n5_ := ak_ ((by rw [hg]; exact (keep_size (w := w) (g := g) (row := none) kb_) : w.heap.size ≤ gb294)); have n6_ := ak_ ((Nat.le_trans HW0.out (by rw [hg]; exact (keep_size (w := w) (g := g) (row := none) kb_) : w.heap.size ≤ gb294) : w0.heap.size ≤ gb294)); have n7_ := ak_ ((by rw [hg]; exact Nat.ne_of_lt (IsS135.lt (show IsS135 w0 _ g s0_0 t291 t292 from isS135_a HI0)) : g ≠ gb294)); have n8_ := ak_ ((by rw [hg]; exact Nat.ne_of_gt (IsS135.lt (show IsS135 w0 _ g s0_0 t291 t292 from isS135_a HI0)) : gb294 ≠ g)); clear HO_5 HI0 HK HB; have HO_5 := n0_; have HI0 := n1_; have HK := n2_; have HB := n3_; have BK294 := n4_; have GW294 := n5_; have GE294 := n6_; have NB0_294 := n7_; have NB294_0 := n8_; clear n0_ n1_ n2_ n3_ n4_ n5_ n6_ n7_ n8_; clear hb hbox hg; have hnb29 := NB294_0.out; have hnc29 := NB0_294.out; have hcz30_0 : w28.cell? ⟨gb294, 0, none⟩ = some (.string (⟨#[]⟩ : ByteArray)) := (blk_cell BK294.out 0).trans rfl; have hcz30_1 : w28.cell? ⟨gb294, 1, none⟩ = some (.int .i64 0) := (blk_cell BK294.out 1).trans rfl; have hcz30_2 : w28.cell? ⟨gb294, 2, none⟩ = some (.int .i64 0) := (blk_cell BK294.out 2).trans rfl; have hfz30_0 := blk_frozen BK294.out 0; have hfz30_1 := blk_frozen BK294.out 1; have hfz30_2 := blk_frozen BK294.out 2) | ((with_reducible refine gate_callee (f := 104) rfl ?_); refine goesL_ (some 36) rfl rfl Try.func104 (by kernel_rfl) rfl #[.pointer (some ⟨g, 0, none⟩), .int .i64 40] rfl ln_ ?_; (with_reducible refine (spec_l00Src_pick.calls g s0_0 t291 t292 40 t295 t296 t297 w0 _ ?side1 ?side2 A13.out).mono ?_); (case side1 => repeat (first | (with_reducible first | exact HI0.out | apply IsS135.alloc | apply IsS135.drewN | apply IsS135.drew | apply IsS135.set_1 | apply IsS135.set_2 | refine IsS135.far ?_ NB0_294.out _) | exact HI0.out)); (case side2 => repeat (first | (with_reducible first | exact HB.out | apply below_alloc | apply pw_below_drewN | apply below_drew1 | refine below_set ?_ (IsS135.ge HI0.out) | refine below_set ?_ GE294.out) | exact HB.out)); rintro e w31 ⟨rfl, hi, hb, hk⟩; refine ⟨_, rfl, ?_⟩; have n0_ := ak_ (Kd.R_mono (Kd.R_keep (IsS135.apart (show IsS135 w0 _ g s0_0 t291 t292 from by repeat (first | (with_reducible first | exact HI0.out | apply IsS135.alloc | apply IsS135.drewN | apply IsS135.drew | apply IsS135.set_1 | apply IsS135.set_2 | refine IsS135.far ?_ NB0_294.out _) | exact HI0.out)) (by (with_reducible repeat (first | apply Kd.R_alloc | apply Kd.R_drewN | apply Kd.R_drew)); exact (Kd.R_mono (Kd.R_far (p := ⟨gb294, 2, none⟩) (Kd.R_far (p := ⟨gb294, 1, none⟩) (Kd.R_far (p := ⟨gb294, 0, none⟩) (Kd.R_mono HO_5.out (fun k_ hk => (⟨hk, hk.2⟩ : _ ∧ k_ ≠ gb294))) (fun _ hk => hk.2) (.string ((rd_T72 l1 t290).f0))) (fun _ hk => hk.2) (.int .i64 x6_1)) (fun _ hk => hk.2) (.int .i64 0)) (fun _ h_ => h_.1))) (by decide)) hk (fun _ h => h.2)) (fun _ h => h.1)); have n1_ := ak_ (KeepBut.blk hk (g' := gb294) (o := .cells #[.string ((rd_T72 l1 t290).f0), .int .i64 x6_1, .int .i64 0] 75 (0, 0)) (by (with_reducible repeat (first | refine blk_drewN ?_ _ | refine blk_drew ?_ | refine blk_alloc ?_ _)); refine blk_put (cs := #[.string ((rd_T72 l1 t290).f0), .int .i64 x6_1, .int .i64 0]) ?_ 2 _ rfl; (with_reducible repeat (first | refine blk_drewN ?_ _ | refine blk_drew ?_ | refine blk_alloc ?_ _)); refine blk_put (cs := #[.string ((rd_T72 l1 t290).f0), .int .i64 0, .int .i64 0]) ?_ 1 _ rfl; (with_reducible repeat (first | refine blk_drewN ?_ _ | refine blk_drew ?_ | refine blk_alloc ?_ _)); refine blk_put (cs := #[.string (⟨#[]⟩ : ByteArray), .int .i64 0, .int .i64 0]) ?_ 0 _ rfl; (with_reducible repeat (first | refine blk_drewN ?_ _ | refine blk_drew ?_ | refine blk_alloc ?_ _)); exact BK294.out) NB294_0.out (by simp)); have n2_ := ak_ (KeepBut.trans (by repeat (first | (with_reducible first | exact HK.out | apply KeepBut.set_ | apply keep_drewN | apply keep_drew | apply keep_alloc | refine keep_far ?_ GW294.out _) | exact HK.out)) hk (.inl rfl)); have n3_ := ak_ (hb); have n4_ := ak_ (hi); clear HO_5 BK294 HK HB HI0; have HO_5 := n0_; have BK294 := n1_; have HK := n2_; have HB := n3_; have HI0 := n4_; clear n0_ n1_ n2_ n3_ n4_; (try clear hb); (try clear hb2); (try clear hk); (try clear hi); have hcz32_0 : w31.cell? ⟨gb294, 0, none⟩ = some (.string ((rd_T72 l1 t290).f0)) := (blk_cell BK294.out 0).trans rfl; have hcz32_1 : w31.cell? ⟨gb294, 1, none⟩ = some (.int .i64 x6_1) := (blk_cell BK294.out 1).trans rfl; have hcz32_2 : w31.cell? ⟨gb294, 2, none⟩ = some (.int .i64 0) := (blk_cell BK294.out 2).trans rfl; have hfz32_0 := blk_frozen BK294.out 0; have hfz32_1 := blk_frozen BK294.out 1; have hfz32_2 := blk_frozen BK294.out 2) | ((with_reducible refine gate_callee (f := 104) rfl ?_); refine goesL_ (some 41) rfl rfl Try.func104 (by kernel_rfl) rfl #[.pointer (some ⟨g, 0, none⟩), .int .i64 30] rfl ln_ ?_; (with_reducible refine (spec_l00Src_pick.calls g s0_0 t296 t297 30 t298 t299 t300 w0 _ ?side1 ?side2 A14.out).mono ?_); (case side1 => repeat (first | (with_reducible first | exact HI0.out | apply IsS135.alloc | apply IsS135.drewN | apply IsS135.drew | apply IsS135.set_1 | apply IsS135.set_2 | refine IsS135.far ?_ NB0_294.out _) | exact HI0.out)); (case side2 => repeat (first | (with_reducible first | exact HB.out | apply below_alloc | apply pw_below_drewN | apply below_drew1 | refine below_set ?_ (IsS135.ge HI0.out) | refine below_set ?_ GE294.out) | exact HB.out)); rintro e w33 ⟨rfl, hi, hb, hk⟩; refine ⟨_, rfl, ?_⟩; have n0_ := ak_ (Kd.R_mono (Kd.R_keep (IsS135.apart (show IsS135 w0 _ g s0_0 t296 t297 from by repeat (first | (with_reducible first | exact HI0.out | apply IsS135.alloc | apply IsS135.drewN | apply IsS135.drew | apply IsS135.set_1 | apply IsS135.set_2 | refine IsS135.far ?_ NB0_294.out _) | exact HI0.out)) (by (with_reducible repeat (first | apply Kd.R_alloc | apply Kd.R_drewN | apply Kd.R_drew)); exact (Kd.R_mono (Kd.R_far (p := ⟨gb294, 2, none⟩) (Kd.R_mono HO_5.out (fun k_ hk => (⟨hk, hk.2⟩ : _ ∧ k_ ≠ gb294))) (fun _ hk => hk.2) (.int .i64 (wrap64 (10 * t295)))) (fun _ h_ => h_.1))) (by decide)) hk (fun _ h => h.2)) (fun _ h => h.1)); have n1_ := ak_ (KeepBut.blk hk (g' := gb294) (o := .cells #[.string ((rd_T72 l1 t290).f0), .int .i64 x6_1, .int .i64 (wrap64 (10 * t295))] 75 (0, 0)) (by (with_reducible repeat (first | refine blk_drewN ?_ _ | refine blk_drew ?_ | refine blk_alloc ?_ _)); refine blk_put (cs := #[.string ((rd_T72 l1 t290).f0), .int .i64 x6_1, .int .i64 0]) ?_ 2 _ rfl; (with_reducible repeat (first | refine blk_drewN ?_ _ | refine blk_drew ?_ | refine blk_alloc ?_ _)); exact BK294.out) NB294_0.out (by simp)); have n2_ := ak_ (KeepBut.trans (by repeat (first | (with_reducible first | exact HK.out | apply KeepBut.set_ | apply keep_drewN | apply keep_drew | apply keep_alloc | refine keep_far ?_ GW294.out _) | exact HK.out)) hk (.inl rfl)); have n3_ := ak_ (hb); have n4_ := ak_ (hi); clear HO_5 BK294 HK HB HI0; have HO_5 := n0_; have BK294 := n1_; have HK := n2_; have HB := n3_; have HI0 := n4_; clear n0_ n1_ n2_ n3_ n4_; (try clear hb); (try clear hb2); (try clear hk); (try clear hi); have hcz34_0 : w33.cell? ⟨gb294, 0, none⟩ = some (.string ((rd_T72 l1 t290).f0)) := (blk_cell BK294.out 0).trans rfl; have hcz34_1 : w33.cell? ⟨gb294, 1, none⟩ = some (.int .i64 x6_1) := (blk_cell BK294.out 1).trans rfl; have hcz34_2 : w33.cell? ⟨gb294, 2, none⟩ = some (.int .i64 (wrap64 (10 * t295))) := (blk_cell BK294.out 2).trans rfl; have hfz34_0 := blk_frozen BK294.out 0; have hfz34_1 := blk_frozen BK294.out 1; have hfz34_2 := blk_frozen BK294.out 2; obtain ⟨Ao35, co35, eo35⟩ := Kd.R_slice HO_5.out; subst eo35) | ((with_reducible refine gate_callee (f := 126) rfl ?_); refine goesL_ (some 47) rfl rfl Try.func126 (by kernel_rfl) rfl #[.slice (some ad293) l1.length c1, .slice Ao35 x5_1.length co35, .agg #[.string ((rd_T72 l1 t290).f0), .int .i64 x6_1, .int .i64 (wrap64 (10 * t295))]] rfl ln_ ?_; (with_reducible refine (spec_AddCheck.calls kj6 _ _ l1 _ _ x5_1 ((rd_T72 l1 t290).f0) x6_1 (wrap64 (10 * t295)) t301 t304 _ ?side1 ?side2 ?side3 ?side4 A15.out).mono ?_); (case side1 => exact Kd.C_foot_now HR1.out (by repeat (first | (with_reducible first | exact HK.out | apply KeepBut.set_ | apply keep_drewN | apply keep_drew | apply keep_alloc | refine keep_far ?_ GW294.out _) | exact HK.out))); (case side2 => exact HC1.out); (case side3 => repeat (first | exact (Kd.R_reads' HO_5.out).2.2 | (with_reducible refine Kd.C_alloc ?_ _) | (with_reducible refine Kd.C_drewN ?_ _) | (with_reducible refine Kd.C_drew ?_))); (case side4 => exact (Kd.R_reads' HO_5.out).2.1); rintro e w36 ⟨v302, rfl, ho0, hb⟩; refine ⟨_, rfl, ?_⟩; have n0_ := ak_ (Kd.R_elder' (kr_ HO_5) (Kd.R_base ho0) hb); have n1_ := ak_ (Kd.R_lower (Kd.R_newB (Kd.R_new' ho0 (Kd.R_lt (kr_ HO_5))) (g := gb294) (o := .cells #[.string ((rd_T72 l1 t290).f0), .int .i64 x6_1, .int .i64 (wrap64 (10 * t295))] 75 (0, 0)) (bk_ BK294)) (keep_size (w := w) (g := g) (row := none) (by repeat (first | (with_reducible first | exact HK.out | apply KeepBut.set_ | apply keep_drewN | apply keep_drew | apply keep_alloc | refine keep_far ?_ GW294.out _) | exact HK.out)))); have n2_ := ak_ (IsS135.below (by repeat (first | (with_reducible first | exact HI0.out | apply IsS135.alloc | apply IsS135.drewN | apply IsS135.drew | apply IsS135.set_1 | apply IsS135.set_2 | refine IsS135.far ?_ NB0_294.out _) | exact HI0.out)) hb); have n3_ := ak_ (blk_below (g := gb294) (o := .cells #[.string ((rd_T72 l1 t290).f0), .int .i64 x6_1, .int .i64 (wrap64 (10 * t295))] 75 (0, 0)) (bk_ BK294) hb); have n4_ := ak_ (KeepBut.trans (by repeat (first | (with_reducible first | exact HK.out | apply KeepBut.set_ | apply keep_drewN | apply keep_drew | apply keep_alloc | refine keep_far ?_ GW294.out _) | exact HK.out)) (KeepBut.of_below hb g none) (.inl rfl)); have n5_ := ak_ (below_step (by repeat (first | (with_reducible first | exact HB.out | apply below_alloc | apply pw_below_drewN | apply below_drew1 | refine below_set ?_ (IsS135.ge HI0.out) | refine below_set ?_ GE294.out) | exact HB.out)) hb); clear HO_5 HI0 BK294 HK HB; have HO_5 := n0_; have HO303 := n1_; have HI0 := n2_; have BK294 := n3_; have HK := n4_; have HB := n5_; clear n0_ n1_ n2_ n3_ n4_ n5_; clear hb ho0))
         go_roundg kj6
         case measure => have := HK1.out; have := HJ6.out; omega
         case rel => exact ⟨(x5_1), (wrap64 (x6_1 + t298)), (wrap64 (x7_1 - 1)), (t299), (t300), fr_, fr_, H', ⟨by have := HK1.out; have := HJ6.out; omega⟩, ⟨by (with_reducible repeat (first | apply Kd.R_alloc | apply Kd.R_drewN | apply Kd.R_drew)); exact Kd.R_mono HO_5.out (fun _ hk => trivial)⟩, ⟨by repeat (first | (with_reducible first | exact HI0.out | apply IsS135.alloc | apply IsS135.drewN | apply IsS135.drew | apply IsS135.set_1 | apply IsS135.set_2 | refine IsS135.far ?_ NB0_294.out _) | exact HI0.out)⟩, ⟨by repeat (first | (with_reducible first | exact HK.out | apply KeepBut.set_ | apply keep_drewN | apply keep_drew | apply keep_alloc | refine keep_far ?_ GW294.out _) | exact HK.out)⟩, ⟨by repeat (first | (with_reducible first | exact HB.out | apply below_alloc | apply pw_below_drewN | apply below_drew1 | refine below_set ?_ (IsS135.ge HI0.out) | refine below_set ?_ GE294.out) | exact HB.out)⟩⟩
       ·rw [if_neg c12] at H
        exact absurd H (by simp)
      ·rw [if_neg c11] at H
       exact absurd H (by simp)
     ·replace c9 := Bool.eq_false_iff.mpr c9
      subst c9
      have H1 : (if (l1.length : Int) > 0 then ((spec_l00Src_one.f s0_0 x1001_1 x1002_1 20).bind fun bt305 => (spec_l21DrawChecks.j2 kj6 l1 x5_1 bt305.1 s0_0 bt305.2.1 bt305.2.2)) else (spec_l21DrawChecks.j2 kj6 l1 x5_1 false s0_0 x1001_1 x1002_1)) = some (r1, r2, r3) := by rw [if_neg (show ¬ (false = true) by decide)] at H; exact H
      clear H
      have H := H1
      clear H1
      have HC37 := ak_ H
      clear H
      go_upto_region 12 with (fail)
      go_cut [59] (fun v59 wc => ∃ (kq : Nat) (x59_36 : Bool) (x1001_36 : Int) (x1002_36 : Int), v59 = .bool x59_36 ∧ Aside0 (spec_l21DrawChecks.j2 kq l1 x5_1 x59_36 s0_0 x1001_36 x1002_36 = some (r1, r2, r3)) ∧ Aside0 (kq ≤ kj6) ∧ Aside0 (Kd.R k75 75 wc w.heap.size (fun _ => True) u5 x5_1) ∧ Aside0 (IsS135 w0 wc g s0_0 x1001_36 x1002_36) ∧ Aside0 (KeepBut w wc g none) ∧ Aside0 (Below w0.heap.size w0 wc))
      case first =>
       have H := HC37.out
       clear HC37
       by_cases c38 : (l1.length : Int) > 0
       ·rw [if_pos c38] at H
        have c38b0 : decide (0 < (l1.length : Int)) = true := dt_ c38
        have c38b1 : decide (0 < l1.length) = true := dt_ (by omega)
        clear c38
        (first | rw [c38b0] | (simp only [i64_w, i32_w]; rw [c38b0]) | skip)
        replace H := ob_ H
        obtain ⟨⟨t305, t306, t307⟩, A390, H⟩ := H
        replace H : (spec_l21DrawChecks.j2 kj6 l1 x5_1 t305 s0_0 t306 t307) = some (r1, r2, r3) := H
        have A39 := ak_ A390
        clear A390
        have H' := ak_ H
        clear H
        go_wp2_with (first | (go_at_call 103; (with_reducible refine (spec_l00Src_one.calls g s0_0 x1001_1 x1002_1 20 t305 t306 t307 w0 _ ?side1 ?side2 A39.out).mono ?_); (case side1 => exact isS135_a HI0); (case side2 => exact hz_ (IsS135.ge HI0.out)); rintro e w40 ⟨rfl, hi, hb, hk⟩; have n0_ := ak_ (Kd.R_mono (Kd.R_keep (IsS135.apart (show IsS135 w0 _ g s0_0 x1001_1 x1002_1 from isS135_a HI0) (kr_ HO_5) (by decide)) hk (fun _ h => h.2)) (fun _ h => h.1)); have n1_ := ak_ (KeepBut.trans kb_ hk (.inl rfl)); have n2_ := ak_ (hb); have n3_ := ak_ (hi); clear HO_5 HK HB HI0; have HO_5 := n0_; have HK := n1_; have HB := n2_; have HI0 := n3_; clear n0_ n1_ n2_ n3_; clear hb hk hi))
        go_meet
        case rel => exact ⟨_, (t305), (t306), (t307), fr_, H', ⟨by have := HK1.out; have := HJ6.out; first | omega | exact Nat.le_refl _⟩, ⟨kr_ HO_5⟩, ⟨by repeat (first | (with_reducible first | exact HI0.out | apply IsS135.alloc | apply IsS135.drewN | apply IsS135.drew | apply IsS135.set_1 | apply IsS135.set_2) | exact HI0.out)⟩, ⟨kb_⟩, ⟨hz_ (IsS135.ge HI0.out)⟩⟩
       ·rw [if_neg c38] at H
        have c38b0 : decide (0 < (l1.length : Int)) = false := decide_eq_false c38
        have c38b1 : decide (0 < l1.length) = false := decide_eq_false (by omega)
        clear c38
        (first | rw [c38b0] | (simp only [i64_w, i32_w]; rw [c38b0]) | skip)
        have H' := ak_ H
        clear H
        go_wp2
        go_meet
        case rel => exact ⟨_, (false), (x1001_1), (x1002_1), fr_, H', ⟨by have := HK1.out; have := HJ6.out; first | omega | exact Nat.le_refl _⟩, ⟨kr_ HO_5⟩, ⟨by repeat (first | (with_reducible first | exact HI0.out | apply IsS135.alloc | apply IsS135.drewN | apply IsS135.drew | apply IsS135.set_1 | apply IsS135.set_2) | exact HI0.out)⟩, ⟨kb_⟩, ⟨hz_ (IsS135.ge HI0.out)⟩⟩
      case rest =>
       clear HC37
       try clear c1
       try clear c2
       try clear p2
       try clear q2
       try clear hx2
       try clear c3
       try clear p6
       try clear c8
       try clear c8b0
       try clear c9
       try clear c10
       try clear c11
       try clear c11b0
       try clear c12
       try clear c12b0
       try clear c16
       try clear c16b0
       try clear c16b1
       try clear c19
       try clear c29
       try clear p29
       try clear q29
       try clear hx29
       try clear c38
       try clear c38b0
       try clear c38b1
       try clear hcz20_0
       try clear hcz20_1
       try clear hcz20_2
       try clear hcz22_0
       try clear hcz22_1
       try clear hcz22_2
       try clear hcz24_0
       try clear hcz24_1
       try clear hcz24_2
       try clear hcz30_0
       try clear hcz30_1
       try clear hcz30_2
       try clear hcz32_0
       try clear hcz32_1
       try clear hcz32_2
       try clear hcz34_0
       try clear hcz34_1
       try clear hcz34_2
       try clear hfz20_0
       try clear hfz20_1
       try clear hfz20_2
       try clear hfz22_0
       try clear hfz22_1
       try clear hfz22_2
       try clear hfz24_0
       try clear hfz24_1
       try clear hfz24_2
       try clear hfz30_0
       try clear hfz30_1
       try clear hfz30_2
       try clear hfz32_0
       try clear hfz32_1
       try clear hfz32_2
       try clear hfz34_0
       try clear hfz34_1
       try clear hfz34_2
       try clear hx293_0
       try clear hx293_1
       try clear hx293_2
       try clear hx293_3
       try clear p2
       try clear p293
       try clear q293
       obtain ⟨kq, x59_36, x1001_36, x1002_36, rfl, HA, HJ36, HO_5, HI0, HK, HB⟩ := hcut
       cases kq with
       | zero => exact absurd HA.out (by simp [spec_l21DrawChecks.j2])
       | succ kj36 =>
        have H := HA.out
        clear HA
        simp only [spec_l21DrawChecks.j2] at H
        have HC41 := ak_ H
        clear H
        go_upto_if 59 with (fail)
        go_cut [5] (fun v5 wc => ∃ (kq : Nat) (x5_40 : List (S75)) (x1001_40 : Int) (x1002_40 : Int), Aside0 (spec_l21DrawChecks.j4 kq x5_40 s0_0 x1001_40 x1002_40 = some (r1, r2, r3)) ∧ Aside0 (kq ≤ kj36) ∧ Aside0 (Kd.R k75 75 wc w.heap.size (fun _ => True) v5 x5_40) ∧ Aside0 (IsS135 w0 wc g s0_0 x1001_40 x1002_40) ∧ Aside0 (KeepBut w wc g none) ∧ Aside0 (Below w0.heap.size w0 wc))
        case first =>
         have H := HC41.out
         clear HC41
         by_cases c42 : x59_36 = true
         ·subst c42
          have H1 : ((spec_l00Src_pick.f s0_0 x1001_36 x1002_36 2).bind fun bt311 => (spec_l21DrawChecks.l1 kj36 l1 (([] : List (S75))) (wrap64 (60 + bt311.1)) s0_0 bt311.2.1 bt311.2.2)) = some (r1, r2, r3) := by rw [if_pos rfl] at H; exact H
          clear H
          have H := H1
          clear H1
          obtain ⟨y308, hy308⟩ : ∃ y_ : List (S75), y_ = (([] : List (S75))) := ⟨_, rfl⟩
          replace H : ((spec_l00Src_pick.f s0_0 x1001_36 x1002_36 2).bind fun bt311 => (spec_l21DrawChecks.l1 kj36 l1 y308 (wrap64 (60 + bt311.1)) s0_0 bt311.2.1 bt311.2.2)) = some (r1, r2, r3) := by first | (rw [hy308]; with_reducible exact H) | (have H2_ := (Option.bind_some _ _).symm.trans H; rw [hy308]; with_reducible exact H2_) | (have H2_ := (Option.bind_some _ _).symm.trans H; with_reducible exact H2_) | with_reducible exact H | (rw [hy308]; exact H) | exact H
          have Ny308 := ak_ hy308
          clear hy308
          replace H := ob_ H
          obtain ⟨⟨t311, t312, t313⟩, A430, H⟩ := H
          replace H : (spec_l21DrawChecks.l1 kj36 l1 y308 (wrap64 (60 + t311)) s0_0 t312 t313) = some (r1, r2, r3) := H
          have A43 := ak_ A430
          clear A430
          have H' := ak_ H
          clear H
          go_wp2_with (first | ((with_reducible refine gate_dst (N := 60) rfl ?_); (try (refine gate_guard (by rfl) ?_; dsimp only)); refine Kd.R_lit k75 _ 75 ?hg (N := 60) ?hd (xs := ([] : List (S75))) (inner := []) (ok := fun _ => True) (okp := fun _ => True) ?hr ?hp (fun _ hk => hk) trivial (Below.refl _ _) (Nat.le_refl _) (by simp) ?_; (case hd => rfl); (case hg => rfl); (case hr => first | (go_simp; done) | (go_simp; rfl)); (case hp => exact (Reps.none _ _)); intro v309 w44 ho45 hb hg_ hnew_; clear hg_ hnew_; (first | rw [← Ny308.out] at ho45 | (simp only [Int.reduceToNat] at ho45; rw [← Ny308.out] at ho45)); have n0_ := ak_ (Kd.R_elder' (kr_ HO_5) (Kd.R_base ho45) hb); have n1_ := ak_ (Kd.R_lower (Kd.R_new' ho45 (Kd.R_lt (kr_ HO_5))) (keep_size (w := w) (g := g) (row := none) kb_)); have n2_ := ak_ (IsS135.below (isS135_a HI0) hb); have n3_ := ak_ (KeepBut.trans kb_ (KeepBut.of_below hb g none) (.inl rfl)); have n4_ := ak_ (below_step (hz_ (IsS135.ge HI0.out)) hb); clear HO_5 HI0 HK HB; have HO_5 := n0_; have HO310 := n1_; have HI0 := n2_; have HK := n3_; have HB := n4_; clear n0_ n1_ n2_ n3_ n4_; clear hb ho45) | ((with_reducible refine gate_callee (f := 104) rfl ?_); refine goesL_ (some 62) rfl rfl Try.func104 (by kernel_rfl) rfl #[.pointer (some ⟨g, 0, none⟩), .int .i64 2] rfl ln_ ?_; (with_reducible refine (spec_l00Src_pick.calls g s0_0 x1001_36 x1002_36 2 t311 t312 t313 w0 _ ?side1 ?side2 A43.out).mono ?_); (case side1 => exact isS135_a HI0); (case side2 => exact hz_ (IsS135.ge HI0.out)); rintro e w46 ⟨rfl, hi, hb, hk⟩; refine ⟨_, rfl, ?_⟩; have n0_ := ak_ (Kd.R_mono (Kd.R_keep (IsS135.apart (show IsS135 w0 _ g s0_0 x1001_36 x1002_36 from isS135_a HI0) (kr_ HO_5) (by decide)) hk (fun _ h => h.2)) (fun _ h => h.1)); have n1_ := ak_ (Kd.R_mono (Kd.R_keep (IsS135.apart (show IsS135 w0 _ g s0_0 x1001_36 x1002_36 from isS135_a HI0) (kr_ HO310) (by decide)) hk (fun _ h => h.2)) (fun _ h => h.1)); have n2_ := ak_ (KeepBut.trans kb_ hk (.inl rfl)); have n3_ := ak_ (hb); have n4_ := ak_ (hi); clear HO_5 HO310 HK HB HI0; have HO_5 := n0_; have HO310 := n1_; have HK := n2_; have HB := n3_; have HI0 := n4_; clear n0_ n1_ n2_ n3_ n4_; clear hb hk hi))
          go_loopg [5, 11] kj36 (fun kq v5 v11 w' => ∃ (x5_4 : List (S75)) (x11_4 : Int), v11 = .int .i64 x11_4 ∧ Aside0 (spec_l21DrawChecks.l1 kq l1 x5_4 x11_4 s0_0 t312 t313 = some (r1, r2, r3)) ∧ Aside0 (kq ≤ kj36) ∧ Aside0 (Kd.R k75 75 w' w.heap.size (fun _ => True) v5 x5_4) ∧ Aside0 (IsS135 w0 w' g s0_0 t312 t313) ∧ Aside0 (KeepBut w w' g none) ∧ Aside0 (Below w0.heap.size w0 w'))
          case atStart => exact ⟨(y308), (wrap64 (60 + t311)), fr_, H', ⟨Nat.le_refl _⟩, ⟨by (with_reducible repeat (first | apply Kd.R_alloc | apply Kd.R_drewN | apply Kd.R_drew)); exact Kd.R_mono HO310.out (fun _ hk => trivial)⟩, ⟨by repeat (first | (with_reducible first | exact HI0.out | apply IsS135.alloc | apply IsS135.drewN | apply IsS135.drew | apply IsS135.set_1 | apply IsS135.set_2) | exact HI0.out)⟩, ⟨kb_⟩, ⟨hz_ (IsS135.ge HI0.out)⟩⟩
          case round =>
           clear H'
           try clear c1
           try clear c2
           try clear p2
           try clear q2
           try clear hx2
           try clear c3
           try clear c4
           try clear p6
           try clear c8
           try clear c8b0
           try clear c9
           try clear c10
           try clear c11
           try clear c11b0
           try clear c12
           try clear c12b0
           try clear c16
           try clear c16b0
           try clear c16b1
           try clear c19
           try clear c29
           try clear p29
           try clear q29
           try clear hx29
           try clear c38
           try clear c38b0
           try clear c38b1
           try clear c42
           try clear hcz20_0
           try clear hcz20_1
           try clear hcz20_2
           try clear hcz22_0
           try clear hcz22_1
           try clear hcz22_2
           try clear hcz24_0
           try clear hcz24_1
           try clear hcz24_2
           try clear hcz30_0
           try clear hcz30_1
           try clear hcz30_2
           try clear hcz32_0
           try clear hcz32_1
           try clear hcz32_2
           try clear hcz34_0
           try clear hcz34_1
           try clear hcz34_2
           try clear hfz20_0
           try clear hfz20_1
           try clear hfz20_2
           try clear hfz22_0
           try clear hfz22_1
           try clear hfz22_2
           try clear hfz24_0
           try clear hfz24_1
           try clear hfz24_2
           try clear hfz30_0
           try clear hfz30_1
           try clear hfz30_2
           try clear hfz32_0
           try clear hfz32_1
           try clear hfz32_2
           try clear hfz34_0
           try clear hfz34_1
           try clear hfz34_2
           try clear hx293_0
           try clear hx293_1
           try clear hx293_2
           try clear hx293_3
           try clear p2
           try clear p29
           try clear p293
           try clear p6
           try clear q2
           try clear q29
           try clear q293
           obtain ⟨x5_4, x11_4, rfl, HA, HK4, HO_5, HI0, HK, HB⟩ := hrel
           cases gk with
           | zero => exact absurd HA.out (by simp [spec_l21DrawChecks.l1])
           | succ k4 =>
            have H := HA.out
            clear HA
            simp only [spec_l21DrawChecks.l1] at H
            by_cases c47 : x11_4 > 0
            ·rw [if_pos c47] at H
             have c47b0 : decide (0 < x11_4) = true := dt_ c47
             clear c47
             (first | rw [c47b0] | (simp only [i64_w, i32_w]; rw [c47b0]) | skip)
             by_cases c48 : 0 < (l1.length : Int)
             ·rw [if_pos c48] at H
              have c48b0 : decide (0 < (l1.length : Int)) = true := dt_ c48
              have c48b1 : decide (0 < l1.length) = true := dt_ (by omega)
              clear c48
              by_cases c49 : x5_4.length < 4398046511104
              ·rw [if_pos c49] at H
               have LMc49 := ak_ c49
               clear c49
               obtain ⟨y315, hy315⟩ : ∃ y_ : List (S75), y_ = (x5_4 ++ [(⟨(rd_T72 l1 0).f0, wrap64 (100 + (x5_4.length : Int)), 0⟩ : S75)]) := ⟨_, rfl⟩
               replace H : (spec_l21DrawChecks.l1 k4 l1 y315 (wrap64 (x11_4 - 1)) s0_0 t312 t313) = some (r1, r2, r3) := by first | (rw [hy315]; with_reducible exact H) | (have H2_ := (Option.bind_some _ _).symm.trans H; rw [hy315]; with_reducible exact H2_) | (have H2_ := (Option.bind_some _ _).symm.trans H; with_reducible exact H2_) | with_reducible exact H | (rw [hy315]; exact H) | exact H
               have Ny315 := ak_ hy315
               clear hy315
               have H' := ak_ H
               clear H
               have p314 : 0 ≤ (0 : Int) := (by omega)
               have q314 : 0 < (l1.length : Int) := od_
               obtain ⟨ad314, e314, hx314_0, hx314_1, hx314_2, hx314_3⟩ := at_T72 (Kd.C_foot_now HR1.out HK.out) 0 p314 q314
               cases e314
               have qi314 : (0 < l1.length) = True := eq_true (by omega)
               (try rw [show ((0 : Int)).toNat = 0 from rfl] at hx314_0)
               (try rw [show 0 * 4 = 0 from rfl] at hx314_0)
               (try rw [Addr.add_zero'] at hx314_0)
               (try rw [show ((0 : Int)).toNat = 0 from rfl] at hx314_1)
               (try rw [show 0 * 4 = 0 from rfl] at hx314_1)
               (try rw [Addr.add_zero'] at hx314_1)
               (try rw [show ((0 : Int)).toNat = 0 from rfl] at hx314_2)
               (try rw [show 0 * 4 = 0 from rfl] at hx314_2)
               (try rw [Addr.add_zero'] at hx314_2)
               (try rw [show ((0 : Int)).toNat = 0 from rfl] at hx314_3)
               (try rw [show 0 * 4 = 0 from rfl] at hx314_3)
               (try rw [Addr.add_zero'] at hx314_3)
               replace p314 := eq_true p314
               replace q314 := eq_true q314
               obtain ⟨Ao50, co50, eo50⟩ := Kd.R_slice HO_5.out
               subst eo50
               go_wp2_with (first | ((with_reducible refine gate_builtin (b := .append) (xs := #[.tmp 68, .tmp 77]) rfl ?_); (try (refine gate_guard (by rfl) ?_; dsimp only)); at_builtin; refine Kd.R_append k75 w.heap.size rfl (.tmp 68) (.tmp 77) 54 75 (.agg #[(.string ⟨#[]⟩), (.int .i64 0), (.int .i64 0)]) 32 rfl Try.underlying54 info75 rfl (by decide) (by omega) (.slice Ao50 x5_4.length co50) x5_4 (⟨(rd_T72 l1 0).f0, wrap64 (100 + (x5_4.length : Int)), 0⟩ : S75) [.string ((rd_T72 l1 0).f0), .int .i64 (wrap64 (100 + (x5_4.length : Int))), .int .i64 0] (fun _ => True) (fun _ => False) rfl rfl ?aP (fun _ hk => hk.elim) ?aF ?aO (Below.refl _ _) ?aS ?aL ?_; (case aP => exact k75_mkM _ _ _ (⟨(rd_T72 l1 0).f0, wrap64 (100 + (x5_4.length : Int)), 0⟩ : S75)); (case aF => exact (fun _ _ => trivial)); (case aO => exact (kr_ HO_5)); (case aS => exact (keep_size (w := w) (g := g) (row := none) kb_)); (case aL => have := LMc49.out; omega); intro v316 w51 ho hb hg hat; rw [← Ny315.out] at ho; have n0_ := ak_ (IsS135.grown (isS135_a HI0) hg (IsS135.own_ne HI0.out HO_5.out (by decide))); have n1_ := ak_ (below_weaken (hz_ (IsS135.ge HI0.out)) HL.out hb); have n2_ := ak_ (KeepBut.trans kb_ (KeepBut.of_grown hg g) (Kd.R_base2 HO_5.out)); have n3_ := ak_ (ho); clear HI0 HB HK HO_5; have HI0 := n0_; have HB := n1_; have HK := n2_; have HO317 := n3_; clear n0_ n1_ n2_ n3_; clear ho hb hg hat))
               go_roundg k4
               case measure => have := HK1.out; have := HJ6.out; have := HJ36.out; have := HK4.out; omega
               case rel => exact ⟨(y315), (wrap64 (x11_4 - 1)), fr_, H', ⟨by have := HK1.out; have := HJ6.out; have := HJ36.out; have := HK4.out; omega⟩, ⟨kr_ HO317⟩, ⟨by repeat (first | (with_reducible first | exact HI0.out | apply IsS135.alloc | apply IsS135.drewN | apply IsS135.drew | apply IsS135.set_1 | apply IsS135.set_2) | exact HI0.out)⟩, ⟨kb_⟩, ⟨hz_ (IsS135.ge HI0.out)⟩⟩
              ·rw [if_neg c49] at H
               exact absurd H (by simp)
             ·rw [if_neg c48] at H
              exact absurd H (by simp)
            ·rw [if_neg c47] at H
             have c47b0 : decide (0 < x11_4) = false := decide_eq_false c47
             clear c47
             (first | rw [c47b0] | (simp only [i64_w, i32_w]; rw [c47b0]) | skip)
             have H' := ak_ H
             clear H
             go_wp2
             go_meet
             case rel => exact ⟨_, (x5_4), (t312), (t313), H', ⟨by have := HK1.out; have := HJ6.out; have := HJ36.out; have := HK4.out; first | omega | exact Nat.le_refl _⟩, ⟨kr_ HO_5⟩, ⟨by repeat (first | (with_reducible first | exact HI0.out | apply IsS135.alloc | apply IsS135.drewN | apply IsS135.drew | apply IsS135.set_1 | apply IsS135.set_2) | exact HI0.out)⟩, ⟨kb_⟩, ⟨hz_ (IsS135.ge HI0.out)⟩⟩
         ·replace c42 := Bool.eq_false_iff.mpr c42
          subst c42
          have H1 : (spec_l21DrawChecks.j4 kj36 x5_1 s0_0 x1001_36 x1002_36) = some (r1, r2, r3) := by rw [if_neg (show ¬ (false = true) by decide)] at H; exact H
          clear H
          have H := H1
          clear H1
          have H' := ak_ H
          clear H
          go_wp2
          go_meet
          case rel => exact ⟨_, (x5_1), (x1001_36), (x1002_36), H', ⟨by have := HK1.out; have := HJ6.out; have := HJ36.out; first | omega | exact Nat.le_refl _⟩, ⟨kr_ HO_5⟩, ⟨by repeat (first | (with_reducible first | exact HI0.out | apply IsS135.alloc | apply IsS135.drewN | apply IsS135.drew | apply IsS135.set_1 | apply IsS135.set_2) | exact HI0.out)⟩, ⟨kb_⟩, ⟨hz_ (IsS135.ge HI0.out)⟩⟩
        case rest =>
         clear HC41
         try clear c1
         try clear c2
         try clear p2
         try clear q2
         try clear hx2
         try clear c3
         try clear p3
         try clear q3
         try clear hx3
         try clear qi3
         try clear c4
         try clear p6
         try clear c8
         try clear c8b0
         try clear c9
         try clear c10
         try clear c11
         try clear c11b0
         try clear c12
         try clear c12b0
         try clear c16
         try clear c16b0
         try clear c16b1
         try clear c19
         try clear c29
         try clear p29
         try clear q29
         try clear hx29
         try clear p31
         try clear q31
         try clear hx31
         try clear qi31
         try clear c38
         try clear c38b0
         try clear c38b1
         try clear c42
         try clear c47
         try clear c47b0
         try clear c48
         try clear c48b0
         try clear c48b1
         try clear c49
         try clear hcz20_0
         try clear hcz20_1
         try clear hcz20_2
         try clear hcz22_0
         try clear hcz22_1
         try clear hcz22_2
         try clear hcz24_0
         try clear hcz24_1
         try clear hcz24_2
         try clear hcz30_0
         try clear hcz30_1
         try clear hcz30_2
         try clear hcz32_0
         try clear hcz32_1
         try clear hcz32_2
         try clear hcz34_0
         try clear hcz34_1
         try clear hcz34_2
         try clear hfz20_0
         try clear hfz20_1
         try clear hfz20_2
         try clear hfz22_0
         try clear hfz22_1
         try clear hfz22_2
         try clear hfz24_0
         try clear hfz24_1
         try clear hfz24_2
         try clear hfz30_0
         try clear hfz30_1
         try clear hfz30_2
         try clear hfz32_0
         try clear hfz32_1
         try clear hfz32_2
         try clear hfz34_0
         try clear hfz34_1
         try clear hfz34_2
         try clear hx293_0
         try clear hx293_1
         try clear hx293_2
         try clear hx293_3
         try clear hx314_0
         try clear hx314_1
         try clear hx314_2
         try clear hx314_3
         try clear p2
         try clear p29
         try clear p293
         try clear p314
         try clear p6
         try clear q2
         try clear q29
         try clear q293
         try clear q314
         obtain ⟨kq, x5_40, x1001_40, x1002_40, HA, HJ40, HO_5, HI0, HK, HB⟩ := hcut
         cases kq with
         | zero => exact absurd HA.out (by simp [spec_l21DrawChecks.j4])
         | succ kj40 =>
          have H := HA.out
          clear HA
          simp only [spec_l21DrawChecks.j4] at H
          by_cases c52 : (x5_40.length : Int) > 0
          ·rw [if_pos c52] at H
           have c52b0 : decide (0 < (x5_40.length : Int)) = true := dt_ c52
           have c52b1 : decide (0 < x5_40.length) = true := dt_ (by omega)
           clear c52
           replace H := ob_ H
           obtain ⟨⟨t318, t319, t320⟩, A530, H⟩ := H
           replace H : (if 0 ≤ t318 then (if t318 < (x5_40.length : Int) then ((spec_l00Src_pick.f s0_0 t319 t320 20).bind fun bt321 => (if bt321.1 = 0 then ((spec_l00Src_among.f s0_0 bt321.2.1 bt321.2.2 (([(-1), 0, 20000, 20001] : List Int))).bind fun bt327 => (some ((x5_40.set (t318 : Int).toNat (⟨(rd_T75 x5_40 t318).f0, bt327.1, (rd_T75 x5_40 t318).f2⟩ : S75)), bt327.2.1, bt327.2.2))) else (if bt321.1 = 1 then ((spec_l00Src_among.f s0_0 bt321.2.1 bt321.2.2 (([(-1), 0, 1000000, 1000001] : List Int))).bind fun bt334 => (some ((x5_40.set (t318 : Int).toNat (⟨(rd_T75 x5_40 t318).f0, (rd_T75 x5_40 t318).f1, bt334.1⟩ : S75)), bt334.2.1, bt334.2.2))) else (if bt321.1 = 2 then ((spec_l00Src_text.f s0_0 bt321.2.1 bt321.2.2 (([(⟨#[]⟩ : ByteArray), (⟨#[110, 111, 110, 101]⟩ : ByteArray), (⟨#[98, 97, 99, 107, 115, 116, 97, 121]⟩ : ByteArray)] : List ByteArray))).bind fun bt341 => (some ((x5_40.set (t318 : Int).toNat (⟨bt341.1, (rd_T75 x5_40 t318).f1, (rd_T75 x5_40 t318).f2⟩ : S75)), bt341.2.1, bt341.2.2))) else (some (x5_40, bt321.2.1, bt321.2.2)))))) else (none)) else (none)) = some (r1, r2, r3) := H
           have A53 := ak_ A530
           clear A530
           by_cases c54 : 0 ≤ t318
           ·rw [if_pos c54] at H
            have c54b0 : decide (0 ≤ t318) = true := dt_ c54
            clear c54
            by_cases c55 : t318 < (x5_40.length : Int)
            ·rw [if_pos c55] at H
             have c55b0 : decide (t318 < (x5_40.length : Int)) = true := dt_ c55
             clear c55
             replace H := ob_ H
             obtain ⟨⟨t321, t322, t323⟩, A570, H⟩ := H
             replace H : (if t321 = 0 then ((spec_l00Src_among.f s0_0 t322 t323 (([(-1), 0, 20000, 20001] : List Int))).bind fun bt327 => (some ((x5_40.set (t318 : Int).toNat (⟨(rd_T75 x5_40 t318).f0, bt327.1, (rd_T75 x5_40 t318).f2⟩ : S75)), bt327.2.1, bt327.2.2))) else (if t321 = 1 then ((spec_l00Src_among.f s0_0 t322 t323 (([(-1), 0, 1000000, 1000001] : List Int))).bind fun bt334 => (some ((x5_40.set (t318 : Int).toNat (⟨(rd_T75 x5_40 t318).f0, (rd_T75 x5_40 t318).f1, bt334.1⟩ : S75)), bt334.2.1, bt334.2.2))) else (if t321 = 2 then ((spec_l00Src_text.f s0_0 t322 t323 (([(⟨#[]⟩ : ByteArray), (⟨#[110, 111, 110, 101]⟩ : ByteArray), (⟨#[98, 97, 99, 107, 115, 116, 97, 121]⟩ : ByteArray)] : List ByteArray))).bind fun bt341 => (some ((x5_40.set (t318 : Int).toNat (⟨bt341.1, (rd_T75 x5_40 t318).f1, (rd_T75 x5_40 t318).f2⟩ : S75)), bt341.2.1, bt341.2.2))) else (some (x5_40, t322, t323))))) = some (r1, r2, r3) := H
             have A57 := ak_ A570
             clear A570
             by_cases c58 : t321 = 0
             ·rw [if_pos c58] at H
              have c58b0 : (t321 == 0) = true := beq_iff_eq.mpr c58
              have c58b1 : (t321 != 0) = false := bne_eq_false_iff_eq.mpr c58
              clear c58
              obtain ⟨y324, hy324⟩ : ∃ y_ : List Int, y_ = (([(-1), 0, 20000, 20001] : List Int)) := ⟨_, rfl⟩
              replace H : ((spec_l00Src_among.f s0_0 t322 t323 y324).bind fun bt327 => (some ((x5_40.set (t318 : Int).toNat (⟨(rd_T75 x5_40 t318).f0, bt327.1, (rd_T75 x5_40 t318).f2⟩ : S75)), bt327.2.1, bt327.2.2))) = some (r1, r2, r3) := by first | (rw [hy324]; with_reducible exact H) | (have H2_ := (Option.bind_some _ _).symm.trans H; rw [hy324]; with_reducible exact H2_) | (have H2_ := (Option.bind_some _ _).symm.trans H; with_reducible exact H2_) | with_reducible exact H | (rw [hy324]; exact H) | exact H
              have Ny324 := ak_ hy324
              clear hy324
              replace H := ob_ H
              obtain ⟨⟨t327, t328, t329⟩, A590, H⟩ := H
              replace H : (some ((x5_40.set (t318 : Int).toNat (⟨(rd_T75 x5_40 t318).f0, t327, (rd_T75 x5_40 t318).f2⟩ : S75)), t328, t329)) = some (r1, r2, r3) := H
              have A59 := ak_ A590
              clear A590
              obtain ⟨y330, hy330⟩ : ∃ y_ : List (S75), y_ = (x5_40.set (t318 : Int).toNat (⟨(rd_T75 x5_40 t318).f0, t327, (rd_T75 x5_40 t318).f2⟩ : S75)) := ⟨_, rfl⟩
              replace H : (some (y330, t328, t329)) = some (r1, r2, r3) := by first | (rw [hy330]; with_reducible exact H) | (have H2_ := (Option.bind_some _ _).symm.trans H; rw [hy330]; with_reducible exact H2_) | (have H2_ := (Option.bind_some _ _).symm.trans H; with_reducible exact H2_) | with_reducible exact H | (rw [hy330]; exact H) | exact H
              have Ny330 := ak_ hy330
              clear hy330
              simp only [Option.some.injEq, Prod.mk.injEq] at H
              obtain ⟨rfl, rfl, rfl⟩ := H
              obtain ⟨Ao60, co60, eo60⟩ := Kd.R_slice HO_5.out
              subst eo60
              go_wp2_with (first | ((with_reducible refine gate_callee (f := 104) rfl ?_); refine goesL_ (some 86) rfl rfl Try.func104 (by kernel_rfl) rfl #[.pointer (some ⟨g, 0, none⟩), .int .i64 (x5_40.length : Int)] rfl ln_ ?_; (with_reducible refine (spec_l00Src_pick.calls g s0_0 x1001_40 x1002_40 (x5_40.length : Int) t318 t319 t320 w0 _ ?side1 ?side2 A53.out).mono ?_); (case side1 => exact isS135_a HI0); (case side2 => exact hz_ (IsS135.ge HI0.out)); rintro e w61 ⟨rfl, hi, hb, hk⟩; refine ⟨_, rfl, ?_⟩; have n0_ := ak_ (Kd.R_mono (Kd.R_keep (IsS135.apart (show IsS135 w0 _ g s0_0 x1001_40 x1002_40 from isS135_a HI0) (kr_ HO_5) (by decide)) hk (fun _ h => h.2)) (fun _ h => h.1)); have n1_ := ak_ (KeepBut.trans kb_ hk (.inl rfl)); have n2_ := ak_ (hb); have n3_ := ak_ (hi); clear HO_5 HK HB HI0; have HO_5 := n0_; have HK := n1_; have HB := n2_; have HI0 := n3_; clear n0_ n1_ n2_ n3_; (try clear hb); (try clear hb2); (try clear hk); (try clear hi); have p56 : 0 ≤ (t318 : Int) := od_; have q56 : (t318 : Int) < ((x5_40.length : Int) : Int) := od_; obtain ⟨go56, co56, eo56, gb56, gl56, cl56, HG56⟩ := Kd.R_form HO_5.out (by omega); (first | cases eo56 | (injection eo56 with ea_ en_ ec_; (first | subst ea_ | (injection ea_ with ea_; subst ea_)); subst ec_; clear en_)); have GB56 := ak_ gb56; have GG56 := ak_ HG56; clear gb56 gl56 HG56; obtain ⟨ce56, hcl56, hM56, hcc56, hfr56⟩ := Kd.R_elem HO_5.out z75 (t318 : Int) p56 q56; obtain rfl := k75_openM hM56; have hx56_0 : w61.cell? ⟨go56, (t318 : Int).toNat * 3, none⟩ = some (.string ((rd_T75 x5_40 t318).f0)) := hcc56 0 _ rfl; have hx56_1 : w61.cell? ⟨go56, (t318 : Int).toNat * 3 + 1, none⟩ = some (.int .i64 ((rd_T75 x5_40 t318).f1)) := hcc56 1 _ rfl; have hx56_2 : w61.cell? ⟨go56, (t318 : Int).toNat * 3 + 2, none⟩ = some (.int .i64 ((rd_T75 x5_40 t318).f2)) := hcc56 2 _ rfl; have hf56_0 : w61.frozen? ⟨go56, (t318 : Int).toNat * 3, none⟩ = false := hfr56 0; have hf56_1 : w61.frozen? ⟨go56, (t318 : Int).toNat * 3 + 1, none⟩ = false := hfr56 1; have hf56_2 : w61.frozen? ⟨go56, (t318 : Int).toNat * 3 + 2, none⟩ = false := hfr56 2; (try clear hcl56); (try clear hcc56); (try clear hfr56); (try clear hM56); replace p56 := eq_true p56; replace q56 := eq_true q56) | ((with_reducible refine gate_callee (f := 104) rfl ?_); refine goesL_ (some 89) rfl rfl Try.func104 (by kernel_rfl) rfl #[.pointer (some ⟨g, 0, none⟩), .int .i64 20] rfl ln_ ?_; (with_reducible refine (spec_l00Src_pick.calls g s0_0 t319 t320 20 t321 t322 t323 w0 _ ?side1 ?side2 A57.out).mono ?_); (case side1 => exact isS135_a HI0); (case side2 => exact hz_ (IsS135.ge HI0.out)); rintro e w62 ⟨rfl, hi, hb, hk⟩; refine ⟨_, rfl, ?_⟩; have n0_ := ak_ (Kd.R_mono (Kd.R_keep (IsS135.apart (show IsS135 w0 _ g s0_0 t319 t320 from isS135_a HI0) (kr_ HO_5) (by decide)) hk (fun _ h => h.2)) (fun _ h => h.1)); have n1_ := ak_ (KeepBut.trans kb_ hk (.inl rfl)); have n2_ := ak_ (hb); have n3_ := ak_ (hi); clear HO_5 HK HB HI0; have HO_5 := n0_; have HK := n1_; have HB := n2_; have HI0 := n3_; clear n0_ n1_ n2_ n3_; clear hb hk hi) | ((with_reducible refine gate_dst (N := 94) rfl ?_); (try (refine gate_guard (by rfl) ?_; dsimp only)); refine Kd.R_lit (Kd.int .i64) _ 2 ?hg (N := 94) ?hd (xs := ([(-1), 0, 20000, 20001] : List Int)) (inner := [.int .i64 (-1), .int .i64 0, .int .i64 20000, .int .i64 20001]) (ok := fun _ => True) (okp := fun _ => True) ?hr ?hp (fun _ hk => hk) trivial (Below.refl _ _) (Nat.le_refl _) (by simp) ?_; (case hd => rfl); (case hg => rfl); (case hr => first | (go_simp; done) | (go_simp; rfl)); (case hp => exact (Reps.one (show Kd.M (Kd.int .i64) _ _ _ (-1) [.int .i64 (-1)] from rfl) (Reps.one (show Kd.M (Kd.int .i64) _ _ _ 0 [.int .i64 0] from rfl) (Reps.one (show Kd.M (Kd.int .i64) _ _ _ 20000 [.int .i64 20000] from rfl) (Reps.one (show Kd.M (Kd.int .i64) _ _ _ 20001 [.int .i64 20001] from rfl) (Reps.none _ _)))))); intro v325 w63 ho64 hb hg_ hnew_; clear hg_ hnew_; (first | rw [← Ny324.out] at ho64 | (simp only [Int.reduceToNat] at ho64; rw [← Ny324.out] at ho64)); have n0_ := ak_ (Kd.R_below (kr_ HO_5) hb); have n1_ := ak_ (Kd.R_lower ho64 (keep_size (w := w) (g := g) (row := none) kb_)); have n2_ := ak_ (IsS135.below (isS135_a HI0) hb); have n3_ := ak_ (KeepBut.trans kb_ (KeepBut.of_below hb g none) (.inl rfl)); have n4_ := ak_ (below_step (hz_ (IsS135.ge HI0.out)) hb); clear HO_5 HI0 HK HB; have HO_5 := n0_; have HO326 := n1_; have HI0 := n2_; have HK := n3_; have HB := n4_; clear n0_ n1_ n2_ n3_ n4_; clear hb ho64; obtain ⟨Ao65, co65, eo65⟩ := Kd.R_slice HO326.out; subst eo65) | ((with_reducible refine gate_callee (f := 106) rfl ?_); refine goesL_ (some 95) rfl rfl Try.func106 (by kernel_rfl) rfl #[.pointer (some ⟨g, 0, none⟩), .slice Ao65 y324.length co65] rfl ln_ ?_; (with_reducible refine (spec_l00Src_among.calls g s0_0 t322 t323 _ _ y324 t327 t328 t329 w0 _ ?side1 ?side2 ?side3 ?side4 ?side5 A59.out).mono ?_); (case side1 => exact isS135_a HI0); (case side2 => exact hz_ (IsS135.ge HI0.out)); (case side3 => repeat (first | exact (Kd.R_reads' HO326.out).2.2 | (with_reducible refine Kd.C_alloc ?_ _) | (with_reducible refine Kd.C_drewN ?_ _) | (with_reducible refine Kd.C_drew ?_))); (case side4 => exact (Kd.R_reads' HO326.out).2.1); (case side5 => exact far_slice (IsS135.own_ne HI0.out HO326.out (by decide))); rintro e w66 ⟨rfl, hi, hb, hk⟩; refine ⟨_, rfl, ?_⟩; have n0_ := ak_ (Kd.R_mono (Kd.R_keep (IsS135.apart (show IsS135 w0 _ g s0_0 t322 t323 from isS135_a HI0) (kr_ HO_5) (by decide)) hk (fun _ h => h.2)) (fun _ h => h.1)); have n1_ := ak_ (Kd.R_mono (Kd.R_keep (IsS135.apart (show IsS135 w0 _ g s0_0 t322 t323 from isS135_a HI0) (kr_ HO326) (by decide)) hk (fun _ h => h.2)) (fun _ h => h.1)); have n2_ := ak_ (KeepBut.trans kb_ hk (.inl rfl)); have n3_ := ak_ (hb); have n4_ := ak_ (hi); clear HO_5 HO326 HK HB HI0; have HO_5 := n0_; have HO326 := n1_; have HK := n2_; have HB := n3_; have HI0 := n4_; clear n0_ n1_ n2_ n3_ n4_; (try clear hb); (try clear hb2); (try clear hk); (try clear hi); have HX67 := ak_ (show Kd.R k75 75 w66 w.heap.size (fun _ => True) (.slice (some ⟨go56, 0, none⟩) x5_40.length co60) x5_40 from (kr_ HO_5)); obtain ⟨ce67, hcl67, hM67, hcc67, hfr67⟩ := Kd.R_elem HX67.out z75 (t318 : Int) (od_) (by have h_ : (t318 : Int) < ((x5_40.length : Int) : Int) := od_; first | exact h_ | (have e_ := (Kd.R_reads' HO_5.out).1; omega) | simpa using h_); obtain rfl := k75_openM hM67; have HP67 := Kd.R_seg HX67.out (t318 : Int) (od_) (by have h_ : (t318 : Int) < ((x5_40.length : Int) : Int) := od_; first | exact h_ | (have e_ := (Kd.R_reads' HO_5.out).1; omega) | simpa using h_) (seg := [.int .i64 t327]) (j := 1) hcl67 hcc67 (show 2 ≤ 3 from by decide) (x' := (⟨(rd_T75 x5_40 t318).f0, t327, (rd_T75 x5_40 t318).f2⟩ : S75)) (k75_mkM _ _ _ (⟨(rd_T75 x5_40 t318).f0, t327, (rd_T75 x5_40 t318).f2⟩ : S75) ) (fun _ hk => hk); have hx67_1 := hcc67 1 _ rfl; (try simp only [show (k75).sz = 3 from rfl, Nat.mul_one, Nat.add_zero] at hx67_1); have hf67_1 := hfr67 1; (try simp only [show (k75).sz = 3 from rfl, Nat.mul_one, Nat.add_zero] at hf67_1); (try clear hcl67); (try clear hcc67); (try clear hfr67); (try clear hM67)) | ((with_reducible refine gate_store (t := 2) (p := 97) rfl ?_); refine store_event (t := 2) (p := 97) (v := ?vo_w68) (w1 := (w66.setCell ⟨go56, (t318 : Int).toNat * 3 + 1, none⟩ (.int .i64 t327))) ?hg ?ho ?hn ?hr ?_; (case ho => rfl); (case hg => rfl); (case hn => rfl); (case hr => first | (go_simp; done) | (go_simp; rfl)); intro w68 hw; have hg : w66.grownBy w68 (some go56) := (by rw [hw]; exact HP67.2); have hp_ : Kd.R k75 75 w68 w.heap.size (fun _ => True) (.slice (some ⟨go56, 0, none⟩) x5_40.length co60) y330 := (by rw [hw, Ny330.out]; exact HP67.1); clear HP67; have n0_ := ak_ (hp_); have n1_ := ak_ (IsS135.grown (isS135_a HI0) hg (IsS135.own_ne HI0.out HO_5.out (by decide))); have n2_ := ak_ (Kd.R_over' (v := (.slice (some ⟨go56, 0, none⟩) x5_40.length co60)) (kr_ HO326) (Kd.R_typed HO_5.out) (by decide) hg); have n3_ := ak_ ((by rw [hw]; exact below_set (HB.out) (Nat.le_trans HL.out GB56.out) : Below w0.heap.size w0 w68)); have n4_ := ak_ (KeepBut.trans kb_ (KeepBut.of_grown hg g) (Kd.R_base2 HO_5.out)); clear HO_5 HI0 HO326 HB HK; have HO_5 := n0_; have HI0 := n1_; have HO326 := n2_; have HB := n3_; have HK := n4_; clear n0_ n1_ n2_ n3_ n4_; clear hg hw hp_))
              go_ret
              exact ⟨_, ew_, by (with_reducible repeat (first | apply Kd.R_alloc | apply Kd.R_drewN | apply Kd.R_drew)); exact HO_5.out, isS135_a HI0, hz_ (IsS135.ge HI0.out), kb_⟩
             ·rw [if_neg c58] at H
              have c58b0 : (t321 == 0) = false := beq_eq_false_iff_ne.mpr c58
              have c58b1 : (t321 != 0) = true := bne_iff_ne.mpr c58
              by_cases c69 : t321 = 1
              ·rw [if_pos c69] at H
               have c69b0 : (t321 == 1) = true := beq_iff_eq.mpr c69
               have c69b1 : (t321 != 1) = false := bne_eq_false_iff_eq.mpr c69
               clear c69
               obtain ⟨y331, hy331⟩ : ∃ y_ : List Int, y_ = (([(-1), 0, 1000000, 1000001] : List Int)) := ⟨_, rfl⟩
               replace H : ((spec_l00Src_among.f s0_0 t322 t323 y331).bind fun bt334 => (some ((x5_40.set (t318 : Int).toNat (⟨(rd_T75 x5_40 t318).f0, (rd_T75 x5_40 t318).f1, bt334.1⟩ : S75)), bt334.2.1, bt334.2.2))) = some (r1, r2, r3) := by first | (rw [hy331]; with_reducible exact H) | (have H2_ := (Option.bind_some _ _).symm.trans H; rw [hy331]; with_reducible exact H2_) | (have H2_ := (Option.bind_some _ _).symm.trans H; with_reducible exact H2_) | with_reducible exact H | (rw [hy331]; exact H) | exact H
               have Ny331 := ak_ hy331
               clear hy331
               replace H := ob_ H
               obtain ⟨⟨t334, t335, t336⟩, A700, H⟩ := H
               replace H : (some ((x5_40.set (t318 : Int).toNat (⟨(rd_T75 x5_40 t318).f0, (rd_T75 x5_40 t318).f1, t334⟩ : S75)), t335, t336)) = some (r1, r2, r3) := H
               have A70 := ak_ A700
               clear A700
               obtain ⟨y337, hy337⟩ : ∃ y_ : List (S75), y_ = (x5_40.set (t318 : Int).toNat (⟨(rd_T75 x5_40 t318).f0, (rd_T75 x5_40 t318).f1, t334⟩ : S75)) := ⟨_, rfl⟩
               replace H : (some (y337, t335, t336)) = some (r1, r2, r3) := by first | (rw [hy337]; with_reducible exact H) | (have H2_ := (Option.bind_some _ _).symm.trans H; rw [hy337]; with_reducible exact H2_) | (have H2_ := (Option.bind_some _ _).symm.trans H; with_reducible exact H2_) | with_reducible exact H | (rw [hy337]; exact H) | exact H
               have Ny337 := ak_ hy337
               clear hy337
               simp only [Option.some.injEq, Prod.mk.injEq] at H
               obtain ⟨rfl, rfl, rfl⟩ := H
               obtain ⟨Ao71, co71, eo71⟩ := Kd.R_slice HO_5.out
               subst eo71
               go_wp2_with (first | ((with_reducible refine gate_callee (f := 104) rfl ?_); refine goesL_ (some 86) rfl rfl Try.func104 (by kernel_rfl) rfl #[.pointer (some ⟨g, 0, none⟩), .int .i64 (x5_40.length : Int)] rfl ln_ ?_; (with_reducible refine (spec_l00Src_pick.calls g s0_0 x1001_40 x1002_40 (x5_40.length : Int) t318 t319 t320 w0 _ ?side1 ?side2 A53.out).mono ?_); (case side1 => exact isS135_a HI0); (case side2 => exact hz_ (IsS135.ge HI0.out)); rintro e w72 ⟨rfl, hi, hb, hk⟩; refine ⟨_, rfl, ?_⟩; have n0_ := ak_ (Kd.R_mono (Kd.R_keep (IsS135.apart (show IsS135 w0 _ g s0_0 x1001_40 x1002_40 from isS135_a HI0) (kr_ HO_5) (by decide)) hk (fun _ h => h.2)) (fun _ h => h.1)); have n1_ := ak_ (KeepBut.trans kb_ hk (.inl rfl)); have n2_ := ak_ (hb); have n3_ := ak_ (hi); clear HO_5 HK HB HI0; have HO_5 := n0_; have HK := n1_; have HB := n2_; have HI0 := n3_; clear n0_ n1_ n2_ n3_; (try clear hb); (try clear hb2); (try clear hk); (try clear hi); have p56 : 0 ≤ (t318 : Int) := od_; have q56 : (t318 : Int) < ((x5_40.length : Int) : Int) := od_; obtain ⟨go56, co56, eo56, gb56, gl56, cl56, HG56⟩ := Kd.R_form HO_5.out (by omega); (first | cases eo56 | (injection eo56 with ea_ en_ ec_; (first | subst ea_ | (injection ea_ with ea_; subst ea_)); subst ec_; clear en_)); have GB56 := ak_ gb56; have GG56 := ak_ HG56; clear gb56 gl56 HG56; obtain ⟨ce56, hcl56, hM56, hcc56, hfr56⟩ := Kd.R_elem HO_5.out z75 (t318 : Int) p56 q56; obtain rfl := k75_openM hM56; have hx56_0 : w72.cell? ⟨go56, (t318 : Int).toNat * 3, none⟩ = some (.string ((rd_T75 x5_40 t318).f0)) := hcc56 0 _ rfl; have hx56_1 : w72.cell? ⟨go56, (t318 : Int).toNat * 3 + 1, none⟩ = some (.int .i64 ((rd_T75 x5_40 t318).f1)) := hcc56 1 _ rfl; have hx56_2 : w72.cell? ⟨go56, (t318 : Int).toNat * 3 + 2, none⟩ = some (.int .i64 ((rd_T75 x5_40 t318).f2)) := hcc56 2 _ rfl; have hf56_0 : w72.frozen? ⟨go56, (t318 : Int).toNat * 3, none⟩ = false := hfr56 0; have hf56_1 : w72.frozen? ⟨go56, (t318 : Int).toNat * 3 + 1, none⟩ = false := hfr56 1; have hf56_2 : w72.frozen? ⟨go56, (t318 : Int).toNat * 3 + 2, none⟩ = false := hfr56 2; (try clear hcl56); (try clear hcc56); (try clear hfr56); (try clear hM56); replace p56 := eq_true p56; replace q56 := eq_true q56) | ((with_reducible refine gate_callee (f := 104) rfl ?_); refine goesL_ (some 89) rfl rfl Try.func104 (by kernel_rfl) rfl #[.pointer (some ⟨g, 0, none⟩), .int .i64 20] rfl ln_ ?_; (with_reducible refine (spec_l00Src_pick.calls g s0_0 t319 t320 20 t321 t322 t323 w0 _ ?side1 ?side2 A57.out).mono ?_); (case side1 => exact isS135_a HI0); (case side2 => exact hz_ (IsS135.ge HI0.out)); rintro e w73 ⟨rfl, hi, hb, hk⟩; refine ⟨_, rfl, ?_⟩; have n0_ := ak_ (Kd.R_mono (Kd.R_keep (IsS135.apart (show IsS135 w0 _ g s0_0 t319 t320 from isS135_a HI0) (kr_ HO_5) (by decide)) hk (fun _ h => h.2)) (fun _ h => h.1)); have n1_ := ak_ (KeepBut.trans kb_ hk (.inl rfl)); have n2_ := ak_ (hb); have n3_ := ak_ (hi); clear HO_5 HK HB HI0; have HO_5 := n0_; have HK := n1_; have HB := n2_; have HI0 := n3_; clear n0_ n1_ n2_ n3_; clear hb hk hi) | ((with_reducible refine gate_dst (N := 102) rfl ?_); (try (refine gate_guard (by rfl) ?_; dsimp only)); refine Kd.R_lit (Kd.int .i64) _ 2 ?hg (N := 102) ?hd (xs := ([(-1), 0, 1000000, 1000001] : List Int)) (inner := [.int .i64 (-1), .int .i64 0, .int .i64 1000000, .int .i64 1000001]) (ok := fun _ => True) (okp := fun _ => True) ?hr ?hp (fun _ hk => hk) trivial (Below.refl _ _) (Nat.le_refl _) (by simp) ?_; (case hd => rfl); (case hg => rfl); (case hr => first | (go_simp; done) | (go_simp; rfl)); (case hp => exact (Reps.one (show Kd.M (Kd.int .i64) _ _ _ (-1) [.int .i64 (-1)] from rfl) (Reps.one (show Kd.M (Kd.int .i64) _ _ _ 0 [.int .i64 0] from rfl) (Reps.one (show Kd.M (Kd.int .i64) _ _ _ 1000000 [.int .i64 1000000] from rfl) (Reps.one (show Kd.M (Kd.int .i64) _ _ _ 1000001 [.int .i64 1000001] from rfl) (Reps.none _ _)))))); intro v332 w74 ho75 hb hg_ hnew_; clear hg_ hnew_; (first | rw [← Ny331.out] at ho75 | (simp only [Int.reduceToNat] at ho75; rw [← Ny331.out] at ho75)); have n0_ := ak_ (Kd.R_below (kr_ HO_5) hb); have n1_ := ak_ (Kd.R_lower ho75 (keep_size (w := w) (g := g) (row := none) kb_)); have n2_ := ak_ (IsS135.below (isS135_a HI0) hb); have n3_ := ak_ (KeepBut.trans kb_ (KeepBut.of_below hb g none) (.inl rfl)); have n4_ := ak_ (below_step (hz_ (IsS135.ge HI0.out)) hb); clear HO_5 HI0 HK HB; have HO_5 := n0_; have HO333 := n1_; have HI0 := n2_; have HK := n3_; have HB := n4_; clear n0_ n1_ n2_ n3_ n4_; clear hb ho75; obtain ⟨Ao76, co76, eo76⟩ := Kd.R_slice HO333.out; subst eo76) | ((with_reducible refine gate_callee (f := 106) rfl ?_); refine goesL_ (some 103) rfl rfl Try.func106 (by kernel_rfl) rfl #[.pointer (some ⟨g, 0, none⟩), .slice Ao76 y331.length co76] rfl ln_ ?_; (with_reducible refine (spec_l00Src_among.calls g s0_0 t322 t323 _ _ y331 t334 t335 t336 w0 _ ?side1 ?side2 ?side3 ?side4 ?side5 A70.out).mono ?_); (case side1 => exact isS135_a HI0); (case side2 => exact hz_ (IsS135.ge HI0.out)); (case side3 => repeat (first | exact (Kd.R_reads' HO333.out).2.2 | (with_reducible refine Kd.C_alloc ?_ _) | (with_reducible refine Kd.C_drewN ?_ _) | (with_reducible refine Kd.C_drew ?_))); (case side4 => exact (Kd.R_reads' HO333.out).2.1); (case side5 => exact far_slice (IsS135.own_ne HI0.out HO333.out (by decide))); rintro e w77 ⟨rfl, hi, hb, hk⟩; refine ⟨_, rfl, ?_⟩; have n0_ := ak_ (Kd.R_mono (Kd.R_keep (IsS135.apart (show IsS135 w0 _ g s0_0 t322 t323 from isS135_a HI0) (kr_ HO_5) (by decide)) hk (fun _ h => h.2)) (fun _ h => h.1)); have n1_ := ak_ (Kd.R_mono (Kd.R_keep (IsS135.apart (show IsS135 w0 _ g s0_0 t322 t323 from isS135_a HI0) (kr_ HO333) (by decide)) hk (fun _ h => h.2)) (fun _ h => h.1)); have n2_ := ak_ (KeepBut.trans kb_ hk (.inl rfl)); have n3_ := ak_ (hb); have n4_ := ak_ (hi); clear HO_5 HO333 HK HB HI0; have HO_5 := n0_; have HO333 := n1_; have HK := n2_; have HB := n3_; have HI0 := n4_; clear n0_ n1_ n2_ n3_ n4_; (try clear hb); (try clear hb2); (try clear hk); (try clear hi); have HX78 := ak_ (show Kd.R k75 75 w77 w.heap.size (fun _ => True) (.slice (some ⟨go56, 0, none⟩) x5_40.length co71) x5_40 from (kr_ HO_5)); obtain ⟨ce78, hcl78, hM78, hcc78, hfr78⟩ := Kd.R_elem HX78.out z75 (t318 : Int) (od_) (by have h_ : (t318 : Int) < ((x5_40.length : Int) : Int) := od_; first | exact h_ | (have e_ := (Kd.R_reads' HO_5.out).1; omega) | simpa using h_); obtain rfl := k75_openM hM78; have HP78 := Kd.R_seg HX78.out (t318 : Int) (od_) (by have h_ : (t318 : Int) < ((x5_40.length : Int) : Int) := od_; first | exact h_ | (have e_ := (Kd.R_reads' HO_5.out).1; omega) | simpa using h_) (seg := [.int .i64 t334]) (j := 2) hcl78 hcc78 (show 3 ≤ 3 from by decide) (x' := (⟨(rd_T75 x5_40 t318).f0, (rd_T75 x5_40 t318).f1, t334⟩ : S75)) (k75_mkM _ _ _ (⟨(rd_T75 x5_40 t318).f0, (rd_T75 x5_40 t318).f1, t334⟩ : S75) ) (fun _ hk => hk); have hx78_2 := hcc78 2 _ rfl; (try simp only [show (k75).sz = 3 from rfl, Nat.mul_one, Nat.add_zero] at hx78_2); have hf78_2 := hfr78 2; (try simp only [show (k75).sz = 3 from rfl, Nat.mul_one, Nat.add_zero] at hf78_2); (try clear hcl78); (try clear hcc78); (try clear hfr78); (try clear hM78)) | ((with_reducible refine gate_store (t := 2) (p := 105) rfl ?_); refine store_event (t := 2) (p := 105) (v := ?vo_w79) (w1 := (w77.setCell ⟨go56, (t318 : Int).toNat * 3 + 2, none⟩ (.int .i64 t334))) ?hg ?ho ?hn ?hr ?_; (case ho => rfl); (case hg => rfl); (case hn => rfl); (case hr => first | (go_simp; done) | (go_simp; rfl)); intro w79 hw; have hg : w77.grownBy w79 (some go56) := (by rw [hw]; exact HP78.2); have hp_ : Kd.R k75 75 w79 w.heap.size (fun _ => True) (.slice (some ⟨go56, 0, none⟩) x5_40.length co71) y337 := (by rw [hw, Ny337.out]; exact HP78.1); clear HP78; have n0_ := ak_ (hp_); have n1_ := ak_ (IsS135.grown (isS135_a HI0) hg (IsS135.own_ne HI0.out HO_5.out (by decide))); have n2_ := ak_ (Kd.R_over' (v := (.slice (some ⟨go56, 0, none⟩) x5_40.length co71)) (kr_ HO333) (Kd.R_typed HO_5.out) (by decide) hg); have n3_ := ak_ ((by rw [hw]; exact below_set (HB.out) (Nat.le_trans HL.out GB56.out) : Below w0.heap.size w0 w79)); have n4_ := ak_ (KeepBut.trans kb_ (KeepBut.of_grown hg g) (Kd.R_base2 HO_5.out)); clear HO_5 HI0 HO333 HB HK; have HO_5 := n0_; have HI0 := n1_; have HO333 := n2_; have HB := n3_; have HK := n4_; clear n0_ n1_ n2_ n3_ n4_; clear hg hw hp_))
               go_ret
               exact ⟨_, ew_, by (with_reducible repeat (first | apply Kd.R_alloc | apply Kd.R_drewN | apply Kd.R_drew)); exact HO_5.out, isS135_a HI0, hz_ (IsS135.ge HI0.out), kb_⟩
              ·rw [if_neg c69] at H
               have c69b0 : (t321 == 1) = false := beq_eq_false_iff_ne.mpr c69
               have c69b1 : (t321 != 1) = true := bne_iff_ne.mpr c69
               by_cases c80 : t321 = 2
               ·rw [if_pos c80] at H
                have c80b0 : (t321 == 2) = true := beq_iff_eq.mpr c80
                have c80b1 : (t321 != 2) = false := bne_eq_false_iff_eq.mpr c80
                clear c80
                obtain ⟨y338, hy338⟩ : ∃ y_ : List ByteArray, y_ = (([(⟨#[]⟩ : ByteArray), (⟨#[110, 111, 110, 101]⟩ : ByteArray), (⟨#[98, 97, 99, 107, 115, 116, 97, 121]⟩ : ByteArray)] : List ByteArray)) := ⟨_, rfl⟩
                replace H : ((spec_l00Src_text.f s0_0 t322 t323 y338).bind fun bt341 => (some ((x5_40.set (t318 : Int).toNat (⟨bt341.1, (rd_T75 x5_40 t318).f1, (rd_T75 x5_40 t318).f2⟩ : S75)), bt341.2.1, bt341.2.2))) = some (r1, r2, r3) := by first | (rw [hy338]; with_reducible exact H) | (have H2_ := (Option.bind_some _ _).symm.trans H; rw [hy338]; with_reducible exact H2_) | (have H2_ := (Option.bind_some _ _).symm.trans H; with_reducible exact H2_) | with_reducible exact H | (rw [hy338]; exact H) | exact H
                have Ny338 := ak_ hy338
                clear hy338
                replace H := ob_ H
                obtain ⟨⟨t341, t342, t343⟩, A810, H⟩ := H
                replace H : (some ((x5_40.set (t318 : Int).toNat (⟨t341, (rd_T75 x5_40 t318).f1, (rd_T75 x5_40 t318).f2⟩ : S75)), t342, t343)) = some (r1, r2, r3) := H
                have A81 := ak_ A810
                clear A810
                obtain ⟨y344, hy344⟩ : ∃ y_ : List (S75), y_ = (x5_40.set (t318 : Int).toNat (⟨t341, (rd_T75 x5_40 t318).f1, (rd_T75 x5_40 t318).f2⟩ : S75)) := ⟨_, rfl⟩
                replace H : (some (y344, t342, t343)) = some (r1, r2, r3) := by first | (rw [hy344]; with_reducible exact H) | (have H2_ := (Option.bind_some _ _).symm.trans H; rw [hy344]; with_reducible exact H2_) | (have H2_ := (Option.bind_some _ _).symm.trans H; with_reducible exact H2_) | with_reducible exact H | (rw [hy344]; exact H) | exact H
                have Ny344 := ak_ hy344
                clear hy344
                simp only [Option.some.injEq, Prod.mk.injEq] at H
                obtain ⟨rfl, rfl, rfl⟩ := H
                obtain ⟨Ao82, co82, eo82⟩ := Kd.R_slice HO_5.out
                subst eo82
                go_wp2_with (first | ((with_reducible refine gate_callee (f := 104) rfl ?_); refine goesL_ (some 86) rfl rfl Try.func104 (by kernel_rfl) rfl #[.pointer (some ⟨g, 0, none⟩), .int .i64 (x5_40.length : Int)] rfl ln_ ?_; (with_reducible refine (spec_l00Src_pick.calls g s0_0 x1001_40 x1002_40 (x5_40.length : Int) t318 t319 t320 w0 _ ?side1 ?side2 A53.out).mono ?_); (case side1 => exact isS135_a HI0); (case side2 => exact hz_ (IsS135.ge HI0.out)); rintro e w83 ⟨rfl, hi, hb, hk⟩; refine ⟨_, rfl, ?_⟩; have n0_ := ak_ (Kd.R_mono (Kd.R_keep (IsS135.apart (show IsS135 w0 _ g s0_0 x1001_40 x1002_40 from isS135_a HI0) (kr_ HO_5) (by decide)) hk (fun _ h => h.2)) (fun _ h => h.1)); have n1_ := ak_ (KeepBut.trans kb_ hk (.inl rfl)); have n2_ := ak_ (hb); have n3_ := ak_ (hi); clear HO_5 HK HB HI0; have HO_5 := n0_; have HK := n1_; have HB := n2_; have HI0 := n3_; clear n0_ n1_ n2_ n3_; (try clear hb); (try clear hb2); (try clear hk); (try clear hi); have p56 : 0 ≤ (t318 : Int) := od_; have q56 : (t318 : Int) < ((x5_40.length : Int) : Int) := od_; obtain ⟨go56, co56, eo56, gb56, gl56, cl56, HG56⟩ := Kd.R_form HO_5.out (by omega); (first | cases eo56 | (injection eo56 with ea_ en_ ec_; (first | subst ea_ | (injection ea_ with ea_; subst ea_)); subst ec_; clear en_)); have GB56 := ak_ gb56; have GG56 := ak_ HG56; clear gb56 gl56 HG56; obtain ⟨ce56, hcl56, hM56, hcc56, hfr56⟩ := Kd.R_elem HO_5.out z75 (t318 : Int) p56 q56; obtain rfl := k75_openM hM56; have hx56_0 : w83.cell? ⟨go56, (t318 : Int).toNat * 3, none⟩ = some (.string ((rd_T75 x5_40 t318).f0)) := hcc56 0 _ rfl; have hx56_1 : w83.cell? ⟨go56, (t318 : Int).toNat * 3 + 1, none⟩ = some (.int .i64 ((rd_T75 x5_40 t318).f1)) := hcc56 1 _ rfl; have hx56_2 : w83.cell? ⟨go56, (t318 : Int).toNat * 3 + 2, none⟩ = some (.int .i64 ((rd_T75 x5_40 t318).f2)) := hcc56 2 _ rfl; have hf56_0 : w83.frozen? ⟨go56, (t318 : Int).toNat * 3, none⟩ = false := hfr56 0; have hf56_1 : w83.frozen? ⟨go56, (t318 : Int).toNat * 3 + 1, none⟩ = false := hfr56 1; have hf56_2 : w83.frozen? ⟨go56, (t318 : Int).toNat * 3 + 2, none⟩ = false := hfr56 2; (try clear hcl56); (try clear hcc56); (try clear hfr56); (try clear hM56); replace p56 := eq_true p56; replace q56 := eq_true q56) | ((with_reducible refine gate_callee (f := 104) rfl ?_); refine goesL_ (some 89) rfl rfl Try.func104 (by kernel_rfl) rfl #[.pointer (some ⟨g, 0, none⟩), .int .i64 20] rfl ln_ ?_; (with_reducible refine (spec_l00Src_pick.calls g s0_0 t319 t320 20 t321 t322 t323 w0 _ ?side1 ?side2 A57.out).mono ?_); (case side1 => exact isS135_a HI0); (case side2 => exact hz_ (IsS135.ge HI0.out)); rintro e w84 ⟨rfl, hi, hb, hk⟩; refine ⟨_, rfl, ?_⟩; have n0_ := ak_ (Kd.R_mono (Kd.R_keep (IsS135.apart (show IsS135 w0 _ g s0_0 t319 t320 from isS135_a HI0) (kr_ HO_5) (by decide)) hk (fun _ h => h.2)) (fun _ h => h.1)); have n1_ := ak_ (KeepBut.trans kb_ hk (.inl rfl)); have n2_ := ak_ (hb); have n3_ := ak_ (hi); clear HO_5 HK HB HI0; have HO_5 := n0_; have HK := n1_; have HB := n2_; have HI0 := n3_; clear n0_ n1_ n2_ n3_; clear hb hk hi) | ((with_reducible refine gate_dst (N := 110) rfl ?_); (try (refine gate_guard (by rfl) ?_; dsimp only)); refine Kd.R_lit Kd.string _ 9 ?hg (N := 110) ?hd (xs := ([(⟨#[]⟩ : ByteArray), (⟨#[110, 111, 110, 101]⟩ : ByteArray), (⟨#[98, 97, 99, 107, 115, 116, 97, 121]⟩ : ByteArray)] : List ByteArray)) (inner := [.string (⟨#[]⟩ : ByteArray), .string (⟨#[110, 111, 110, 101]⟩ : ByteArray), .string (⟨#[98, 97, 99, 107, 115, 116, 97, 121]⟩ : ByteArray)]) (ok := fun _ => True) (okp := fun _ => True) ?hr ?hp (fun _ hk => hk) trivial (Below.refl _ _) (Nat.le_refl _) (by simp) ?_; (case hd => rfl); (case hg => rfl); (case hr => first | (go_simp; done) | (go_simp; rfl)); (case hp => exact (Reps.one (show Kd.M Kd.string _ _ _ (⟨#[]⟩ : ByteArray) [.string (⟨#[]⟩ : ByteArray)] from rfl) (Reps.one (show Kd.M Kd.string _ _ _ (⟨#[110, 111, 110, 101]⟩ : ByteArray) [.string (⟨#[110, 111, 110, 101]⟩ : ByteArray)] from rfl) (Reps.one (show Kd.M Kd.string _ _ _ (⟨#[98, 97, 99, 107, 115, 116, 97, 121]⟩ : ByteArray) [.string (⟨#[98, 97, 99, 107, 115, 116, 97, 121]⟩ : ByteArray)] from rfl) (Reps.none _ _))))); intro v339 w85 ho86 hb hg_ hnew_; clear hg_ hnew_; (first | rw [← Ny338.out] at ho86 | (simp only [Int.reduceToNat] at ho86; rw [← Ny338.out] at ho86)); have n0_ := ak_ (Kd.R_below (kr_ HO_5) hb); have n1_ := ak_ (Kd.R_lower ho86 (keep_size (w := w) (g := g) (row := none) kb_)); have n2_ := ak_ (IsS135.below (isS135_a HI0) hb); have n3_ := ak_ (KeepBut.trans kb_ (KeepBut.of_below hb g none) (.inl rfl)); have n4_ := ak_ (below_step (hz_ (IsS135.ge HI0.out)) hb); clear HO_5 HI0 HK HB; have HO_5 := n0_; have HO340 := n1_; have HI0 := n2_; have HK := n3_; have HB := n4_; clear n0_ n1_ n2_ n3_ n4_; clear hb ho86; obtain ⟨Ao87, co87, eo87⟩ := Kd.R_slice HO340.out; subst eo87) | ((with_reducible refine gate_callee (f := 105) rfl ?_); refine goesL_ (some 111) rfl rfl Try.func105 (by kernel_rfl) rfl #[.pointer (some ⟨g, 0, none⟩), .slice Ao87 y338.length co87] rfl ln_ ?_; (with_reducible refine (spec_l00Src_text.calls g s0_0 t322 t323 _ _ y338 t341 t342 t343 w0 _ ?side1 ?side2 ?side3 ?side4 ?side5 A81.out).mono ?_); (case side1 => exact isS135_a HI0); (case side2 => exact hz_ (IsS135.ge HI0.out)); (case side3 => repeat (first | exact (Kd.R_reads' HO340.out).2.2 | (with_reducible refine Kd.C_alloc ?_ _) | (with_reducible refine Kd.C_drewN ?_ _) | (with_reducible refine Kd.C_drew ?_))); (case side4 => exact (Kd.R_reads' HO340.out).2.1); (case side5 => exact far_slice (IsS135.own_ne HI0.out HO340.out (by decide))); rintro e w88 ⟨rfl, hi, hb, hk⟩; refine ⟨_, rfl, ?_⟩; have n0_ := ak_ (Kd.R_mono (Kd.R_keep (IsS135.apart (show IsS135 w0 _ g s0_0 t322 t323 from isS135_a HI0) (kr_ HO_5) (by decide)) hk (fun _ h => h.2)) (fun _ h => h.1)); have n1_ := ak_ (Kd.R_mono (Kd.R_keep (IsS135.apart (show IsS135 w0 _ g s0_0 t322 t323 from isS135_a HI0) (kr_ HO340) (by decide)) hk (fun _ h => h.2)) (fun _ h => h.1)); have n2_ := ak_ (KeepBut.trans kb_ hk (.inl rfl)); have n3_ := ak_ (hb); have n4_ := ak_ (hi); clear HO_5 HO340 HK HB HI0; have HO_5 := n0_; have HO340 := n1_; have HK := n2_; have HB := n3_; have HI0 := n4_; clear n0_ n1_ n2_ n3_ n4_; (try clear hb); (try clear hb2); (try clear hk); (try clear hi); have HX89 := ak_ (show Kd.R k75 75 w88 w.heap.size (fun _ => True) (.slice (some ⟨go56, 0, none⟩) x5_40.length co82) x5_40 from (kr_ HO_5)); obtain ⟨ce89, hcl89, hM89, hcc89, hfr89⟩ := Kd.R_elem HX89.out z75 (t318 : Int) (od_) (by have h_ : (t318 : Int) < ((x5_40.length : Int) : Int) := od_; first | exact h_ | (have e_ := (Kd.R_reads' HO_5.out).1; omega) | simpa using h_); obtain rfl := k75_openM hM89; have HP89 := Kd.R_seg HX89.out (t318 : Int) (od_) (by have h_ : (t318 : Int) < ((x5_40.length : Int) : Int) := od_; first | exact h_ | (have e_ := (Kd.R_reads' HO_5.out).1; omega) | simpa using h_) (seg := [.string t341]) (j := 0) hcl89 hcc89 (show 1 ≤ 3 from by decide) (x' := (⟨t341, (rd_T75 x5_40 t318).f1, (rd_T75 x5_40 t318).f2⟩ : S75)) (k75_mkM _ _ _ (⟨t341, (rd_T75 x5_40 t318).f1, (rd_T75 x5_40 t318).f2⟩ : S75) ) (fun _ hk => hk); have hx89_0 := hcc89 0 _ rfl; (try simp only [show (k75).sz = 3 from rfl, Nat.mul_one, Nat.add_zero] at hx89_0); have hf89_0 := hfr89 0; (try simp only [show (k75).sz = 3 from rfl, Nat.mul_one, Nat.add_zero] at hf89_0); (try clear hcl89); (try clear hcc89); (try clear hfr89); (try clear hM89)) | ((with_reducible refine gate_store (t := 9) (p := 113) rfl ?_); refine store_event (t := 9) (p := 113) (v := ?vo_w90) (w1 := (w88.setCell ⟨go56, (t318 : Int).toNat * 3, none⟩ (.string t341))) ?hg ?ho ?hn ?hr ?_; (case ho => rfl); (case hg => rfl); (case hn => rfl); (case hr => first | (go_simp; done) | (go_simp; rfl)); intro w90 hw; have hg : w88.grownBy w90 (some go56) := (by rw [hw]; exact HP89.2); have hp_ : Kd.R k75 75 w90 w.heap.size (fun _ => True) (.slice (some ⟨go56, 0, none⟩) x5_40.length co82) y344 := (by rw [hw, Ny344.out]; exact HP89.1); clear HP89; have n0_ := ak_ (hp_); have n1_ := ak_ (IsS135.grown (isS135_a HI0) hg (IsS135.own_ne HI0.out HO_5.out (by decide))); have n2_ := ak_ (Kd.R_over' (v := (.slice (some ⟨go56, 0, none⟩) x5_40.length co82)) (kr_ HO340) (Kd.R_typed HO_5.out) (by decide) hg); have n3_ := ak_ ((by rw [hw]; exact below_set (HB.out) (Nat.le_trans HL.out GB56.out) : Below w0.heap.size w0 w90)); have n4_ := ak_ (KeepBut.trans kb_ (KeepBut.of_grown hg g) (Kd.R_base2 HO_5.out)); clear HO_5 HI0 HO340 HB HK; have HO_5 := n0_; have HI0 := n1_; have HO340 := n2_; have HB := n3_; have HK := n4_; clear n0_ n1_ n2_ n3_ n4_; clear hg hw hp_))
                go_ret
                exact ⟨_, ew_, by (with_reducible repeat (first | apply Kd.R_alloc | apply Kd.R_drewN | apply Kd.R_drew)); exact HO_5.out, isS135_a HI0, hz_ (IsS135.ge HI0.out), kb_⟩
               ·rw [if_neg c80] at H
                have c80b0 : (t321 == 2) = false := beq_eq_false_iff_ne.mpr c80
                have c80b1 : (t321 != 2) = true := bne_iff_ne.mpr c80
                simp only [Option.some.injEq, Prod.mk.injEq] at H
                obtain ⟨rfl, rfl, rfl⟩ := H
                obtain ⟨Ao91, co91, eo91⟩ := Kd.R_slice HO_5.out
                subst eo91
                go_wp2_with (first | ((with_reducible refine gate_callee (f := 104) rfl ?_); refine goesL_ (some 86) rfl rfl Try.func104 (by kernel_rfl) rfl #[.pointer (some ⟨g, 0, none⟩), .int .i64 (x5_40.length : Int)] rfl ln_ ?_; (with_reducible refine (spec_l00Src_pick.calls g s0_0 x1001_40 x1002_40 (x5_40.length : Int) t318 t319 t320 w0 _ ?side1 ?side2 A53.out).mono ?_); (case side1 => exact isS135_a HI0); (case side2 => exact hz_ (IsS135.ge HI0.out)); rintro e w92 ⟨rfl, hi, hb, hk⟩; refine ⟨_, rfl, ?_⟩; have n0_ := ak_ (Kd.R_mono (Kd.R_keep (IsS135.apart (show IsS135 w0 _ g s0_0 x1001_40 x1002_40 from isS135_a HI0) (kr_ HO_5) (by decide)) hk (fun _ h => h.2)) (fun _ h => h.1)); have n1_ := ak_ (KeepBut.trans kb_ hk (.inl rfl)); have n2_ := ak_ (hb); have n3_ := ak_ (hi); clear HO_5 HK HB HI0; have HO_5 := n0_; have HK := n1_; have HB := n2_; have HI0 := n3_; clear n0_ n1_ n2_ n3_; (try clear hb); (try clear hb2); (try clear hk); (try clear hi); have p56 : 0 ≤ (t318 : Int) := od_; have q56 : (t318 : Int) < ((x5_40.length : Int) : Int) := od_; obtain ⟨go56, co56, eo56, gb56, gl56, cl56, HG56⟩ := Kd.R_form HO_5.out (by omega); (first | cases eo56 | (injection eo56 with ea_ en_ ec_; (first | subst ea_ | (injection ea_ with ea_; subst ea_)); subst ec_; clear en_)); have GB56 := ak_ gb56; have GG56 := ak_ HG56; clear gb56 gl56 HG56; obtain ⟨ce56, hcl56, hM56, hcc56, hfr56⟩ := Kd.R_elem HO_5.out z75 (t318 : Int) p56 q56; obtain rfl := k75_openM hM56; have hx56_0 : w92.cell? ⟨go56, (t318 : Int).toNat * 3, none⟩ = some (.string ((rd_T75 x5_40 t318).f0)) := hcc56 0 _ rfl; have hx56_1 : w92.cell? ⟨go56, (t318 : Int).toNat * 3 + 1, none⟩ = some (.int .i64 ((rd_T75 x5_40 t318).f1)) := hcc56 1 _ rfl; have hx56_2 : w92.cell? ⟨go56, (t318 : Int).toNat * 3 + 2, none⟩ = some (.int .i64 ((rd_T75 x5_40 t318).f2)) := hcc56 2 _ rfl; have hf56_0 : w92.frozen? ⟨go56, (t318 : Int).toNat * 3, none⟩ = false := hfr56 0; have hf56_1 : w92.frozen? ⟨go56, (t318 : Int).toNat * 3 + 1, none⟩ = false := hfr56 1; have hf56_2 : w92.frozen? ⟨go56, (t318 : Int).toNat * 3 + 2, none⟩ = false := hfr56 2; (try clear hcl56); (try clear hcc56); (try clear hfr56); (try clear hM56); replace p56 := eq_true p56; replace q56 := eq_true q56) | ((with_reducible refine gate_callee (f := 104) rfl ?_); refine goesL_ (some 89) rfl rfl Try.func104 (by kernel_rfl) rfl #[.pointer (some ⟨g, 0, none⟩), .int .i64 20] rfl ln_ ?_; (with_reducible refine (spec_l00Src_pick.calls g s0_0 t319 t320 20 t321 t322 t323 w0 _ ?side1 ?side2 A57.out).mono ?_); (case side1 => exact isS135_a HI0); (case side2 => exact hz_ (IsS135.ge HI0.out)); rintro e w93 ⟨rfl, hi, hb, hk⟩; refine ⟨_, rfl, ?_⟩; have n0_ := ak_ (Kd.R_mono (Kd.R_keep (IsS135.apart (show IsS135 w0 _ g s0_0 t319 t320 from isS135_a HI0) (kr_ HO_5) (by decide)) hk (fun _ h => h.2)) (fun _ h => h.1)); have n1_ := ak_ (KeepBut.trans kb_ hk (.inl rfl)); have n2_ := ak_ (hb); have n3_ := ak_ (hi); clear HO_5 HK HB HI0; have HO_5 := n0_; have HK := n1_; have HB := n2_; have HI0 := n3_; clear n0_ n1_ n2_ n3_; clear hb hk hi))
                go_ret
                exact ⟨_, ew_, by (with_reducible repeat (first | apply Kd.R_alloc | apply Kd.R_drewN | apply Kd.R_drew)); exact HO_5.out, isS135_a HI0, hz_ (IsS135.ge HI0.out), kb_⟩
            ·rw [if_neg c55] at H
             exact absurd H (by simp)
           ·rw [if_neg c54] at H
            exact absurd H (by simp)
          ·rw [if_neg c52] at H
           have c52b0 : decide (0 < (x5_40.length : Int)) = false := decide_eq_false c52
           have c52b1 : decide (0 < x5_40.length) = false := decide_eq_false (by omega)
           clear c52
           simp only [Option.some.injEq, Prod.mk.injEq] at H
           obtain ⟨rfl, rfl, rfl⟩ := H
           obtain ⟨Ao94, co94, eo94⟩ := Kd.R_slice HO_5.out
           subst eo94
           go_wp2
           go_ret
           exact ⟨_, ew_, by (with_reducible repeat (first | apply Kd.R_alloc | apply Kd.R_drewN | apply Kd.R_drew)); exact HO_5.out, isS135_a HI0, hz_ (IsS135.ge HI0.out), kb_⟩

/-! ### spec_l21Both: function 73 -/
def spec_l21Both.f (k : Nat) (s0_0 : List Int) (s0_1 : Int) (s0_2 : Int) : Option ((List (S72)) × (List (S75)) × Int × Int) := (spec_l21Bent.f k s0_0 s0_1 s0_2).bind fun bt345 => ((spec_l21DrawChecks.f k s0_0 bt345.2.1 bt345.2.2 bt345.1).bind fun bt350 => (some (bt345.1, bt350.1, bt350.2.1, bt350.2.2)))
set_option maxHeartbeats 8000000 in
set_option maxRecDepth 100000 in
theorem spec_l21Both.calls (k : Nat) (g : Nat) (s0_0 : List Int) (s0_1 : Int) (s0_2 : Int) (r1 : List (S72)) (r2 : List (S75)) (r3 : Int) (r4 : Int) (w0 w : World) (hI : IsS135 w0 w g s0_0 s0_1 s0_2) (hB : Below w0.heap.size w0 w) (h : spec_l21Both.f k s0_0 s0_1 s0_2 = some (r1, r2, r3, r4)) :
  Calls Try.prog 73 #[.pointer (some ⟨g, 0, none⟩)] w fun e w' => ∃ v0_ v1_ : Value, e = .returned (.tuple #[v0_, v1_]) ∧ Kd.R k72 72 w' w.heap.size (fun _ => True) v0_ r1 ∧ Kd.R k75 75 w' w.heap.size (fun _ => True) v1_ r2 ∧ IsS135 w0 w' g s0_0 r3 r4 ∧ Below w0.heap.size w0 w' ∧ KeepBut w w' g none := by
 have HI0 := ak_ hI
 have HK := ak_ (KeepBut.refl w g none)
 have HL := ak_ hB.size
 clear hI
 have HW0 := ak_ hB.size
 have HB := ak_ hB
 clear hB
 have H : ((spec_l21Bent.f k s0_0 s0_1 s0_2).bind fun bt345 => ((spec_l21DrawChecks.f k s0_0 bt345.2.1 bt345.2.2 bt345.1).bind fun bt350 => (some (bt345.1, bt350.1, bt350.2.1, bt350.2.2)))) = some (r1, r2, r3, r4) := h
 clear h
 replace H := ob_ H
 obtain ⟨⟨t345, t348, t349⟩, A20, H⟩ := H
 replace H : ((spec_l21DrawChecks.f k s0_0 t348 t349 t345).bind fun bt350 => (some (t345, bt350.1, bt350.2.1, bt350.2.2))) = some (r1, r2, r3, r4) := H
 have A2 := ak_ A20
 clear A20
 replace H := ob_ H
 obtain ⟨⟨t350, t353, t354⟩, A30, H⟩ := H
 replace H : (some (t345, t350, t353, t354)) = some (r1, r2, r3, r4) := H
 have A3 := ak_ A30
 clear A30
 simp only [Option.some.injEq, Prod.mk.injEq] at H
 obtain ⟨rfl, rfl, rfl, rfl⟩ := H
 go_enter Try.func73, Try.ntmps73
 go_wp2_with (first | ((with_reducible refine gate_callee (f := 101) rfl ?_); refine goesL_ (some 6) rfl rfl Try.func101 (by kernel_rfl) rfl #[.pointer (some ⟨g, 0, none⟩)] rfl ln_ ?_; (with_reducible refine (spec_l21Bent.calls k g s0_0 s0_1 s0_2 t345 t348 t349 w0 _ ?side1 ?side2 A2.out).mono ?_); (case side1 => exact isS135_a HI0); (case side2 => exact hz_ (IsS135.ge HI0.out)); rintro e w4 ⟨v346, rfl, ho0, hi, hb, hk⟩; refine ⟨_, rfl, ?_⟩; have n0_ := ak_ (Kd.R_lower ho0 (keep_size (w := w) (g := g) (row := none) kb_)); have n1_ := ak_ (KeepBut.trans kb_ hk (.inl rfl)); have n2_ := ak_ (hb); have n3_ := ak_ (hi); clear HK HB HI0; have HO347 := n0_; have HK := n1_; have HB := n2_; have HI0 := n3_; clear n0_ n1_ n2_ n3_; (try clear hb); (try clear hb2); (try clear hk); (try clear hi); (try clear ho0); obtain ⟨Ao5, co5, eo5⟩ := Kd.R_slice HO347.out; subst eo5) | ((with_reducible refine gate_callee (f := 102) rfl ?_); refine goesL_ (some 10) rfl rfl Try.func102 (by kernel_rfl) rfl #[.pointer (some ⟨g, 0, none⟩), .slice Ao5 t345.length co5] rfl ln_ ?_; (with_reducible refine (spec_l21DrawChecks.calls k g s0_0 t348 t349 _ _ t345 t350 t353 t354 w0 _ ?side1 ?side2 ?side3 ?side4 A3.out).mono ?_); (case side1 => exact isS135_a HI0); (case side2 => exact hz_ (IsS135.ge HI0.out)); (case side3 => exact Kd.C_foot_own (IsS135.apart (show IsS135 w0 _ g s0_0 t348 t349 from isS135_a HI0) (kr_ HO347) (by decide)) (fun _ h_ => h_.2)); (case side4 => exact (Kd.R_reads' HO347.out).2.1); rintro e w6 ⟨v351, rfl, ho0, hi, hb, hk⟩; refine ⟨_, rfl, ?_⟩; have n0_ := ak_ (Kd.R_mono (Kd.R_keep (IsS135.apart (show IsS135 w0 _ g s0_0 t348 t349 from isS135_a HI0) (kr_ HO347) (by decide)) hk (fun _ h => h.2)) (fun _ h => h.1)); have n1_ := ak_ (Kd.R_lower ho0 (keep_size (w := w) (g := g) (row := none) kb_)); have n2_ := ak_ (KeepBut.trans kb_ hk (.inl rfl)); have n3_ := ak_ (hb); have n4_ := ak_ (hi); clear HO347 HK HB HI0; have HO347 := n0_; have HO352 := n1_; have HK := n2_; have HB := n3_; have HI0 := n4_; clear n0_ n1_ n2_ n3_ n4_; clear hb hk hi ho0))
 go_ret2
 exact ⟨_, _, ew_, by (with_reducible repeat (first | apply Kd.R_alloc | apply Kd.R_drewN | apply Kd.R_drew)); exact HO347.out, by (with_reducible repeat (first | apply Kd.R_alloc | apply Kd.R_drewN | apply Kd.R_drew)); exact HO352.out, isS135_a HI0, hz_ (IsS135.ge HI0.out), kb_⟩

/-! ### spec_l21Name: function 74 -/
def spec_l21Name.j0 : Nat → List (S72) → Bool → List Int → Int → Int → Option (ByteArray × Int × Int)
 | 0, _, _, _, _, _ => none
 | k + 1, x1, x12, x1000, x1001, x1002 => if x12 = true then ((spec_l00Src_pick.f x1000 x1001 x1002 (x1.length : Int)).bind fun bt358 => (if 0 ≤ bt358.1 then (if bt358.1 < (x1.length : Int) then (some ((rd_T72 x1 bt358.1).f0, bt358.2.1, bt358.2.2)) else (none)) else (none))) else ((spec_l00Src_text.f x1000 x1001 x1002 (([(⟨#[]⟩ : ByteArray), (⟨#[110, 111, 110, 101]⟩ : ByteArray), (⟨#[98, 97, 99, 107, 115, 116, 97, 121]⟩ : ByteArray)] : List ByteArray))).bind fun bt365 => (some (bt365.1, bt365.2.1, bt365.2.2)))
def spec_l21Name.f (k : Nat) (s0_0 : List Int) (s0_1 : Int) (s0_2 : Int) (l1 : List (S72)) : Option (ByteArray × Int × Int) := if (l1.length : Int) > 0 then ((spec_l00Src_one.f s0_0 s0_1 s0_2 8).bind fun bt355 => (spec_l21Name.j0 k l1 (!bt355.1) s0_0 bt355.2.1 bt355.2.2)) else (spec_l21Name.j0 k l1 false s0_0 s0_1 s0_2)
set_option maxHeartbeats 8000000 in
set_option maxRecDepth 100000 in
theorem spec_l21Name.calls (k : Nat) (g : Nat) (s0_0 : List Int) (s0_1 : Int) (s0_2 : Int) (A1 : Option Addr) (c1 : Nat) (l1 : List (S72)) (r1 : ByteArray) (r2 : Int) (r3 : Int) (w0 w : World) (hI : IsS135 w0 w g s0_0 s0_1 s0_2) (hB : Below w0.heap.size w0 w) (hr1 : ∀ W_, KeepBut w W_ g none → Kd.C k72 W_ A1 l1.length l1) (hc1 : l1.length ≤ c1) (h : spec_l21Name.f k s0_0 s0_1 s0_2 l1 = some (r1, r2, r3)) :
  Calls Try.prog 74 #[.pointer (some ⟨g, 0, none⟩), .slice A1 l1.length c1] w fun e w' => e = .returned (.string r1) ∧ IsS135 w0 w' g s0_0 r2 r3 ∧ Below w0.heap.size w0 w' ∧ KeepBut w w' g none := by
 have HR1 := ak_ hr1
 have HC1 := ak_ hc1
 clear hr1 hc1
 have HI0 := ak_ hI
 have HK := ak_ (KeepBut.refl w g none)
 have HL := ak_ hB.size
 clear hI
 have HW0 := ak_ hB.size
 have HB := ak_ hB
 clear hB
 have H : (if (l1.length : Int) > 0 then ((spec_l00Src_one.f s0_0 s0_1 s0_2 8).bind fun bt355 => (spec_l21Name.j0 k l1 (!bt355.1) s0_0 bt355.2.1 bt355.2.2)) else (spec_l21Name.j0 k l1 false s0_0 s0_1 s0_2)) = some (r1, r2, r3) := h
 clear h
 have HC3 := ak_ H
 clear H
 go_enter Try.func74, Try.ntmps74
 go_upto_region 1 with (fail)
 go_cut [12] (fun v12 wc => ∃ (kq : Nat) (x12_2 : Bool) (x1001_2 : Int) (x1002_2 : Int), v12 = .bool x12_2 ∧ Aside0 (spec_l21Name.j0 kq l1 x12_2 s0_0 x1001_2 x1002_2 = some (r1, r2, r3)) ∧ Aside0 (kq ≤ k) ∧ Aside0 (IsS135 w0 wc g s0_0 x1001_2 x1002_2) ∧ Aside0 (KeepBut w wc g none) ∧ Aside0 (Below w0.heap.size w0 wc))
 case first =>
  have H := HC3.out
  clear HC3
  by_cases c4 : (l1.length : Int) > 0
  ·rw [if_pos c4] at H
   have c4b0 : decide (0 < (l1.length : Int)) = true := dt_ c4
   have c4b1 : decide (0 < l1.length) = true := dt_ (by omega)
   clear c4
   (first | rw [c4b0] | (simp only [i64_w, i32_w]; rw [c4b0]) | skip)
   replace H := ob_ H
   obtain ⟨⟨t355, t356, t357⟩, A50, H⟩ := H
   replace H : (spec_l21Name.j0 k l1 (!t355) s0_0 t356 t357) = some (r1, r2, r3) := H
   have A5 := ak_ A50
   clear A50
   have H' := ak_ H
   clear H
   go_wp2_with (first | (go_at_call 103; (with_reducible refine (spec_l00Src_one.calls g s0_0 s0_1 s0_2 8 t355 t356 t357 w0 _ ?side1 ?side2 A5.out).mono ?_); (case side1 => exact isS135_a HI0); (case side2 => exact hz_ (IsS135.ge HI0.out)); rintro e w6 ⟨rfl, hi, hb, hk⟩; have n0_ := ak_ (KeepBut.trans kb_ hk (.inl rfl)); have n1_ := ak_ (hb); have n2_ := ak_ (hi); clear HK HB HI0; have HK := n0_; have HB := n1_; have HI0 := n2_; clear n0_ n1_ n2_; clear hb hk hi))
   go_meet
   case rel => exact ⟨_, (!t355), (t356), (t357), fr_, H', ⟨by first | omega | exact Nat.le_refl _⟩, ⟨by repeat (first | (with_reducible first | exact HI0.out | apply IsS135.alloc | apply IsS135.drewN | apply IsS135.drew | apply IsS135.set_1 | apply IsS135.set_2) | exact HI0.out)⟩, ⟨kb_⟩, ⟨hz_ (IsS135.ge HI0.out)⟩⟩
  ·rw [if_neg c4] at H
   have c4b0 : decide (0 < (l1.length : Int)) = false := decide_eq_false c4
   have c4b1 : decide (0 < l1.length) = false := decide_eq_false (by omega)
   clear c4
   (first | rw [c4b0] | (simp only [i64_w, i32_w]; rw [c4b0]) | skip)
   have H' := ak_ H
   clear H
   go_wp2
   go_meet
   case rel => exact ⟨_, (false), (s0_1), (s0_2), fr_, H', ⟨by first | omega | exact Nat.le_refl _⟩, ⟨by repeat (first | (with_reducible first | exact HI0.out | apply IsS135.alloc | apply IsS135.drewN | apply IsS135.drew | apply IsS135.set_1 | apply IsS135.set_2) | exact HI0.out)⟩, ⟨kb_⟩, ⟨hz_ (IsS135.ge HI0.out)⟩⟩
 case rest =>
  clear HC3
  try clear c1
  try clear p2
  try clear c4
  try clear c4b0
  try clear c4b1
  obtain ⟨kq, x12_2, x1001_2, x1002_2, rfl, HA, HJ2, HI0, HK, HB⟩ := hcut
  cases kq with
  | zero => exact absurd HA.out (by simp [spec_l21Name.j0])
  | succ kj2 =>
   have H := HA.out
   clear HA
   simp only [spec_l21Name.j0] at H
   by_cases c7 : x12_2 = true
   ·subst c7
    have H1 : ((spec_l00Src_pick.f s0_0 x1001_2 x1002_2 (l1.length : Int)).bind fun bt358 => (if 0 ≤ bt358.1 then (if bt358.1 < (l1.length : Int) then (some ((rd_T72 l1 bt358.1).f0, bt358.2.1, bt358.2.2)) else (none)) else (none))) = some (r1, r2, r3) := by rw [if_pos rfl] at H; exact H
    clear H
    have H := H1
    clear H1
    replace H := ob_ H
    obtain ⟨⟨t358, t359, t360⟩, A80, H⟩ := H
    replace H : (if 0 ≤ t358 then (if t358 < (l1.length : Int) then (some ((rd_T72 l1 t358).f0, t359, t360)) else (none)) else (none)) = some (r1, r2, r3) := H
    have A8 := ak_ A80
    clear A80
    by_cases c9 : 0 ≤ t358
    ·rw [if_pos c9] at H
     have c9b0 : decide (0 ≤ t358) = true := dt_ c9
     clear c9
     by_cases c10 : t358 < (l1.length : Int)
     ·rw [if_pos c10] at H
      have c10b0 : decide (t358 < (l1.length : Int)) = true := dt_ c10
      clear c10
      simp only [Option.some.injEq, Prod.mk.injEq] at H
      obtain ⟨rfl, rfl, rfl⟩ := H
      go_wp2_with (first | ((with_reducible refine gate_callee (f := 104) rfl ?_); refine goesL_ (some 17) rfl rfl Try.func104 (by kernel_rfl) rfl #[.pointer (some ⟨g, 0, none⟩), .int .i64 (l1.length : Int)] rfl ln_ ?_; (with_reducible refine (spec_l00Src_pick.calls g s0_0 x1001_2 x1002_2 (l1.length : Int) t358 t359 t360 w0 _ ?side1 ?side2 A8.out).mono ?_); (case side1 => exact isS135_a HI0); (case side2 => exact hz_ (IsS135.ge HI0.out)); rintro e w11 ⟨rfl, hi, hb, hk⟩; refine ⟨_, rfl, ?_⟩; have n0_ := ak_ (KeepBut.trans kb_ hk (.inl rfl)); have n1_ := ak_ (hb); have n2_ := ak_ (hi); clear HK HB HI0; have HK := n0_; have HB := n1_; have HI0 := n2_; clear n0_ n1_ n2_; (try clear hb); (try clear hb2); (try clear hk); (try clear hi); have p361 : 0 ≤ (t358 : Int) := od_; have q361 : t358 < (l1.length : Int) := od_; obtain ⟨ad361, e361, hx361_0, hx361_1, hx361_2, hx361_3⟩ := at_T72 (Kd.C_foot_now HR1.out HK.out) t358 p361 q361; cases e361; replace p361 := eq_true p361; replace q361 := eq_true q361))
      go_ret
      exact ⟨ew_, isS135_a HI0, hz_ (IsS135.ge HI0.out), kb_⟩
     ·rw [if_neg c10] at H
      exact absurd H (by simp)
    ·rw [if_neg c9] at H
     exact absurd H (by simp)
   ·replace c7 := Bool.eq_false_iff.mpr c7
    subst c7
    have H1 : ((spec_l00Src_text.f s0_0 x1001_2 x1002_2 (([(⟨#[]⟩ : ByteArray), (⟨#[110, 111, 110, 101]⟩ : ByteArray), (⟨#[98, 97, 99, 107, 115, 116, 97, 121]⟩ : ByteArray)] : List ByteArray))).bind fun bt365 => (some (bt365.1, bt365.2.1, bt365.2.2))) = some (r1, r2, r3) := by rw [if_neg (show ¬ (false = true) by decide)] at H; exact H
    clear H
    have H := H1
    clear H1
    obtain ⟨y362, hy362⟩ : ∃ y_ : List ByteArray, y_ = (([(⟨#[]⟩ : ByteArray), (⟨#[110, 111, 110, 101]⟩ : ByteArray), (⟨#[98, 97, 99, 107, 115, 116, 97, 121]⟩ : ByteArray)] : List ByteArray)) := ⟨_, rfl⟩
    replace H : ((spec_l00Src_text.f s0_0 x1001_2 x1002_2 y362).bind fun bt365 => (some (bt365.1, bt365.2.1, bt365.2.2))) = some (r1, r2, r3) := by first | (rw [hy362]; with_reducible exact H) | (have H2_ := (Option.bind_some _ _).symm.trans H; rw [hy362]; with_reducible exact H2_) | (have H2_ := (Option.bind_some _ _).symm.trans H; with_reducible exact H2_) | with_reducible exact H | (rw [hy362]; exact H) | exact H
    have Ny362 := ak_ hy362
    clear hy362
    replace H := ob_ H
    obtain ⟨⟨t365, t366, t367⟩, A120, H⟩ := H
    replace H : (some (t365, t366, t367)) = some (r1, r2, r3) := H
    have A12 := ak_ A120
    clear A120
    simp only [Option.some.injEq, Prod.mk.injEq] at H
    obtain ⟨rfl, rfl, rfl⟩ := H
    go_wp2_with (first | ((with_reducible refine gate_dst (N := 22) rfl ?_); refine Kd.R_lit Kd.string _ 9 ?hg (N := 22) ?hd (xs := ([(⟨#[]⟩ : ByteArray), (⟨#[110, 111, 110, 101]⟩ : ByteArray), (⟨#[98, 97, 99, 107, 115, 116, 97, 121]⟩ : ByteArray)] : List ByteArray)) (inner := [.string (⟨#[]⟩ : ByteArray), .string (⟨#[110, 111, 110, 101]⟩ : ByteArray), .string (⟨#[98, 97, 99, 107, 115, 116, 97, 121]⟩ : ByteArray)]) (ok := fun _ => True) (okp := fun _ => True) ?hr ?hp (fun _ hk => hk) trivial (Below.refl _ _) (Nat.le_refl _) (by simp) ?_; (case hd => rfl); (case hg => rfl); (case hr => first | (go_simp; done) | (go_simp; rfl)); (case hp => exact (Reps.one (show Kd.M Kd.string _ _ _ (⟨#[]⟩ : ByteArray) [.string (⟨#[]⟩ : ByteArray)] from rfl) (Reps.one (show Kd.M Kd.string _ _ _ (⟨#[110, 111, 110, 101]⟩ : ByteArray) [.string (⟨#[110, 111, 110, 101]⟩ : ByteArray)] from rfl) (Reps.one (show Kd.M Kd.string _ _ _ (⟨#[98, 97, 99, 107, 115, 116, 97, 121]⟩ : ByteArray) [.string (⟨#[98, 97, 99, 107, 115, 116, 97, 121]⟩ : ByteArray)] from rfl) (Reps.none _ _))))); intro v363 w13 ho14 hb hg_ hnew_; clear hg_ hnew_; (first | rw [← Ny362.out] at ho14 | (simp only [Int.reduceToNat] at ho14; rw [← Ny362.out] at ho14)); have n0_ := ak_ (Kd.R_lower ho14 (keep_size (w := w) (g := g) (row := none) kb_)); have n1_ := ak_ (IsS135.below (isS135_a HI0) hb); have n2_ := ak_ (KeepBut.trans kb_ (KeepBut.of_below hb g none) (.inl rfl)); have n3_ := ak_ (below_step (hz_ (IsS135.ge HI0.out)) hb); clear HI0 HK HB; have HO364 := n0_; have HI0 := n1_; have HK := n2_; have HB := n3_; clear n0_ n1_ n2_ n3_; clear hb ho14; obtain ⟨Ao15, co15, eo15⟩ := Kd.R_slice HO364.out; subst eo15) | ((with_reducible refine gate_callee (f := 105) rfl ?_); refine goesL_ (some 23) rfl rfl Try.func105 (by kernel_rfl) rfl #[.pointer (some ⟨g, 0, none⟩), .slice Ao15 y362.length co15] rfl ln_ ?_; (with_reducible refine (spec_l00Src_text.calls g s0_0 x1001_2 x1002_2 _ _ y362 t365 t366 t367 w0 _ ?side1 ?side2 ?side3 ?side4 ?side5 A12.out).mono ?_); (case side1 => exact isS135_a HI0); (case side2 => exact hz_ (IsS135.ge HI0.out)); (case side3 => repeat (first | exact (Kd.R_reads' HO364.out).2.2 | (with_reducible refine Kd.C_alloc ?_ _) | (with_reducible refine Kd.C_drewN ?_ _) | (with_reducible refine Kd.C_drew ?_))); (case side4 => exact (Kd.R_reads' HO364.out).2.1); (case side5 => exact far_slice (IsS135.own_ne HI0.out HO364.out (by decide))); rintro e w16 ⟨rfl, hi, hb, hk⟩; refine ⟨_, rfl, ?_⟩; have n0_ := ak_ (Kd.R_mono (Kd.R_keep (IsS135.apart (show IsS135 w0 _ g s0_0 x1001_2 x1002_2 from isS135_a HI0) (kr_ HO364) (by decide)) hk (fun _ h => h.2)) (fun _ h => h.1)); have n1_ := ak_ (KeepBut.trans kb_ hk (.inl rfl)); have n2_ := ak_ (hb); have n3_ := ak_ (hi); clear HO364 HK HB HI0; have HO364 := n0_; have HK := n1_; have HB := n2_; have HI0 := n3_; clear n0_ n1_ n2_ n3_; clear hb hk hi))
    go_ret
    exact ⟨ew_, isS135_a HI0, hz_ (IsS135.ge HI0.out), kb_⟩

/-! ### spec_l21DrawDay: function 75 -/
def spec_l21DrawDay.f (s0_0 : List Int) (s0_1 : Int) (s0_2 : Int) : Option (Int × Int × Int) := (spec_l00Src_one.f s0_0 s0_1 s0_2 8).bind fun bt368 => (if bt368.1 = true then ((spec_l00Src_among.f s0_0 bt368.2.1 bt368.2.2 (([(-1), 0, 20000, 20001, (-9223372036854775808)] : List Int))).bind fun bt374 => (some (bt374.1, bt374.2.1, bt374.2.2))) else ((spec_l00Src_pick.f s0_0 bt368.2.1 bt368.2.2 400).bind fun bt377 => (some (bt377.1, bt377.2.1, bt377.2.2))))
set_option maxHeartbeats 8000000 in
set_option maxRecDepth 100000 in
theorem spec_l21DrawDay.calls (g : Nat) (s0_0 : List Int) (s0_1 : Int) (s0_2 : Int) (r1 : Int) (r2 : Int) (r3 : Int) (w0 w : World) (hI : IsS135 w0 w g s0_0 s0_1 s0_2) (hB : Below w0.heap.size w0 w) (h : spec_l21DrawDay.f s0_0 s0_1 s0_2 = some (r1, r2, r3)) :
  Calls Try.prog 75 #[.pointer (some ⟨g, 0, none⟩)] w fun e w' => e = .returned (.int .i64 r1) ∧ IsS135 w0 w' g s0_0 r2 r3 ∧ Below w0.heap.size w0 w' ∧ KeepBut w w' g none := by
 have HI0 := ak_ hI
 have HK := ak_ (KeepBut.refl w g none)
 have HL := ak_ hB.size
 clear hI
 have HW0 := ak_ hB.size
 have HB := ak_ hB
 clear hB
 have H : ((spec_l00Src_one.f s0_0 s0_1 s0_2 8).bind fun bt368 => (if bt368.1 = true then ((spec_l00Src_among.f s0_0 bt368.2.1 bt368.2.2 (([(-1), 0, 20000, 20001, (-9223372036854775808)] : List Int))).bind fun bt374 => (some (bt374.1, bt374.2.1, bt374.2.2))) else ((spec_l00Src_pick.f s0_0 bt368.2.1 bt368.2.2 400).bind fun bt377 => (some (bt377.1, bt377.2.1, bt377.2.2))))) = some (r1, r2, r3) := h
 clear h
 replace H := ob_ H
 obtain ⟨⟨t368, t369, t370⟩, A20, H⟩ := H
 replace H : (if t368 = true then ((spec_l00Src_among.f s0_0 t369 t370 (([(-1), 0, 20000, 20001, (-9223372036854775808)] : List Int))).bind fun bt374 => (some (bt374.1, bt374.2.1, bt374.2.2))) else ((spec_l00Src_pick.f s0_0 t369 t370 400).bind fun bt377 => (some (bt377.1, bt377.2.1, bt377.2.2)))) = some (r1, r2, r3) := H
 have A2 := ak_ A20
 clear A20
 by_cases c3 : t368 = true
 ·subst c3
  have H1 : ((spec_l00Src_among.f s0_0 t369 t370 (([(-1), 0, 20000, 20001, (-9223372036854775808)] : List Int))).bind fun bt374 => (some (bt374.1, bt374.2.1, bt374.2.2))) = some (r1, r2, r3) := by rw [if_pos rfl] at H; exact H
  clear H
  have H := H1
  clear H1
  obtain ⟨y371, hy371⟩ : ∃ y_ : List Int, y_ = (([(-1), 0, 20000, 20001, (-9223372036854775808)] : List Int)) := ⟨_, rfl⟩
  replace H : ((spec_l00Src_among.f s0_0 t369 t370 y371).bind fun bt374 => (some (bt374.1, bt374.2.1, bt374.2.2))) = some (r1, r2, r3) := by first | (rw [hy371]; with_reducible exact H) | (have H2_ := (Option.bind_some _ _).symm.trans H; rw [hy371]; with_reducible exact H2_) | (have H2_ := (Option.bind_some _ _).symm.trans H; with_reducible exact H2_) | with_reducible exact H | (rw [hy371]; exact H) | exact H
  have Ny371 := ak_ hy371
  clear hy371
  replace H := ob_ H
  obtain ⟨⟨t374, t375, t376⟩, A40, H⟩ := H
  replace H : (some (t374, t375, t376)) = some (r1, r2, r3) := H
  have A4 := ak_ A40
  clear A40
  simp only [Option.some.injEq, Prod.mk.injEq] at H
  obtain ⟨rfl, rfl, rfl⟩ := H
  go_enter Try.func75, Try.ntmps75
  go_wp2_with (first | ((with_reducible refine gate_callee (f := 103) rfl ?_); refine goesL_ (some 4) rfl rfl Try.func103 (by kernel_rfl) rfl #[.pointer (some ⟨g, 0, none⟩), .int .i64 8] rfl ln_ ?_; (with_reducible refine (spec_l00Src_one.calls g s0_0 s0_1 s0_2 8 true t369 t370 w0 _ ?side1 ?side2 A2.out).mono ?_); (case side1 => exact isS135_a HI0); (case side2 => exact hz_ (IsS135.ge HI0.out)); rintro e w5 ⟨rfl, hi, hb, hk⟩; refine ⟨_, rfl, ?_⟩; have n0_ := ak_ (KeepBut.trans kb_ hk (.inl rfl)); have n1_ := ak_ (hb); have n2_ := ak_ (hi); clear HK HB HI0; have HK := n0_; have HB := n1_; have HI0 := n2_; clear n0_ n1_ n2_; clear hb hk hi) | ((with_reducible refine gate_dst (N := 6) rfl ?_); refine Kd.R_lit (Kd.int .i64) _ 2 ?hg (N := 6) ?hd (xs := ([(-1), 0, 20000, 20001, (-9223372036854775808)] : List Int)) (inner := [.int .i64 (-1), .int .i64 0, .int .i64 20000, .int .i64 20001, .int .i64 (-9223372036854775808)]) (ok := fun _ => True) (okp := fun _ => True) ?hr ?hp (fun _ hk => hk) trivial (Below.refl _ _) (Nat.le_refl _) (by simp) ?_; (case hd => rfl); (case hg => rfl); (case hr => first | (go_simp; done) | (go_simp; rfl)); (case hp => exact (Reps.one (show Kd.M (Kd.int .i64) _ _ _ (-1) [.int .i64 (-1)] from rfl) (Reps.one (show Kd.M (Kd.int .i64) _ _ _ 0 [.int .i64 0] from rfl) (Reps.one (show Kd.M (Kd.int .i64) _ _ _ 20000 [.int .i64 20000] from rfl) (Reps.one (show Kd.M (Kd.int .i64) _ _ _ 20001 [.int .i64 20001] from rfl) (Reps.one (show Kd.M (Kd.int .i64) _ _ _ (-9223372036854775808) [.int .i64 (-9223372036854775808)] from rfl) (Reps.none _ _))))))); intro v372 w6 ho7 hb hg_ hnew_; clear hg_ hnew_; (first | rw [← Ny371.out] at ho7 | (simp only [Int.reduceToNat] at ho7; rw [← Ny371.out] at ho7)); have n0_ := ak_ (Kd.R_lower ho7 (keep_size (w := w) (g := g) (row := none) kb_)); have n1_ := ak_ (IsS135.below (isS135_a HI0) hb); have n2_ := ak_ (KeepBut.trans kb_ (KeepBut.of_below hb g none) (.inl rfl)); have n3_ := ak_ (below_step (hz_ (IsS135.ge HI0.out)) hb); clear HI0 HK HB; have HO373 := n0_; have HI0 := n1_; have HK := n2_; have HB := n3_; clear n0_ n1_ n2_ n3_; clear hb ho7; obtain ⟨Ao8, co8, eo8⟩ := Kd.R_slice HO373.out; subst eo8) | ((with_reducible refine gate_callee (f := 106) rfl ?_); refine goesL_ (some 7) rfl rfl Try.func106 (by kernel_rfl) rfl #[.pointer (some ⟨g, 0, none⟩), .slice Ao8 y371.length co8] rfl ln_ ?_; (with_reducible refine (spec_l00Src_among.calls g s0_0 t369 t370 _ _ y371 t374 t375 t376 w0 _ ?side1 ?side2 ?side3 ?side4 ?side5 A4.out).mono ?_); (case side1 => exact isS135_a HI0); (case side2 => exact hz_ (IsS135.ge HI0.out)); (case side3 => repeat (first | exact (Kd.R_reads' HO373.out).2.2 | (with_reducible refine Kd.C_alloc ?_ _) | (with_reducible refine Kd.C_drewN ?_ _) | (with_reducible refine Kd.C_drew ?_))); (case side4 => exact (Kd.R_reads' HO373.out).2.1); (case side5 => exact far_slice (IsS135.own_ne HI0.out HO373.out (by decide))); rintro e w9 ⟨rfl, hi, hb, hk⟩; refine ⟨_, rfl, ?_⟩; have n0_ := ak_ (Kd.R_mono (Kd.R_keep (IsS135.apart (show IsS135 w0 _ g s0_0 t369 t370 from isS135_a HI0) (kr_ HO373) (by decide)) hk (fun _ h => h.2)) (fun _ h => h.1)); have n1_ := ak_ (KeepBut.trans kb_ hk (.inl rfl)); have n2_ := ak_ (hb); have n3_ := ak_ (hi); clear HO373 HK HB HI0; have HO373 := n0_; have HK := n1_; have HB := n2_; have HI0 := n3_; clear n0_ n1_ n2_ n3_; clear hb hk hi))
  go_ret
  exact ⟨ew_, isS135_a HI0, hz_ (IsS135.ge HI0.out), kb_⟩
 ·replace c3 := Bool.eq_false_iff.mpr c3
  subst c3
  have H1 : ((spec_l00Src_pick.f s0_0 t369 t370 400).bind fun bt377 => (some (bt377.1, bt377.2.1, bt377.2.2))) = some (r1, r2, r3) := by rw [if_neg (show ¬ (false = true) by decide)] at H; exact H
  clear H
  have H := H1
  clear H1
  replace H := ob_ H
  obtain ⟨⟨t377, t378, t379⟩, A100, H⟩ := H
  replace H : (some (t377, t378, t379)) = some (r1, r2, r3) := H
  have A10 := ak_ A100
  clear A100
  simp only [Option.some.injEq, Prod.mk.injEq] at H
  obtain ⟨rfl, rfl, rfl⟩ := H
  go_enter Try.func75, Try.ntmps75
  go_wp2_with (first | ((with_reducible refine gate_callee (f := 103) rfl ?_); refine goesL_ (some 4) rfl rfl Try.func103 (by kernel_rfl) rfl #[.pointer (some ⟨g, 0, none⟩), .int .i64 8] rfl ln_ ?_; (with_reducible refine (spec_l00Src_one.calls g s0_0 s0_1 s0_2 8 false t369 t370 w0 _ ?side1 ?side2 A2.out).mono ?_); (case side1 => exact isS135_a HI0); (case side2 => exact hz_ (IsS135.ge HI0.out)); rintro e w11 ⟨rfl, hi, hb, hk⟩; refine ⟨_, rfl, ?_⟩; have n0_ := ak_ (KeepBut.trans kb_ hk (.inl rfl)); have n1_ := ak_ (hb); have n2_ := ak_ (hi); clear HK HB HI0; have HK := n0_; have HB := n1_; have HI0 := n2_; clear n0_ n1_ n2_; clear hb hk hi) | ((with_reducible refine gate_callee (f := 104) rfl ?_); refine goesL_ (some 9) rfl rfl Try.func104 (by kernel_rfl) rfl #[.pointer (some ⟨g, 0, none⟩), .int .i64 400] rfl ln_ ?_; (with_reducible refine (spec_l00Src_pick.calls g s0_0 t369 t370 400 t377 t378 t379 w0 _ ?side1 ?side2 A10.out).mono ?_); (case side1 => exact isS135_a HI0); (case side2 => exact hz_ (IsS135.ge HI0.out)); rintro e w12 ⟨rfl, hi, hb, hk⟩; refine ⟨_, rfl, ?_⟩; have n0_ := ak_ (KeepBut.trans kb_ hk (.inl rfl)); have n1_ := ak_ (hb); have n2_ := ak_ (hi); clear HK HB HI0; have HK := n0_; have HB := n1_; have HI0 := n2_; clear n0_ n1_ n2_; clear hb hk hi))
  go_ret
  exact ⟨ew_, isS135_a HI0, hz_ (IsS135.ge HI0.out), kb_⟩

/-! ### spec_DrawWearOn: function 32 -/
def spec_DrawWearOn.f (k : Nat) (l0 : List Int) : Option ((List (S72)) × (List (S75)) × ByteArray × Int) := (spec_l00From.f l0).bind fun bt380 => ((spec_l21Both.f k bt380.1 bt380.2.1 bt380.2.2).bind fun bt384 => ((spec_l21Name.f k bt380.1 bt384.2.2.1 bt384.2.2.2 bt384.1).bind fun bt392 => ((spec_l21DrawDay.f bt380.1 bt392.2.1 bt392.2.2).bind fun bt395 => (some (bt384.1, bt384.2.1, bt392.1, bt395.1)))))
set_option maxHeartbeats 8000000 in
set_option maxRecDepth 100000 in
theorem spec_DrawWearOn.calls (k : Nat) (A0 : Option Addr) (c0 : Nat) (l0 : List Int) (r1 : List (S72)) (r2 : List (S75)) (r3 : ByteArray) (r4 : Int) (w : World) (hr0 : Kd.C (Kd.int .u8) w A0 l0.length l0) (hc0 : l0.length ≤ c0) (h : spec_DrawWearOn.f k l0 = some (r1, r2, r3, r4)) :
  Calls Try.prog 32 #[.slice A0 l0.length c0] w fun e w' => ∃ v0_ v1_ : Value, e = .returned (.tuple #[v0_, v1_, .string r3, .int .i64 r4]) ∧ Kd.R k72 72 w' w.heap.size (fun _ => True) v0_ r1 ∧ Kd.R k75 75 w' w.heap.size (fun _ => True) v1_ r2 ∧ Below w.heap.size w w' := by
 have HR0 := ak_ hr0
 have HC0 := ak_ hc0
 clear hr0 hc0
 have HB := ak_ (Below.refl w.heap.size w)
 have H : ((spec_l00From.f l0).bind fun bt380 => ((spec_l21Both.f k bt380.1 bt380.2.1 bt380.2.2).bind fun bt384 => ((spec_l21Name.f k bt380.1 bt384.2.2.1 bt384.2.2.2 bt384.1).bind fun bt392 => ((spec_l21DrawDay.f bt380.1 bt392.2.1 bt392.2.2).bind fun bt395 => (some (bt384.1, bt384.2.1, bt392.1, bt395.1)))))) = some (r1, r2, r3, r4) := h
 clear h
 replace H := ob_ H
 obtain ⟨⟨t380, t381, t382⟩, A20, H⟩ := H
 replace H : ((spec_l21Both.f k t380 t381 t382).bind fun bt384 => ((spec_l21Name.f k t380 bt384.2.2.1 bt384.2.2.2 bt384.1).bind fun bt392 => ((spec_l21DrawDay.f t380 bt392.2.1 bt392.2.2).bind fun bt395 => (some (bt384.1, bt384.2.1, bt392.1, bt395.1))))) = some (r1, r2, r3, r4) := H
 have A2 := ak_ A20
 clear A20
 replace H := ob_ H
 obtain ⟨⟨t384, t387, t390, t391⟩, A30, H⟩ := H
 replace H : ((spec_l21Name.f k t380 t390 t391 t384).bind fun bt392 => ((spec_l21DrawDay.f t380 bt392.2.1 bt392.2.2).bind fun bt395 => (some (t384, t387, bt392.1, bt395.1)))) = some (r1, r2, r3, r4) := H
 have A3 := ak_ A30
 clear A30
 replace H := ob_ H
 obtain ⟨⟨t392, t393, t394⟩, A40, H⟩ := H
 replace H : ((spec_l21DrawDay.f t380 t393 t394).bind fun bt395 => (some (t384, t387, t392, bt395.1))) = some (r1, r2, r3, r4) := H
 have A4 := ak_ A40
 clear A40
 replace H := ob_ H
 obtain ⟨⟨t395, t396, t397⟩, A50, H⟩ := H
 replace H : (some (t384, t387, t392, t395)) = some (r1, r2, r3, r4) := H
 have A5 := ak_ A50
 clear A50
 simp only [Option.some.injEq, Prod.mk.injEq] at H
 obtain ⟨rfl, rfl, rfl, rfl⟩ := H
 go_enter Try.func32, Try.ntmps32
 go_wp2_with (first | ((with_reducible refine gate_callee (f := 72) rfl ?_); refine goesL_ (some 11) rfl rfl Try.func72 (by kernel_rfl) rfl #[.slice A0 l0.length c0] rfl ln_ ?_; (with_reducible refine (spec_l00From.calls _ _ l0 t380 t381 t382 w _ ?side1 ?side2 ?side3 A2.out).mono ?_); (case side1 => exact hb_); (case side2 => exact HR0.out); (case side3 => exact HC0.out); rintro e w6 ⟨g383, rfl, hi, hb, hb2⟩; refine ⟨_, rfl, ?_⟩; have n0_ := ak_ (hb); have n1_ := ak_ (hi); clear HB; have HB := n0_; have HI383 := n1_; clear n0_ n1_; clear hb hb2 hi) | ((with_reducible refine gate_callee (f := 73) rfl ?_); refine goesL_ (some 14) rfl rfl Try.func73 (by kernel_rfl) rfl #[.pointer (some ⟨g383, 0, none⟩)] rfl ln_ ?_; (with_reducible refine (spec_l21Both.calls k g383 t380 t381 t382 t384 t387 t390 t391 w _ ?side1 ?side2 A3.out).mono ?_); (case side1 => exact isS135_a HI383); (case side2 => exact hz_ (IsS135.ge HI383.out)); rintro e w7 ⟨v385, v388, rfl, ho0, ho1, hi, hb, hk⟩; refine ⟨_, rfl, ?_⟩; have n0_ := ak_ (Kd.R_lower ho0 (below_size (hz_ (IsS135.ge HI383.out)))); have n1_ := ak_ (Kd.R_lower ho1 (below_size (hz_ (IsS135.ge HI383.out)))); have n2_ := ak_ (hb); have n3_ := ak_ (hi); clear HB HI383; have HO386 := n0_; have HO389 := n1_; have HB := n2_; have HI383 := n3_; clear n0_ n1_ n2_ n3_; (try clear hb); (try clear hb2); (try clear hk); (try clear hi); (try clear ho0); (try clear ho1); obtain ⟨Ao8, co8, eo8⟩ := Kd.R_slice HO386.out; subst eo8) | ((with_reducible refine gate_callee (f := 74) rfl ?_); refine goesL_ (some 19) rfl rfl Try.func74 (by kernel_rfl) rfl #[.pointer (some ⟨g383, 0, none⟩), .slice Ao8 t384.length co8] rfl ln_ ?_; (with_reducible refine (spec_l21Name.calls k g383 t380 t390 t391 _ _ t384 t392 t393 t394 w _ ?side1 ?side2 ?side3 ?side4 A4.out).mono ?_); (case side1 => exact isS135_a HI383); (case side2 => exact hz_ (IsS135.ge HI383.out)); (case side3 => exact Kd.C_foot_own (IsS135.apart (show IsS135 w _ g383 t380 t390 t391 from isS135_a HI383) (kr_ HO386) (by decide)) (fun _ h_ => h_.2)); (case side4 => exact (Kd.R_reads' HO386.out).2.1); rintro e w9 ⟨rfl, hi, hb, hk⟩; refine ⟨_, rfl, ?_⟩; have n0_ := ak_ (Kd.R_mono (Kd.R_keep (IsS135.apart (show IsS135 w _ g383 t380 t390 t391 from isS135_a HI383) (kr_ HO386) (by decide)) hk (fun _ h => h.2)) (fun _ h => h.1)); have n1_ := ak_ (Kd.R_mono (Kd.R_keep (IsS135.apart (show IsS135 w _ g383 t380 t390 t391 from isS135_a HI383) (kr_ HO389) (by decide)) hk (fun _ h => h.2)) (fun _ h => h.1)); have n2_ := ak_ (hb); have n3_ := ak_ (hi); clear HO386 HO389 HB HI383; have HO386 := n0_; have HO389 := n1_; have HB := n2_; have HI383 := n3_; clear n0_ n1_ n2_ n3_; clear hb hk hi) | ((with_reducible refine gate_callee (f := 75) rfl ?_); refine goesL_ (some 24) rfl rfl Try.func75 (by kernel_rfl) rfl #[.pointer (some ⟨g383, 0, none⟩)] rfl ln_ ?_; (with_reducible refine (spec_l21DrawDay.calls g383 t380 t393 t394 t395 t396 t397 w _ ?side1 ?side2 A5.out).mono ?_); (case side1 => exact isS135_a HI383); (case side2 => exact hz_ (IsS135.ge HI383.out)); rintro e w10 ⟨rfl, hi, hb, hk⟩; refine ⟨_, rfl, ?_⟩; have n0_ := ak_ (Kd.R_mono (Kd.R_keep (IsS135.apart (show IsS135 w _ g383 t380 t393 t394 from isS135_a HI383) (kr_ HO386) (by decide)) hk (fun _ h => h.2)) (fun _ h => h.1)); have n1_ := ak_ (Kd.R_mono (Kd.R_keep (IsS135.apart (show IsS135 w _ g383 t380 t393 t394 from isS135_a HI383) (kr_ HO389) (by decide)) hk (fun _ h => h.2)) (fun _ h => h.1)); have n2_ := ak_ (hb); have n3_ := ak_ (hi); clear HO386 HO389 HB HI383; have HO386 := n0_; have HO389 := n1_; have HB := n2_; have HI383 := n3_; clear n0_ n1_ n2_ n3_; clear hb hk hi))
 refine bodyPost_ret (results_list (rs := [.tmp 2, .tmp 3, .tmp 4, .tmp 5]) rfl (by simp) (.tmp (.tmp (.tmp (.tmp .nil))))) rfl ?_
 exact ⟨_, _, ew_, by (with_reducible repeat (first | apply Kd.R_alloc | apply Kd.R_drewN | apply Kd.R_drew)); exact HO386.out, by (with_reducible repeat (first | apply Kd.R_alloc | apply Kd.R_drewN | apply Kd.R_drew)); exact HO389.out, hz_ (IsS135.ge HI383.out)⟩

/-! ### impl_gearNamed: function 77 -/
def impl_gearNamed.go : List S72 → ByteArray → Int → Int
 | [], _, _ => -1
 | x :: xs, a, i => if x.f0.toList = a.toList then i else impl_gearNamed.go xs a (i + 1)
def impl_gearNamed.f (l0 : List S72) (a1 : ByteArray) : Option Int := some (impl_gearNamed.go l0 a1 0)
theorem impl_gearNamed.pred (x : S72) (name : ByteArray) (b : Bool) (hq : (x.f0.toList == name.toList) = b) (B : Nat) (w : World) (hB : w.heap[B]? = some (.cells #[.string name] 9 (0, 0))) :
  Calls Try.prog 109 #[.agg #[.string x.f0, .int .i64 x.f1, .int .i64 x.f2, .int .i64 x.f3], .pointer (some ⟨B, 0, none⟩)] w fun e w' => e = .returned (.bool b) ∧ Below w.heap.size w w' := by
 have hc : w.cell? ⟨B, 0, none⟩ = some (.string name) := (blk_cell hB 0).trans rfl
 have hlt := blk_lt hB
 have hne : B ≠ w.heap.size := by omega
 clear hB
 have hu := Try.underlying72
 go_enter Try.func109, Try.ntmps109
 go_wp2
 go_ret
 exact ⟨rfl, (Below.refl _ _).alloc (Nat.le_refl _) _⟩
theorem impl_gearNamed.step (l : List S72) (a : ByteArray) (j : Nat) (h : j < l.length) : impl_gearNamed.go (l.drop j) a j = if (rd_T72 l j).f0.toList = a.toList then (j : Int) else impl_gearNamed.go (l.drop (j + 1)) a ((j + 1 : Nat) : Int) := by
 rw [List.drop_eq_getElem_cons h, impl_gearNamed.go]
 have e : rd_T72 l (j : Int) = l[j] := by
  unfold rd_T72
  rw [Int.toNat_natCast, List.getD_eq_getElem?_getD, List.getElem?_eq_getElem h]
  rfl
 rw [e]
 rfl
set_option maxHeartbeats 2000000 in
theorem impl_gearNamed.loop (A0 : Option Addr) (c0 : Nat) (l0 : List S72) (name : ByteArray) (B : Nat) (w : World) (hr : Kd.C k72 w A0 l0.length l0) (hB : w.heap[B]? = some (.cells #[.string name] 9 (0, 0))) :
  Calls Try.prog 108 #[.slice A0 l0.length c0, .func (.func 109) #[] #[.pointer (some ⟨B, 0, none⟩)]] w fun e w' => e = .returned (.int .i64 (impl_gearNamed.go l0 name 0)) ∧ Below w.heap.size w w' := by
 have eg : ∀ args w, (callFunc 109 args).run Try.prog w = .ok (.enter 109 args) w := enters_of Try.func109 (by kernel_rfl) rfl
 have HR := ak_ hr
 have hm := hr.2.1
 have HBX := ak_ hB
 have HG : Aside0 (impl_gearNamed.go l0 name 0 = impl_gearNamed.go (l0.drop 0) name ((0 : Nat) : Int)) := ⟨rfl⟩
 clear hr hB
 go_enter Try.func108, Try.ntmps108
 go_wp2
 go_loopg [5, 8] l0.length (fun gg _ v8 wr => ∃ j : Nat, v8 = .int .i64 (j : Int) ∧ Aside0 (j ≤ l0.length ∧ l0.length - j ≤ gg) ∧ Aside0 (impl_gearNamed.go l0 name 0 = impl_gearNamed.go (l0.drop j) name (j : Int)) ∧ Aside0 (Below w.heap.size w wr))
 case atStart => exact ⟨0, rfl, ⟨Nat.zero_le _, by omega⟩, HG, ⟨Below.refl _ _⟩⟩
 case round =>
  clear HG
  obtain ⟨j, rfl, HJ, HG, HB⟩ := hrel
  by_cases hlt : j < l0.length
  ·have p0 : (0 : Int) ≤ (j : Int) := Int.natCast_nonneg j
   have q0 : (j : Int) < (l0.length : Int) := by omega
   obtain ⟨ad, e0, hx0, hx1, hx2, hx3⟩ := at_T72 HR.out (j : Int) p0 q0
   cases e0
   replace hx0 := cq_ HB hx0
   replace hx1 := cq_ HB hx1
   replace hx2 := cq_ HB hx2
   replace hx3 := cq_ HB hx3
   have HG2 := ak_ (HG.out.trans (impl_gearNamed.step l0 name j hlt))
   clear HG
   have hBw : wr.heap[B]? = some (.cells #[.string name] 9 (0, 0)) := (HB.out.block B (blk_lt HBX.out)).trans HBX.out
   rw [Int.toNat_natCast] at hx0 hx1 hx2 hx3
   cases hq : ((rd_T72 l0 (j : Int)).f0.toList == name.toList) with
   | true =>
    have hcall := impl_gearNamed.pred (rd_T72 l0 (j : Int)) name true hq B wr hBw
    have HC := ak_ hcall
    have HV : Aside0 (impl_gearNamed.go l0 name 0 = (j : Int)) := ⟨by rw [HG2.out, if_pos (by simpa using hq)]⟩
    clear hcall hq hBw HG2
    go_wp2_with (go_at_fn 109; refine HC.out.mono ?_; rintro e w' ⟨rfl, hb⟩)
    go_ret
    exact ⟨by rw [HV.out]; rfl, HB.out.trans (hb.mono HB.out.size)⟩
   | false =>
    have hcall := impl_gearNamed.pred (rd_T72 l0 (j : Int)) name false hq B wr hBw
    have HC := ak_ hcall
    have HV : Aside0 (impl_gearNamed.go l0 name 0 = impl_gearNamed.go (l0.drop (j + 1)) name ((j + 1 : Nat) : Int)) := ⟨by rw [HG2.out, if_neg (by simpa using hq)]⟩
    clear hcall hq hBw HG2
    go_wp2_with (go_at_fn 109; refine HC.out.mono ?_; rintro e w' ⟨rfl, hb⟩)
    go_roundg (l0.length - (j + 1))
    case measure => have := HJ.out; omega
    case rel => exact ⟨j + 1, by go_num, ⟨by omega, by omega⟩, HV, ⟨HB.out.trans (hb.mono HB.out.size)⟩⟩
  ·have he : j = l0.length := by have := HJ.out; omega
   have HV : Aside0 (impl_gearNamed.go l0 name 0 = -1) := ⟨by rw [HG.out, he, List.drop_length]; rfl⟩
   have hlt2 : decide (j < l0.length) = false := decide_eq_false hlt
   clear HG he hlt
   go_wp2
   go_ret
   exact ⟨by rw [HV.out]; rfl, HB.out⟩
theorem impl_gearNamed.calls (A0 : Option Addr) (c0 : Nat) (l0 : List S72) (a1 : ByteArray) (r : Int) (w : World) (hr0 : Kd.C k72 w A0 l0.length l0) (_hc0 : l0.length ≤ c0) (h : impl_gearNamed.f l0 a1 = some r) :
  Calls Try.prog 77 #[.slice A0 l0.length c0, .string a1] w fun e w' => e = .returned (.int .i64 r) ∧ Below w.heap.size w w' := by
 have hr := Option.some.inj h
 have hcon := impl_gearNamed.loop A0 c0 l0 a1 w.heap.size (w.alloc (.cells #[.string a1] 9)) (Kd.C_below hr0 (below_alloc (Below.refl _ _) _)) (heap_alloc_new w _)
 rw [hr] at hcon
 have HC := ak_ hcon
 clear hcon hr h hr0
 have hmf : ∀ (fn : Fn) (first cap : Array Value) (w : World), (Instr.makeFunc fn first cap).run Try.prog w = .ok (.func fn first cap) w := fun _ _ _ _ => rfl
 go_enter Try.func77, Try.ntmps77
 go_wp2_with (go_at_call 108; refine HC.out.mono ?_; rintro e w' ⟨rfl, hb⟩)
 go_ret
 exact ⟨rfl, (below_alloc (Below.refl _ _) _).trans (hb.mono (by simp))⟩


/-! ### impl_IsName: function 98 -/
mutual
def impl_IsName.j0 : Nat → ByteArray → Bool → Option (Bool)
 | 0, _, _ => none
 | k + 1, x0, x21 => if x21 = true then (some false) else (impl_IsName.l0 k x0 0)
def impl_IsName.l0 : Nat → ByteArray → Int → Option (Bool)
 | 0, _, _ => none
 | k + 1, x0, x3 => if x3 < (x0.size : Int) then (if 0 ≤ x3 then (if (bt x0 x3) < 97 then (if (bt x0 x3) < 48 then (if (bt x0 x3) = 45 then (impl_IsName.l0 k x0 (wrap64 (x3 + 1))) else (some false)) else (if (bt x0 x3) > 57 then (if (bt x0 x3) = 45 then (impl_IsName.l0 k x0 (wrap64 (x3 + 1))) else (some false)) else (impl_IsName.l0 k x0 (wrap64 (x3 + 1))))) else (if (bt x0 x3) > 122 then (if (bt x0 x3) < 48 then (if (bt x0 x3) = 45 then (impl_IsName.l0 k x0 (wrap64 (x3 + 1))) else (some false)) else (if (bt x0 x3) > 57 then (if (bt x0 x3) = 45 then (impl_IsName.l0 k x0 (wrap64 (x3 + 1))) else (some false)) else (impl_IsName.l0 k x0 (wrap64 (x3 + 1))))) else (impl_IsName.l0 k x0 (wrap64 (x3 + 1))))) else (none)) else (some true)
end
def impl_IsName.f (k : Nat) (a0 : ByteArray) : Option (Bool) := if (a0.size : Int) < 1 then (impl_IsName.j0 k a0 true) else (if (a0.size : Int) > 12 then (impl_IsName.j0 k a0 true) else (if 0 < (a0.size : Int) then (if (bt a0 0) < 97 then (impl_IsName.j0 k a0 true) else (impl_IsName.j0 k a0 (decide ((bt a0 0) > 122)))) else (none)))
set_option maxHeartbeats 8000000 in
set_option maxRecDepth 100000 in
theorem impl_IsName.calls (k : Nat) (a0 : ByteArray) (r : Bool) (w : World) (h : impl_IsName.f k a0 = some r) :
  Calls Try.prog 98 #[.string a0] w fun e w' => e = .returned (.bool r) ∧ Drawn0 w w' := by
 have H : (if (a0.size : Int) < 1 then (impl_IsName.j0 k a0 true) else (if (a0.size : Int) > 12 then (impl_IsName.j0 k a0 true) else (if 0 < (a0.size : Int) then (if (bt a0 0) < 97 then (impl_IsName.j0 k a0 true) else (impl_IsName.j0 k a0 (decide ((bt a0 0) > 122)))) else (none)))) = some r := h
 clear h
 have HC2 := ak_ H
 clear H
 go_enter Try.func98, Try.ntmps98
 go_upto_region 1 with (fail)
 go_cut [21] (fun v21 wc => ∃ (kq : Nat) (x21_1 : Bool), v21 = .bool x21_1 ∧ Aside0 (impl_IsName.j0 kq a0 x21_1 = some r) ∧ Aside0 (kq ≤ k) ∧ Drawn0 w wc)
 case first =>
  have H := HC2.out
  clear HC2
  by_cases c3 : (a0.size : Int) < 1
  ·rw [if_pos c3] at H
   have c3b0 : decide ((a0.size : Int) < 1) = true := dt_ c3
   have c3b1 : decide (a0.size < 1) = true := dt_ (by omega)
   clear c3
   (first | rw [c3b0] | (simp only [i64_w, i32_w]; rw [c3b0]) | skip)
   have H' := ak_ H
   clear H
   go_wp2
   go_meet
   case rel => exact ⟨_, (true), fr_, H', ⟨by first | omega | exact Nat.le_refl _⟩, by repeat (first | exact Drawn0.refl _ | apply Drawn0.step)⟩
  ·rw [if_neg c3] at H
   have c3b0 : decide ((a0.size : Int) < 1) = false := decide_eq_false c3
   have c3b1 : decide (a0.size < 1) = false := decide_eq_false (by omega)
   clear c3
   (first | rw [c3b0] | (simp only [i64_w, i32_w]; rw [c3b0]) | skip)
   by_cases c4 : (a0.size : Int) > 12
   ·rw [if_pos c4] at H
    have c4b0 : decide (12 < (a0.size : Int)) = true := dt_ c4
    have c4b1 : decide (12 < a0.size) = true := dt_ (by omega)
    clear c4
    have H' := ak_ H
    clear H
    go_wp2
    go_meet
    case rel => exact ⟨_, (true), fr_, H', ⟨by first | omega | exact Nat.le_refl _⟩, by repeat (first | exact Drawn0.refl _ | apply Drawn0.step)⟩
   ·rw [if_neg c4] at H
    have c4b0 : decide (12 < (a0.size : Int)) = false := decide_eq_false c4
    have c4b1 : decide (12 < a0.size) = false := decide_eq_false (by omega)
    clear c4
    by_cases c5 : 0 < (a0.size : Int)
    ·rw [if_pos c5] at H
     have c5b0 : decide (0 < (a0.size : Int)) = true := dt_ c5
     have c5b1 : decide (0 < a0.size) = true := dt_ (by omega)
     clear c5
     by_cases c7 : (bt a0 0) < 97
     ·rw [if_pos c7] at H
      have c7b0 : decide ((bt a0 0) < 97) = true := dt_ c7
      clear c7
      have H' := ak_ H
      clear H
      have p6 : 0 ≤ (0 : Int) := (by omega)
      have q6 : 0 < a0.size := (by have : (0 : Int) < (a0.size : Int) := od_; omega)
      have hx6 : ∀ h : 0 < a0.size, ((a0[0]'h).toNat : Int) = bt a0 0 := bt_at a0 0
      clear p6
      have qi6 : (0 < (a0.size : Int)) = True := eq_true (od_)
      replace q6 := eq_true q6
      go_wp2
      go_meet
      case rel => exact ⟨_, (true), fr_, H', ⟨by first | omega | exact Nat.le_refl _⟩, by repeat (first | exact Drawn0.refl _ | apply Drawn0.step)⟩
     ·rw [if_neg c7] at H
      have c7b0 : decide ((bt a0 0) < 97) = false := decide_eq_false c7
      clear c7
      have H' := ak_ H
      clear H
      have p6 : 0 ≤ (0 : Int) := (by omega)
      have q6 : 0 < a0.size := (by have : (0 : Int) < (a0.size : Int) := od_; omega)
      have hx6 : ∀ h : 0 < a0.size, ((a0[0]'h).toNat : Int) = bt a0 0 := bt_at a0 0
      clear p6
      have qi6 : (0 < (a0.size : Int)) = True := eq_true (od_)
      replace q6 := eq_true q6
      have p8 : 0 ≤ (0 : Int) := (by omega)
      have q8 : 0 < a0.size := (by have : (0 : Int) < (a0.size : Int) := od_; omega)
      have hx8 : ∀ h : 0 < a0.size, ((a0[0]'h).toNat : Int) = bt a0 0 := bt_at a0 0
      clear p8
      have qi8 : (0 < (a0.size : Int)) = True := eq_true (od_)
      replace q8 := eq_true q8
      go_wp2
      go_meet
      case rel => exact ⟨_, (decide ((bt a0 0) > 122)), fr_, H', ⟨by first | omega | exact Nat.le_refl _⟩, by repeat (first | exact Drawn0.refl _ | apply Drawn0.step)⟩
    ·rw [if_neg c5] at H
     exact absurd H (by simp)
 case rest =>
  clear HC2
  try clear p2
  try clear c3
  try clear c3b0
  try clear c3b1
  try clear c4
  try clear c4b0
  try clear c4b1
  try clear c5
  try clear c5b0
  try clear c5b1
  try clear p6
  try clear q6
  try clear hx6
  try clear qi6
  try clear c7
  try clear c7b0
  try clear p8
  try clear q8
  try clear hx8
  try clear qi8
  try clear p6
  try clear p8
  try clear q6
  try clear q8
  obtain ⟨kq, x21_1, rfl, HA, HJ1, ⟨mc1, rfl⟩⟩ := hcut
  cases kq with
  | zero => exact absurd HA.out (by simp [impl_IsName.j0])
  | succ kj1 =>
   have H := HA.out
   clear HA
   simp only [impl_IsName.j0] at H
   by_cases c9 : x21_1 = true
   ·subst c9
    have H1 : (some false) = some r := by rw [if_pos rfl] at H; exact H
    clear H
    have H := H1
    clear H1
    obtain rfl := Option.some.inj H
    go_wp2
    go_ret
    exact ⟨by first | rfl | (simp; done) | (simp [*]; done), by repeat (first | exact Drawn0.refl _ | apply Drawn0.step)⟩
   ·replace c9 := Bool.eq_false_iff.mpr c9
    subst c9
    have H1 : (impl_IsName.l0 kj1 a0 0) = some r := by rw [if_neg (show ¬ (false = true) by decide)] at H; exact H
    clear H
    have H := H1
    clear H1
    have H' := ak_ H
    clear H
    go_wp2
    go_loopg [3] kj1 (fun kq v3 w' => ∃ (x3_2 : Int), v3 = .int .i64 x3_2 ∧ Aside0 (impl_IsName.l0 kq a0 x3_2 = some r) ∧ Aside0 (kq ≤ kj1) ∧ Drawn0 w w')
    case atStart => exact ⟨(0), fr_, H', ⟨Nat.le_refl _⟩, by repeat (first | exact Drawn0.refl _ | apply Drawn0.step)⟩
    case round =>
     clear H'
     try clear c1
     try clear p2
     try clear c3
     try clear c3b0
     try clear c3b1
     try clear c4
     try clear c4b0
     try clear c4b1
     try clear c5
     try clear c5b0
     try clear c5b1
     try clear p6
     try clear q6
     try clear hx6
     try clear qi6
     try clear c7
     try clear c7b0
     try clear p8
     try clear q8
     try clear hx8
     try clear qi8
     try clear c9
     try clear p2
     try clear p6
     try clear p8
     try clear q6
     try clear q8
     obtain ⟨x3_2, rfl, HA, HK2, ⟨m2, rfl⟩⟩ := hrel
     cases gk with
     | zero => exact absurd HA.out (by simp [impl_IsName.l0])
     | succ k2 =>
      have H := HA.out
      clear HA
      simp only [impl_IsName.l0] at H
      by_cases c10 : x3_2 < (a0.size : Int)
      ·rw [if_pos c10] at H
       have c10b0 : decide (x3_2 < (a0.size : Int)) = true := dt_ c10
       clear c10
       by_cases c11 : 0 ≤ x3_2
       ·rw [if_pos c11] at H
        have c11b0 : decide (0 ≤ x3_2) = true := dt_ c11
        clear c11
        by_cases c13 : (bt a0 x3_2) < 97
        ·rw [if_pos c13] at H
         have c13b0 : decide ((bt a0 x3_2) < 97) = true := dt_ c13
         clear c13
         by_cases c15 : (bt a0 x3_2) < 48
         ·rw [if_pos c15] at H
          have c15b0 : decide ((bt a0 x3_2) < 48) = true := dt_ c15
          clear c15
          by_cases c17 : (bt a0 x3_2) = 45
          ·rw [if_pos c17] at H
           have c17b0 : ((bt a0 x3_2) == 45) = true := beq_iff_eq.mpr c17
           have c17b1 : ((bt a0 x3_2) != 45) = false := bne_eq_false_iff_eq.mpr c17
           clear c17
           have H' := ak_ H
           clear H
           have p12 : 0 ≤ (x3_2 : Int) := od_
           have q12 : x3_2 < (a0.size : Int) := od_
           have hx12 := bt_at a0 x3_2
           replace p12 := eq_true p12
           replace q12 := eq_true q12
           have p14 : 0 ≤ (x3_2 : Int) := od_
           have q14 : x3_2 < (a0.size : Int) := od_
           have hx14 := bt_at a0 x3_2
           replace p14 := eq_true p14
           replace q14 := eq_true q14
           have p16 : 0 ≤ (x3_2 : Int) := od_
           have q16 : x3_2 < (a0.size : Int) := od_
           have hx16 := bt_at a0 x3_2
           replace p16 := eq_true p16
           replace q16 := eq_true q16
           go_wp2
           go_roundg k2
           case measure => have := HJ1.out; have := HK2.out; omega
           case rel => exact ⟨(wrap64 (x3_2 + 1)), fr_, H', ⟨by have := HJ1.out; have := HK2.out; omega⟩, by repeat (first | exact Drawn0.refl _ | apply Drawn0.step)⟩
          ·rw [if_neg c17] at H
           have c17b0 : ((bt a0 x3_2) == 45) = false := beq_eq_false_iff_ne.mpr c17
           have c17b1 : ((bt a0 x3_2) != 45) = true := bne_iff_ne.mpr c17
           obtain rfl := Option.some.inj H
           have p12 : 0 ≤ (x3_2 : Int) := od_
           have q12 : x3_2 < (a0.size : Int) := od_
           have hx12 := bt_at a0 x3_2
           replace p12 := eq_true p12
           replace q12 := eq_true q12
           have p14 : 0 ≤ (x3_2 : Int) := od_
           have q14 : x3_2 < (a0.size : Int) := od_
           have hx14 := bt_at a0 x3_2
           replace p14 := eq_true p14
           replace q14 := eq_true q14
           have p16 : 0 ≤ (x3_2 : Int) := od_
           have q16 : x3_2 < (a0.size : Int) := od_
           have hx16 := bt_at a0 x3_2
           replace p16 := eq_true p16
           replace q16 := eq_true q16
           go_wp2
           go_ret
           exact ⟨by first | rfl | (simp; done) | (simp [*]; done), by repeat (first | exact Drawn0.refl _ | apply Drawn0.step)⟩
         ·rw [if_neg c15] at H
          have c15b0 : decide ((bt a0 x3_2) < 48) = false := decide_eq_false c15
          clear c15
          by_cases c19 : (bt a0 x3_2) > 57
          ·rw [if_pos c19] at H
           have c19b0 : decide (57 < (bt a0 x3_2)) = true := dt_ c19
           clear c19
           by_cases c21 : (bt a0 x3_2) = 45
           ·rw [if_pos c21] at H
            have c21b0 : ((bt a0 x3_2) == 45) = true := beq_iff_eq.mpr c21
            have c21b1 : ((bt a0 x3_2) != 45) = false := bne_eq_false_iff_eq.mpr c21
            clear c21
            have H' := ak_ H
            clear H
            have p12 : 0 ≤ (x3_2 : Int) := od_
            have q12 : x3_2 < (a0.size : Int) := od_
            have hx12 := bt_at a0 x3_2
            replace p12 := eq_true p12
            replace q12 := eq_true q12
            have p14 : 0 ≤ (x3_2 : Int) := od_
            have q14 : x3_2 < (a0.size : Int) := od_
            have hx14 := bt_at a0 x3_2
            replace p14 := eq_true p14
            replace q14 := eq_true q14
            have p18 : 0 ≤ (x3_2 : Int) := od_
            have q18 : x3_2 < (a0.size : Int) := od_
            have hx18 := bt_at a0 x3_2
            replace p18 := eq_true p18
            replace q18 := eq_true q18
            have p20 : 0 ≤ (x3_2 : Int) := od_
            have q20 : x3_2 < (a0.size : Int) := od_
            have hx20 := bt_at a0 x3_2
            replace p20 := eq_true p20
            replace q20 := eq_true q20
            go_wp2
            go_roundg k2
            case measure => have := HJ1.out; have := HK2.out; omega
            case rel => exact ⟨(wrap64 (x3_2 + 1)), fr_, H', ⟨by have := HJ1.out; have := HK2.out; omega⟩, by repeat (first | exact Drawn0.refl _ | apply Drawn0.step)⟩
           ·rw [if_neg c21] at H
            have c21b0 : ((bt a0 x3_2) == 45) = false := beq_eq_false_iff_ne.mpr c21
            have c21b1 : ((bt a0 x3_2) != 45) = true := bne_iff_ne.mpr c21
            obtain rfl := Option.some.inj H
            have p12 : 0 ≤ (x3_2 : Int) := od_
            have q12 : x3_2 < (a0.size : Int) := od_
            have hx12 := bt_at a0 x3_2
            replace p12 := eq_true p12
            replace q12 := eq_true q12
            have p14 : 0 ≤ (x3_2 : Int) := od_
            have q14 : x3_2 < (a0.size : Int) := od_
            have hx14 := bt_at a0 x3_2
            replace p14 := eq_true p14
            replace q14 := eq_true q14
            have p18 : 0 ≤ (x3_2 : Int) := od_
            have q18 : x3_2 < (a0.size : Int) := od_
            have hx18 := bt_at a0 x3_2
            replace p18 := eq_true p18
            replace q18 := eq_true q18
            have p20 : 0 ≤ (x3_2 : Int) := od_
            have q20 : x3_2 < (a0.size : Int) := od_
            have hx20 := bt_at a0 x3_2
            replace p20 := eq_true p20
            replace q20 := eq_true q20
            go_wp2
            go_ret
            exact ⟨by first | rfl | (simp; done) | (simp [*]; done), by repeat (first | exact Drawn0.refl _ | apply Drawn0.step)⟩
          ·rw [if_neg c19] at H
           have c19b0 : decide (57 < (bt a0 x3_2)) = false := decide_eq_false c19
           clear c19
           have H' := ak_ H
           clear H
           have p12 : 0 ≤ (x3_2 : Int) := od_
           have q12 : x3_2 < (a0.size : Int) := od_
           have hx12 := bt_at a0 x3_2
           replace p12 := eq_true p12
           replace q12 := eq_true q12
           have p14 : 0 ≤ (x3_2 : Int) := od_
           have q14 : x3_2 < (a0.size : Int) := od_
           have hx14 := bt_at a0 x3_2
           replace p14 := eq_true p14
           replace q14 := eq_true q14
           have p18 : 0 ≤ (x3_2 : Int) := od_
           have q18 : x3_2 < (a0.size : Int) := od_
           have hx18 := bt_at a0 x3_2
           replace p18 := eq_true p18
           replace q18 := eq_true q18
           go_wp2
           go_roundg k2
           case measure => have := HJ1.out; have := HK2.out; omega
           case rel => exact ⟨(wrap64 (x3_2 + 1)), fr_, H', ⟨by have := HJ1.out; have := HK2.out; omega⟩, by repeat (first | exact Drawn0.refl _ | apply Drawn0.step)⟩
        ·rw [if_neg c13] at H
         have c13b0 : decide ((bt a0 x3_2) < 97) = false := decide_eq_false c13
         clear c13
         by_cases c23 : (bt a0 x3_2) > 122
         ·rw [if_pos c23] at H
          have c23b0 : decide (122 < (bt a0 x3_2)) = true := dt_ c23
          clear c23
          by_cases c25 : (bt a0 x3_2) < 48
          ·rw [if_pos c25] at H
           have c25b0 : decide ((bt a0 x3_2) < 48) = true := dt_ c25
           clear c25
           by_cases c27 : (bt a0 x3_2) = 45
           ·rw [if_pos c27] at H
            have c27b0 : ((bt a0 x3_2) == 45) = true := beq_iff_eq.mpr c27
            have c27b1 : ((bt a0 x3_2) != 45) = false := bne_eq_false_iff_eq.mpr c27
            clear c27
            have H' := ak_ H
            clear H
            have p12 : 0 ≤ (x3_2 : Int) := od_
            have q12 : x3_2 < (a0.size : Int) := od_
            have hx12 := bt_at a0 x3_2
            replace p12 := eq_true p12
            replace q12 := eq_true q12
            have p22 : 0 ≤ (x3_2 : Int) := od_
            have q22 : x3_2 < (a0.size : Int) := od_
            have hx22 := bt_at a0 x3_2
            replace p22 := eq_true p22
            replace q22 := eq_true q22
            have p24 : 0 ≤ (x3_2 : Int) := od_
            have q24 : x3_2 < (a0.size : Int) := od_
            have hx24 := bt_at a0 x3_2
            replace p24 := eq_true p24
            replace q24 := eq_true q24
            have p26 : 0 ≤ (x3_2 : Int) := od_
            have q26 : x3_2 < (a0.size : Int) := od_
            have hx26 := bt_at a0 x3_2
            replace p26 := eq_true p26
            replace q26 := eq_true q26
            go_wp2
            go_roundg k2
            case measure => have := HJ1.out; have := HK2.out; omega
            case rel => exact ⟨(wrap64 (x3_2 + 1)), fr_, H', ⟨by have := HJ1.out; have := HK2.out; omega⟩, by repeat (first | exact Drawn0.refl _ | apply Drawn0.step)⟩
           ·rw [if_neg c27] at H
            have c27b0 : ((bt a0 x3_2) == 45) = false := beq_eq_false_iff_ne.mpr c27
            have c27b1 : ((bt a0 x3_2) != 45) = true := bne_iff_ne.mpr c27
            obtain rfl := Option.some.inj H
            have p12 : 0 ≤ (x3_2 : Int) := od_
            have q12 : x3_2 < (a0.size : Int) := od_
            have hx12 := bt_at a0 x3_2
            replace p12 := eq_true p12
            replace q12 := eq_true q12
            have p22 : 0 ≤ (x3_2 : Int) := od_
            have q22 : x3_2 < (a0.size : Int) := od_
            have hx22 := bt_at a0 x3_2
            replace p22 := eq_true p22
            replace q22 := eq_true q22
            have p24 : 0 ≤ (x3_2 : Int) := od_
            have q24 : x3_2 < (a0.size : Int) := od_
            have hx24 := bt_at a0 x3_2
            replace p24 := eq_true p24
            replace q24 := eq_true q24
            have p26 : 0 ≤ (x3_2 : Int) := od_
            have q26 : x3_2 < (a0.size : Int) := od_
            have hx26 := bt_at a0 x3_2
            replace p26 := eq_true p26
            replace q26 := eq_true q26
            go_wp2
            go_ret
            exact ⟨by first | rfl | (simp; done) | (simp [*]; done), by repeat (first | exact Drawn0.refl _ | apply Drawn0.step)⟩
          ·rw [if_neg c25] at H
           have c25b0 : decide ((bt a0 x3_2) < 48) = false := decide_eq_false c25
           clear c25
           by_cases c29 : (bt a0 x3_2) > 57
           ·rw [if_pos c29] at H
            have c29b0 : decide (57 < (bt a0 x3_2)) = true := dt_ c29
            clear c29
            by_cases c31 : (bt a0 x3_2) = 45
            ·rw [if_pos c31] at H
             have c31b0 : ((bt a0 x3_2) == 45) = true := beq_iff_eq.mpr c31
             have c31b1 : ((bt a0 x3_2) != 45) = false := bne_eq_false_iff_eq.mpr c31
             clear c31
             have H' := ak_ H
             clear H
             have p12 : 0 ≤ (x3_2 : Int) := od_
             have q12 : x3_2 < (a0.size : Int) := od_
             have hx12 := bt_at a0 x3_2
             replace p12 := eq_true p12
             replace q12 := eq_true q12
             have p22 : 0 ≤ (x3_2 : Int) := od_
             have q22 : x3_2 < (a0.size : Int) := od_
             have hx22 := bt_at a0 x3_2
             replace p22 := eq_true p22
             replace q22 := eq_true q22
             have p24 : 0 ≤ (x3_2 : Int) := od_
             have q24 : x3_2 < (a0.size : Int) := od_
             have hx24 := bt_at a0 x3_2
             replace p24 := eq_true p24
             replace q24 := eq_true q24
             have p28 : 0 ≤ (x3_2 : Int) := od_
             have q28 : x3_2 < (a0.size : Int) := od_
             have hx28 := bt_at a0 x3_2
             replace p28 := eq_true p28
             replace q28 := eq_true q28
             have p30 : 0 ≤ (x3_2 : Int) := od_
             have q30 : x3_2 < (a0.size : Int) := od_
             have hx30 := bt_at a0 x3_2
             replace p30 := eq_true p30
             replace q30 := eq_true q30
             go_wp2
             go_roundg k2
             case measure => have := HJ1.out; have := HK2.out; omega
             case rel => exact ⟨(wrap64 (x3_2 + 1)), fr_, H', ⟨by have := HJ1.out; have := HK2.out; omega⟩, by repeat (first | exact Drawn0.refl _ | apply Drawn0.step)⟩
            ·rw [if_neg c31] at H
             have c31b0 : ((bt a0 x3_2) == 45) = false := beq_eq_false_iff_ne.mpr c31
             have c31b1 : ((bt a0 x3_2) != 45) = true := bne_iff_ne.mpr c31
             obtain rfl := Option.some.inj H
             have p12 : 0 ≤ (x3_2 : Int) := od_
             have q12 : x3_2 < (a0.size : Int) := od_
             have hx12 := bt_at a0 x3_2
             replace p12 := eq_true p12
             replace q12 := eq_true q12
             have p22 : 0 ≤ (x3_2 : Int) := od_
             have q22 : x3_2 < (a0.size : Int) := od_
             have hx22 := bt_at a0 x3_2
             replace p22 := eq_true p22
             replace q22 := eq_true q22
             have p24 : 0 ≤ (x3_2 : Int) := od_
             have q24 : x3_2 < (a0.size : Int) := od_
             have hx24 := bt_at a0 x3_2
             replace p24 := eq_true p24
             replace q24 := eq_true q24
             have p28 : 0 ≤ (x3_2 : Int) := od_
             have q28 : x3_2 < (a0.size : Int) := od_
             have hx28 := bt_at a0 x3_2
             replace p28 := eq_true p28
             replace q28 := eq_true q28
             have p30 : 0 ≤ (x3_2 : Int) := od_
             have q30 : x3_2 < (a0.size : Int) := od_
             have hx30 := bt_at a0 x3_2
             replace p30 := eq_true p30
             replace q30 := eq_true q30
             go_wp2
             go_ret
             exact ⟨by first | rfl | (simp; done) | (simp [*]; done), by repeat (first | exact Drawn0.refl _ | apply Drawn0.step)⟩
           ·rw [if_neg c29] at H
            have c29b0 : decide (57 < (bt a0 x3_2)) = false := decide_eq_false c29
            clear c29
            have H' := ak_ H
            clear H
            have p12 : 0 ≤ (x3_2 : Int) := od_
            have q12 : x3_2 < (a0.size : Int) := od_
            have hx12 := bt_at a0 x3_2
            replace p12 := eq_true p12
            replace q12 := eq_true q12
            have p22 : 0 ≤ (x3_2 : Int) := od_
            have q22 : x3_2 < (a0.size : Int) := od_
            have hx22 := bt_at a0 x3_2
            replace p22 := eq_true p22
            replace q22 := eq_true q22
            have p24 : 0 ≤ (x3_2 : Int) := od_
            have q24 : x3_2 < (a0.size : Int) := od_
            have hx24 := bt_at a0 x3_2
            replace p24 := eq_true p24
            replace q24 := eq_true q24
            have p28 : 0 ≤ (x3_2 : Int) := od_
            have q28 : x3_2 < (a0.size : Int) := od_
            have hx28 := bt_at a0 x3_2
            replace p28 := eq_true p28
            replace q28 := eq_true q28
            go_wp2
            go_roundg k2
            case measure => have := HJ1.out; have := HK2.out; omega
            case rel => exact ⟨(wrap64 (x3_2 + 1)), fr_, H', ⟨by have := HJ1.out; have := HK2.out; omega⟩, by repeat (first | exact Drawn0.refl _ | apply Drawn0.step)⟩
         ·rw [if_neg c23] at H
          have c23b0 : decide (122 < (bt a0 x3_2)) = false := decide_eq_false c23
          clear c23
          have H' := ak_ H
          clear H
          have p12 : 0 ≤ (x3_2 : Int) := od_
          have q12 : x3_2 < (a0.size : Int) := od_
          have hx12 := bt_at a0 x3_2
          replace p12 := eq_true p12
          replace q12 := eq_true q12
          have p22 : 0 ≤ (x3_2 : Int) := od_
          have q22 : x3_2 < (a0.size : Int) := od_
          have hx22 := bt_at a0 x3_2
          replace p22 := eq_true p22
          replace q22 := eq_true q22
          go_wp2
          go_roundg k2
          case measure => have := HJ1.out; have := HK2.out; omega
          case rel => exact ⟨(wrap64 (x3_2 + 1)), fr_, H', ⟨by have := HJ1.out; have := HK2.out; omega⟩, by repeat (first | exact Drawn0.refl _ | apply Drawn0.step)⟩
       ·rw [if_neg c11] at H
        exact absurd H (by simp)
      ·rw [if_neg c10] at H
       have c10b0 : decide (x3_2 < (a0.size : Int)) = false := decide_eq_false c10
       clear c10
       obtain rfl := Option.some.inj H
       go_wp2
       go_ret
       exact ⟨by first | rfl | (simp; done) | (simp [*]; done), by repeat (first | exact Drawn0.refl _ | apply Drawn0.step)⟩

/-! ### impl_within: function 99 -/
def impl_within.f (a0 : Int) (a1 : Int) (a2 : Int) : Option (Bool) := if a0 ≥ a1 then (some (decide (a0 ≤ a2))) else (some false)
set_option maxHeartbeats 8000000 in
set_option maxRecDepth 100000 in
theorem impl_within.calls (a0 : Int) (a1 : Int) (a2 : Int) (r : Bool) (w : World) (h : impl_within.f a0 a1 a2 = some r) :
  Calls Try.prog 99 #[.int .i64 a0, .int .i64 a1, .int .i64 a2] w fun e w' => e = .returned (.bool r) ∧ Drawn0 w w' := by
 have H : (if a0 ≥ a1 then (some (decide (a0 ≤ a2))) else (some false)) = some r := h
 clear h
 by_cases c4 : a0 ≥ a1
 ·rw [if_pos c4] at H
  have c4b0 : decide (a1 ≤ a0) = true := dt_ c4
  clear c4
  obtain rfl := Option.some.inj H
  go_enter Try.func99, Try.ntmps99
  go_wp2
  go_ret
  exact ⟨by first | rfl | (simp; done) | (simp [*]; done), by repeat (first | exact Drawn0.refl _ | apply Drawn0.step)⟩
 ·rw [if_neg c4] at H
  have c4b0 : decide (a1 ≤ a0) = false := decide_eq_false c4
  clear c4
  obtain rfl := Option.some.inj H
  go_enter Try.func99, Try.ntmps99
  go_wp2
  go_ret
  exact ⟨by first | rfl | (simp; done) | (simp [*]; done), by repeat (first | exact Drawn0.refl _ | apply Drawn0.step)⟩

/-! ### impl_validGear: function 87 -/
def impl_validGear.f (k : Nat) (a0_0 : ByteArray) (a0_1 : Int) (a0_2 : Int) (a0_3 : Int) : Option (Bool) := (impl_IsName.f k a0_0).bind fun t399 => (if t399 = true then ((impl_within.f a0_1 0 20000).bind fun t400 => (if t400 = true then ((impl_within.f a0_2 0 1000).bind fun t401 => (if t401 = true then ((impl_within.f a0_3 1 1000000).bind fun t402 => (some t402)) else (some false))) else (some false))) else (some false))
set_option maxHeartbeats 8000000 in
set_option maxRecDepth 100000 in
theorem impl_validGear.calls (k : Nat) (a0_0 : ByteArray) (a0_1 : Int) (a0_2 : Int) (a0_3 : Int) (r : Bool) (w : World) (h : impl_validGear.f k a0_0 a0_1 a0_2 a0_3 = some r) :
  Calls Try.prog 87 #[.agg #[.string a0_0, .int .i64 a0_1, .int .i64 a0_2, .int .i64 a0_3]] w fun e w' => e = .returned (.bool r) ∧ Below w.heap.size w w' := by
 have hu72 := Try.underlying72
 have HB := ak_ (Below.refl w.heap.size w)
 have H : ((impl_IsName.f k a0_0).bind fun t399 => (if t399 = true then ((impl_within.f a0_1 0 20000).bind fun t400 => (if t400 = true then ((impl_within.f a0_2 0 1000).bind fun t401 => (if t401 = true then ((impl_within.f a0_3 1 1000000).bind fun t402 => (some t402)) else (some false))) else (some false))) else (some false))) = some r := h
 clear h
 replace H := ob_ H
 obtain ⟨t399, A20, H⟩ := H
 replace H : (if t399 = true then ((impl_within.f a0_1 0 20000).bind fun t400 => (if t400 = true then ((impl_within.f a0_2 0 1000).bind fun t401 => (if t401 = true then ((impl_within.f a0_3 1 1000000).bind fun t402 => (some t402)) else (some false))) else (some false))) else (some false)) = some r := H
 have A2 := ak_ A20
 clear A20
 by_cases c3 : t399 = true
 ·subst c3
  have H1 : ((impl_within.f a0_1 0 20000).bind fun t400 => (if t400 = true then ((impl_within.f a0_2 0 1000).bind fun t401 => (if t401 = true then ((impl_within.f a0_3 1 1000000).bind fun t402 => (some t402)) else (some false))) else (some false))) = some r := by rw [if_pos rfl] at H; exact H
  clear H
  have H := H1
  clear H1
  replace H := ob_ H
  obtain ⟨t400, A40, H⟩ := H
  replace H : (if t400 = true then ((impl_within.f a0_2 0 1000).bind fun t401 => (if t401 = true then ((impl_within.f a0_3 1 1000000).bind fun t402 => (some t402)) else (some false))) else (some false)) = some r := H
  have A4 := ak_ A40
  clear A40
  by_cases c5 : t400 = true
  ·subst c5
   have H1 : ((impl_within.f a0_2 0 1000).bind fun t401 => (if t401 = true then ((impl_within.f a0_3 1 1000000).bind fun t402 => (some t402)) else (some false))) = some r := by rw [if_pos rfl] at H; exact H
   clear H
   have H := H1
   clear H1
   replace H := ob_ H
   obtain ⟨t401, A60, H⟩ := H
   replace H : (if t401 = true then ((impl_within.f a0_3 1 1000000).bind fun t402 => (some t402)) else (some false)) = some r := H
   have A6 := ak_ A60
   clear A60
   by_cases c7 : t401 = true
   ·subst c7
    have H1 : ((impl_within.f a0_3 1 1000000).bind fun t402 => (some t402)) = some r := by rw [if_pos rfl] at H; exact H
    clear H
    have H := H1
    clear H1
    replace H := ob_ H
    obtain ⟨t402, A80, H⟩ := H
    replace H : (some t402) = some r := H
    have A8 := ak_ A80
    clear A80
    obtain rfl := Option.some.inj H
    go_enter Try.func87, Try.ntmps87
    go_wp2_with (first | ((with_reducible refine gate_dst (N := 1) rfl ?_); refine box_event ?hg (N := 1) ?hd (cs := #[.string a0_0, .int .i64 a0_1, .int .i64 a0_2, .int .i64 a0_3]) (t := 72) ?hr ?_; (case hd => rfl); (case hg => rfl); (case hr => first | (go_simp; done) | (go_simp; rfl)); intro gb398 hg w9 hbox hb; have n0_ := ak_ (below_step hb_ hb); have n1_ := ak_ (hbox); have n2_ := ak_ ((by rw [hg]; exact (below_size hb_) : w.heap.size ≤ gb398)); have n3_ := ak_ ((by rw [hg]; exact (below_size hb_) : w.heap.size ≤ gb398)); clear HB; have HB := n0_; have BK398 := n1_; have GW398 := n2_; have GE398 := n3_; clear n0_ n1_ n2_ n3_; clear hb hbox hg; have hcz10_0 : w9.cell? ⟨gb398, 0, none⟩ = some (.string a0_0) := (blk_cell BK398.out 0).trans rfl; have hcz10_1 : w9.cell? ⟨gb398, 1, none⟩ = some (.int .i64 a0_1) := (blk_cell BK398.out 1).trans rfl; have hcz10_2 : w9.cell? ⟨gb398, 2, none⟩ = some (.int .i64 a0_2) := (blk_cell BK398.out 2).trans rfl; have hcz10_3 : w9.cell? ⟨gb398, 3, none⟩ = some (.int .i64 a0_3) := (blk_cell BK398.out 3).trans rfl; have hfz10_0 := blk_frozen BK398.out 0; have hfz10_1 := blk_frozen BK398.out 1; have hfz10_2 := blk_frozen BK398.out 2; have hfz10_3 := blk_frozen BK398.out 3) | ((with_reducible refine gate_callee (f := 98) rfl ?_); refine goesL_ (some 5) rfl rfl Try.func98 (by kernel_rfl) rfl #[.string a0_0] rfl ln_ ?_; (with_reducible refine (impl_IsName.calls k a0_0 true _ A2.out).mono ?_); rintro e w' ⟨rfl, ⟨nd, rfl⟩⟩; refine ⟨_, rfl, ?_⟩) | (go_at_call 99; (with_reducible refine (impl_within.calls a0_1 0 20000 true _ A4.out).mono ?_); rintro e w' ⟨rfl, ⟨nd, rfl⟩⟩) | (go_at_call 99; (with_reducible refine (impl_within.calls a0_2 0 1000 true _ A6.out).mono ?_); rintro e w' ⟨rfl, ⟨nd, rfl⟩⟩) | (go_at_call 99; (with_reducible refine (impl_within.calls a0_3 1 1000000 t402 _ A8.out).mono ?_); rintro e w' ⟨rfl, ⟨nd, rfl⟩⟩))
    go_ret
    exact ⟨ew_, (hg_ GE398)⟩
   ·replace c7 := Bool.eq_false_iff.mpr c7
    subst c7
    have H1 : (some false) = some r := by rw [if_neg (show ¬ (false = true) by decide)] at H; exact H
    clear H
    have H := H1
    clear H1
    obtain rfl := Option.some.inj H
    go_enter Try.func87, Try.ntmps87
    go_wp2_with (first | ((with_reducible refine gate_dst (N := 1) rfl ?_); refine box_event ?hg (N := 1) ?hd (cs := #[.string a0_0, .int .i64 a0_1, .int .i64 a0_2, .int .i64 a0_3]) (t := 72) ?hr ?_; (case hd => rfl); (case hg => rfl); (case hr => first | (go_simp; done) | (go_simp; rfl)); intro gb398 hg w11 hbox hb; have n0_ := ak_ (below_step hb_ hb); have n1_ := ak_ (hbox); have n2_ := ak_ ((by rw [hg]; exact (below_size hb_) : w.heap.size ≤ gb398)); have n3_ := ak_ ((by rw [hg]; exact (below_size hb_) : w.heap.size ≤ gb398)); clear HB; have HB := n0_; have BK398 := n1_; have GW398 := n2_; have GE398 := n3_; clear n0_ n1_ n2_ n3_; clear hb hbox hg; have hcz12_0 : w11.cell? ⟨gb398, 0, none⟩ = some (.string a0_0) := (blk_cell BK398.out 0).trans rfl; have hcz12_1 : w11.cell? ⟨gb398, 1, none⟩ = some (.int .i64 a0_1) := (blk_cell BK398.out 1).trans rfl; have hcz12_2 : w11.cell? ⟨gb398, 2, none⟩ = some (.int .i64 a0_2) := (blk_cell BK398.out 2).trans rfl; have hcz12_3 : w11.cell? ⟨gb398, 3, none⟩ = some (.int .i64 a0_3) := (blk_cell BK398.out 3).trans rfl; have hfz12_0 := blk_frozen BK398.out 0; have hfz12_1 := blk_frozen BK398.out 1; have hfz12_2 := blk_frozen BK398.out 2; have hfz12_3 := blk_frozen BK398.out 3) | ((with_reducible refine gate_callee (f := 98) rfl ?_); refine goesL_ (some 5) rfl rfl Try.func98 (by kernel_rfl) rfl #[.string a0_0] rfl ln_ ?_; (with_reducible refine (impl_IsName.calls k a0_0 true _ A2.out).mono ?_); rintro e w' ⟨rfl, ⟨nd, rfl⟩⟩; refine ⟨_, rfl, ?_⟩) | (go_at_call 99; (with_reducible refine (impl_within.calls a0_1 0 20000 true _ A4.out).mono ?_); rintro e w' ⟨rfl, ⟨nd, rfl⟩⟩) | (go_at_call 99; (with_reducible refine (impl_within.calls a0_2 0 1000 false _ A6.out).mono ?_); rintro e w' ⟨rfl, ⟨nd, rfl⟩⟩))
    go_ret
    exact ⟨ew_, (hg_ GE398)⟩
  ·replace c5 := Bool.eq_false_iff.mpr c5
   subst c5
   have H1 : (some false) = some r := by rw [if_neg (show ¬ (false = true) by decide)] at H; exact H
   clear H
   have H := H1
   clear H1
   obtain rfl := Option.some.inj H
   go_enter Try.func87, Try.ntmps87
   go_wp2_with (first | ((with_reducible refine gate_dst (N := 1) rfl ?_); refine box_event ?hg (N := 1) ?hd (cs := #[.string a0_0, .int .i64 a0_1, .int .i64 a0_2, .int .i64 a0_3]) (t := 72) ?hr ?_; (case hd => rfl); (case hg => rfl); (case hr => first | (go_simp; done) | (go_simp; rfl)); intro gb398 hg w13 hbox hb; have n0_ := ak_ (below_step hb_ hb); have n1_ := ak_ (hbox); have n2_ := ak_ ((by rw [hg]; exact (below_size hb_) : w.heap.size ≤ gb398)); have n3_ := ak_ ((by rw [hg]; exact (below_size hb_) : w.heap.size ≤ gb398)); clear HB; have HB := n0_; have BK398 := n1_; have GW398 := n2_; have GE398 := n3_; clear n0_ n1_ n2_ n3_; clear hb hbox hg; have hcz14_0 : w13.cell? ⟨gb398, 0, none⟩ = some (.string a0_0) := (blk_cell BK398.out 0).trans rfl; have hcz14_1 : w13.cell? ⟨gb398, 1, none⟩ = some (.int .i64 a0_1) := (blk_cell BK398.out 1).trans rfl; have hcz14_2 : w13.cell? ⟨gb398, 2, none⟩ = some (.int .i64 a0_2) := (blk_cell BK398.out 2).trans rfl; have hcz14_3 : w13.cell? ⟨gb398, 3, none⟩ = some (.int .i64 a0_3) := (blk_cell BK398.out 3).trans rfl; have hfz14_0 := blk_frozen BK398.out 0; have hfz14_1 := blk_frozen BK398.out 1; have hfz14_2 := blk_frozen BK398.out 2; have hfz14_3 := blk_frozen BK398.out 3) | ((with_reducible refine gate_callee (f := 98) rfl ?_); refine goesL_ (some 5) rfl rfl Try.func98 (by kernel_rfl) rfl #[.string a0_0] rfl ln_ ?_; (with_reducible refine (impl_IsName.calls k a0_0 true _ A2.out).mono ?_); rintro e w' ⟨rfl, ⟨nd, rfl⟩⟩; refine ⟨_, rfl, ?_⟩) | (go_at_call 99; (with_reducible refine (impl_within.calls a0_1 0 20000 false _ A4.out).mono ?_); rintro e w' ⟨rfl, ⟨nd, rfl⟩⟩))
   go_ret
   exact ⟨ew_, (hg_ GE398)⟩
 ·replace c3 := Bool.eq_false_iff.mpr c3
  subst c3
  have H1 : (some false) = some r := by rw [if_neg (show ¬ (false = true) by decide)] at H; exact H
  clear H
  have H := H1
  clear H1
  obtain rfl := Option.some.inj H
  go_enter Try.func87, Try.ntmps87
  go_wp2_with (first | ((with_reducible refine gate_dst (N := 1) rfl ?_); refine box_event ?hg (N := 1) ?hd (cs := #[.string a0_0, .int .i64 a0_1, .int .i64 a0_2, .int .i64 a0_3]) (t := 72) ?hr ?_; (case hd => rfl); (case hg => rfl); (case hr => first | (go_simp; done) | (go_simp; rfl)); intro gb398 hg w15 hbox hb; have n0_ := ak_ (below_step hb_ hb); have n1_ := ak_ (hbox); have n2_ := ak_ ((by rw [hg]; exact (below_size hb_) : w.heap.size ≤ gb398)); have n3_ := ak_ ((by rw [hg]; exact (below_size hb_) : w.heap.size ≤ gb398)); clear HB; have HB := n0_; have BK398 := n1_; have GW398 := n2_; have GE398 := n3_; clear n0_ n1_ n2_ n3_; clear hb hbox hg; have hcz16_0 : w15.cell? ⟨gb398, 0, none⟩ = some (.string a0_0) := (blk_cell BK398.out 0).trans rfl; have hcz16_1 : w15.cell? ⟨gb398, 1, none⟩ = some (.int .i64 a0_1) := (blk_cell BK398.out 1).trans rfl; have hcz16_2 : w15.cell? ⟨gb398, 2, none⟩ = some (.int .i64 a0_2) := (blk_cell BK398.out 2).trans rfl; have hcz16_3 : w15.cell? ⟨gb398, 3, none⟩ = some (.int .i64 a0_3) := (blk_cell BK398.out 3).trans rfl; have hfz16_0 := blk_frozen BK398.out 0; have hfz16_1 := blk_frozen BK398.out 1; have hfz16_2 := blk_frozen BK398.out 2; have hfz16_3 := blk_frozen BK398.out 3) | ((with_reducible refine gate_callee (f := 98) rfl ?_); refine goesL_ (some 5) rfl rfl Try.func98 (by kernel_rfl) rfl #[.string a0_0] rfl ln_ ?_; (with_reducible refine (impl_IsName.calls k a0_0 false _ A2.out).mono ?_); rintro e w' ⟨rfl, ⟨nd, rfl⟩⟩; refine ⟨_, rfl, ?_⟩))
  go_ret
  exact ⟨ew_, (hg_ GE398)⟩

/-! ### impl_ValidGear: function 44 -/
def impl_ValidGear.l0 : Nat → List (S72) → List (S72) → Int → Int → Option (Bool)
 | 0, _, _, _, _ => none
 | k + 1, x0, x8, x9, x10 => if x10 < x9 then (if 0 ≤ x10 then (if x10 < (x8.length : Int) then ((impl_validGear.f k ((rd_T72 x8 x10).f0) ((rd_T72 x8 x10).f1) ((rd_T72 x8 x10).f2) ((rd_T72 x8 x10).f3)).bind fun t405 => (if t405 = true then (if x10 ≤ (x0.length : Int) then ((impl_gearNamed.f (x0.take (x10 : Int).toNat) ((rd_T72 x8 x10).f0)).bind fun t410 => (if t410 ≥ 0 then (some false) else (impl_ValidGear.l0 k x0 x8 x9 (wrap64 (x10 + 1))))) else (none)) else (some false))) else (none)) else (none)) else (some true)
def impl_ValidGear.f (k : Nat) (l0 : List (S72)) : Option (Bool) := if (l0.length : Int) > 40 then (some false) else (impl_ValidGear.l0 k l0 l0 (l0.length : Int) 0)
def impl_ValidGear.T6 : Bool × List (List Nat × List Nat) := (true, [([], []), ([0], [0]), ([1], [1]), ([2, 1], [2]), ([3], [3]), ([3], [3]), ([4, 5, 3], [3, 4, 5]), ([3], [3]), ([7, 3], [3, 7]), ([6, 8, 3, 3], [3, 6, 8]), ([9, 3], [3, 9]), ([3, 10], [3, 10])])
def impl_ValidGear.B6 : List Nat := [0, 1, 3, 7, 15, 15, 63, 15, 143, 511, 1023, 2047]
theorem impl_ValidGear.tab6 : rtab .any (opsOf Try.f44 6) = impl_ValidGear.T6 := by kernel_rfl
theorem impl_ValidGear.bits6 : waitsOk impl_ValidGear.T6.2 impl_ValidGear.B6 = true := by kernel_rfl
set_option maxHeartbeats 8000000 in
set_option maxRecDepth 100000 in
theorem impl_ValidGear.calls (k : Nat) (A0 : Option Addr) (c0 : Nat) (l0 : List (S72)) (r : Bool) (w : World) (hr0 : Kd.C k72 w A0 l0.length l0) (hc0 : l0.length ≤ c0) (h : impl_ValidGear.f k l0 = some r) :
  Calls Try.prog 44 #[.slice A0 l0.length c0] w fun e w' => e = .returned (.bool r) ∧ Below w.heap.size w w' := by
 have hu72 := Try.underlying72
 have HR0 := ak_ hr0
 have HC0 := ak_ hc0
 clear hr0 hc0
 have HB := ak_ (Below.refl w.heap.size w)
 have H : (if (l0.length : Int) > 40 then (some false) else (impl_ValidGear.l0 k l0 l0 (l0.length : Int) 0)) = some r := h
 clear h
 by_cases c2 : (l0.length : Int) > 40
 ·rw [if_pos c2] at H
  have c2b0 : decide (40 < (l0.length : Int)) = true := dt_ c2
  have c2b1 : decide (40 < l0.length) = true := dt_ (by omega)
  clear c2
  obtain rfl := Option.some.inj H
  go_enter Try.func44, Try.ntmps44
  go_wp2
  go_ret
  exact ⟨ew_, hb_⟩
 ·rw [if_neg c2] at H
  have c2b0 : decide (40 < (l0.length : Int)) = false := decide_eq_false c2
  have c2b1 : decide (40 < l0.length) = false := decide_eq_false (by omega)
  clear c2
  have H' := ak_ H
  clear H
  go_enter Try.func44, Try.ntmps44
  go_wp2
  go_loopg [10] k (fun kq v10 w' => ∃ (x10_1 : Int), v10 = .int .i64 x10_1 ∧ Aside0 (impl_ValidGear.l0 kq l0 l0 (l0.length : Int) x10_1 = some r) ∧ Aside0 (kq ≤ k) ∧ Aside0 (Below w.heap.size w w'))
  case atStart => exact ⟨(0), fr_, H', ⟨Nat.le_refl _⟩, ⟨hb_⟩⟩
  case round =>
   clear H'
   try clear c2
   try clear c2b0
   try clear c2b1
   try clear p2
   obtain ⟨x10_1, rfl, HA, HK1, HB⟩ := hrel
   cases gk with
   | zero => exact absurd HA.out (by simp [impl_ValidGear.l0])
   | succ k1 =>
    have H := HA.out
    clear HA
    simp only [impl_ValidGear.l0] at H
    by_cases c3 : x10_1 < (l0.length : Int)
    ·rw [if_pos c3] at H
     have c3b0 : decide (x10_1 < (l0.length : Int)) = true := dt_ c3
     clear c3
     by_cases c4 : 0 ≤ x10_1
     ·rw [if_pos c4] at H
      have c4b0 : decide (0 ≤ x10_1) = true := dt_ c4
      clear c4
      by_cases c5 : x10_1 < (l0.length : Int)
      ·rw [if_pos c5] at H
       have c5b0 : decide (x10_1 < (l0.length : Int)) = true := dt_ c5
       clear c5
       replace H := ob_ H
       obtain ⟨t405, A60, H⟩ := H
       replace H : (if t405 = true then (if x10_1 ≤ (l0.length : Int) then ((impl_gearNamed.f (l0.take (x10_1 : Int).toNat) ((rd_T72 l0 x10_1).f0)).bind fun t410 => (if t410 ≥ 0 then (some false) else (impl_ValidGear.l0 k1 l0 l0 (l0.length : Int) (wrap64 (x10_1 + 1))))) else (none)) else (some false)) = some r := H
       have A6 := ak_ A60
       clear A60
       by_cases c7 : t405 = true
       ·subst c7
        have H1 : (if x10_1 ≤ (l0.length : Int) then ((impl_gearNamed.f (l0.take (x10_1 : Int).toNat) ((rd_T72 l0 x10_1).f0)).bind fun t410 => (if t410 ≥ 0 then (some false) else (impl_ValidGear.l0 k1 l0 l0 (l0.length : Int) (wrap64 (x10_1 + 1))))) else (none)) = some r := by rw [if_pos rfl] at H; exact H
        clear H
        have H := H1
        clear H1
        have c8b0 := eq_true (od_ : 0 ≤ x10_1)
        by_cases c9 : x10_1 ≤ (l0.length : Int)
        ·rw [if_pos c9] at H
         have c9b0 := eq_true c9
         have c9b1 : decide (x10_1 ≤ (l0.length : Int)) = true := dt_ c9
         clear c9
         obtain ⟨y406, hy406⟩ : ∃ y_ : List (S72), y_ = (l0.take (x10_1 : Int).toNat) := ⟨_, rfl⟩
         replace H : ((impl_gearNamed.f y406 ((rd_T72 l0 x10_1).f0)).bind fun t410 => (if t410 ≥ 0 then (some false) else (impl_ValidGear.l0 k1 l0 l0 (l0.length : Int) (wrap64 (x10_1 + 1))))) = some r := by first | (rw [hy406]; with_reducible exact H) | (have H2_ := (Option.bind_some _ _).symm.trans H; rw [hy406]; with_reducible exact H2_) | (have H2_ := (Option.bind_some _ _).symm.trans H; with_reducible exact H2_) | with_reducible exact H | (rw [hy406]; exact H) | exact H
         have Ny406 := ak_ hy406
         clear hy406
         replace H := ob_ H
         obtain ⟨t410, A100, H⟩ := H
         replace H : (if t410 ≥ 0 then (some false) else (impl_ValidGear.l0 k1 l0 l0 (l0.length : Int) (wrap64 (x10_1 + 1)))) = some r := H
         have A10 := ak_ A100
         clear A100
         by_cases c11 : t410 ≥ 0
         ·rw [if_pos c11] at H
          have c11b0 : decide (0 ≤ t410) = true := dt_ c11
          clear c11
          obtain rfl := Option.some.inj H
          have p403 : 0 ≤ (x10_1 : Int) := od_
          have q403 : x10_1 < (l0.length : Int) := od_
          obtain ⟨ad403, e403, hx403_0, hx403_1, hx403_2, hx403_3⟩ := at_T72 HR0.out x10_1 p403 q403
          cases e403
          replace hx403_0 := cq_ HB hx403_0
          replace hx403_1 := cq_ HB hx403_1
          replace hx403_2 := cq_ HB hx403_2
          replace hx403_3 := cq_ HB hx403_3
          replace p403 := eq_true p403
          replace q403 := eq_true q403
          try go_wp2_with (first | ((with_reducible refine gate_dst (N := 4) rfl ?_); refine box_event ?hg (N := 4) ?hd (cs := #[.string (⟨#[]⟩ : ByteArray), .int .i64 0, .int .i64 0, .int .i64 0]) (t := 72) ?hr ?_; (case hd => rfl); (case hg => rfl); (case hr => first | (go_simp; done) | (go_simp; rfl)); intro gb404 hg w12 hbox hb; have n0_ := ak_ (below_step hb_ hb); have n1_ := ak_ (hbox); have n2_ := ak_ ((by rw [hg]; exact (below_size hb_) : w.heap.size ≤ gb404)); have n3_ := ak_ ((by rw [hg]; exact (below_size hb_) : w.heap.size ≤ gb404)); clear HB; have HB := n0_; have BK404 := n1_; have GW404 := n2_; have GE404 := n3_; clear n0_ n1_ n2_ n3_; clear hb hbox hg; have hcz13_0 : w12.cell? ⟨gb404, 0, none⟩ = some (.string (⟨#[]⟩ : ByteArray)) := (blk_cell BK404.out 0).trans rfl; have hcz13_1 : w12.cell? ⟨gb404, 1, none⟩ = some (.int .i64 0) := (blk_cell BK404.out 1).trans rfl; have hcz13_2 : w12.cell? ⟨gb404, 2, none⟩ = some (.int .i64 0) := (blk_cell BK404.out 2).trans rfl; have hcz13_3 : w12.cell? ⟨gb404, 3, none⟩ = some (.int .i64 0) := (blk_cell BK404.out 3).trans rfl; have hfz13_0 := blk_frozen BK404.out 0; have hfz13_1 := blk_frozen BK404.out 1; have hfz13_2 := blk_frozen BK404.out 2; have hfz13_3 := blk_frozen BK404.out 3))
          have n0_ : Aside0 (((((w12.setCell ⟨gb404, 0, none⟩ (.string ((rd_T72 l0 x10_1).f0))).setCell ⟨gb404, 1, none⟩ (.int .i64 ((rd_T72 l0 x10_1).f1))).setCell ⟨gb404, 2, none⟩ (.int .i64 ((rd_T72 l0 x10_1).f2))).setCell ⟨gb404, 3, none⟩ (.int .i64 ((rd_T72 l0 x10_1).f3))).heap[gb404]? = some (.cells #[.string ((rd_T72 l0 x10_1).f0), .int .i64 ((rd_T72 l0 x10_1).f1), .int .i64 ((rd_T72 l0 x10_1).f2), .int .i64 ((rd_T72 l0 x10_1).f3)] 72 (0, 0))) := ⟨by (with_reducible repeat (first | refine blk_drewN ?_ _ | refine blk_drew ?_ | refine blk_alloc ?_ _)); refine blk_put (cs := #[.string ((rd_T72 l0 x10_1).f0), .int .i64 ((rd_T72 l0 x10_1).f1), .int .i64 ((rd_T72 l0 x10_1).f2), .int .i64 0]) ?_ 3 _ rfl; (with_reducible repeat (first | refine blk_drewN ?_ _ | refine blk_drew ?_ | refine blk_alloc ?_ _)); refine blk_put (cs := #[.string ((rd_T72 l0 x10_1).f0), .int .i64 ((rd_T72 l0 x10_1).f1), .int .i64 0, .int .i64 0]) ?_ 2 _ rfl; (with_reducible repeat (first | refine blk_drewN ?_ _ | refine blk_drew ?_ | refine blk_alloc ?_ _)); refine blk_put (cs := #[.string ((rd_T72 l0 x10_1).f0), .int .i64 0, .int .i64 0, .int .i64 0]) ?_ 1 _ rfl; (with_reducible repeat (first | refine blk_drewN ?_ _ | refine blk_drew ?_ | refine blk_alloc ?_ _)); refine blk_put (cs := #[.string (⟨#[]⟩ : ByteArray), .int .i64 0, .int .i64 0, .int .i64 0]) ?_ 0 _ rfl; (with_reducible repeat (first | refine blk_drewN ?_ _ | refine blk_drew ?_ | refine blk_alloc ?_ _)); exact BK404.out⟩
          have n1_ : Aside0 (Below w.heap.size w ((((w12.setCell ⟨gb404, 0, none⟩ (.string ((rd_T72 l0 x10_1).f0))).setCell ⟨gb404, 1, none⟩ (.int .i64 ((rd_T72 l0 x10_1).f1))).setCell ⟨gb404, 2, none⟩ (.int .i64 ((rd_T72 l0 x10_1).f2))).setCell ⟨gb404, 3, none⟩ (.int .i64 ((rd_T72 l0 x10_1).f3)))) := ⟨(hg_ GE404)⟩
          (try clear BK404)
          (try clear HB)
          generalize ((((w12.setCell ⟨gb404, 0, none⟩ (.string ((rd_T72 l0 x10_1).f0))).setCell ⟨gb404, 1, none⟩ (.int .i64 ((rd_T72 l0 x10_1).f1))).setCell ⟨gb404, 2, none⟩ (.int .i64 ((rd_T72 l0 x10_1).f2))).setCell ⟨gb404, 3, none⟩ (.int .i64 ((rd_T72 l0 x10_1).f3))) = w14 at n0_ n1_ ⊢
          have BK404 := n0_
          have HB := n1_
          clear n0_ n1_
          have n0_ := ak_ (blk_drew BK404.out)
          have n1_ := ak_ (below_drew1 HB.out)
          clear BK404
          clear HB
          have BK404 := n0_
          have HB := n1_
          clear n0_ n1_
          refine start_ (n := 12) (S := fun w' => w'.cell? ⟨gb404, 0, none⟩ = some (.string ((rd_T72 l0 x10_1).f0)) ∧ w'.cell? ⟨gb404, 1, none⟩ = some (.int .i64 ((rd_T72 l0 x10_1).f1)) ∧ w'.cell? ⟨gb404, 2, none⟩ = some (.int .i64 ((rd_T72 l0 x10_1).f2)) ∧ w'.cell? ⟨gb404, 3, none⟩ = some (.int .i64 ((rd_T72 l0 x10_1).f3))) (ds := []) #[F_,F_,F_,F_,F_,F_,F_,F_,F_,F_,F_,F_] (by kernel_rfl) rfl rfl ⟨(blk_cell BK404.out 0).trans rfl, (blk_cell BK404.out 1).trans rfl, (blk_cell BK404.out 2).trans rfl, (blk_cell BK404.out 3).trans rfl⟩ (fun hHeld => ?_); refine with_tabW impl_ValidGear.tab6 impl_ValidGear.bits6 (fun HT_ HW_ => ?_)
          generalize w14.drew = w15 at BK404 HB hHeld ⊢
          refine take_ (i := 0) (N := some 15) (v := ?_) (a' := ?_) #[T_,F_,F_,F_,F_,F_,F_,F_,F_,F_,F_,F_] rfl rfl (take_ofW HT_.out HW_.out (by kernel_rfl)) (fun _ _ _ h => h) (Or.inl ⟨by rfl, ?_⟩) hHeld ?_ ?_
          rotate_left
          ·rintro w' ⟨s0, s1, s2, s3⟩
           go_simp
           with_reducible rfl
          rotate_left
          ·simp only [Act.put, sT_, s0_, sS_, i64_w, i32_w]
           rfl
          refine one_ (i := 1) (N := some 16) #[T_,T_,F_,F_,F_,F_,F_,F_,F_,F_,F_,F_] rfl rfl (one_of HT_.out (by kernel_rfl)) (by decide) (fun K hK => ?_)
          refine goes_ Try.func87 (by kernel_rfl) rfl #[.agg #[.string ((rd_T72 l0 x10_1).f0), .int .i64 ((rd_T72 l0 x10_1).f1), .int .i64 ((rd_T72 l0 x10_1).f2), .int .i64 ((rd_T72 l0 x10_1).f3)]] (by rfl) rfl rfl ln_ ?_
          with_reducible refine (impl_validGear.calls k1 ((rd_T72 l0 x10_1).f0) ((rd_T72 l0 x10_1).f1) ((rd_T72 l0 x10_1).f2) ((rd_T72 l0 x10_1).f3) true _ A6.out).mono ?_
          rintro e w16 ⟨rfl, hb⟩
          refine ⟨_, rfl, ?_⟩
          have n0_ := ak_ (blk_below (g := gb404) (o := .cells #[.string ((rd_T72 l0 x10_1).f0), .int .i64 ((rd_T72 l0 x10_1).f1), .int .i64 ((rd_T72 l0 x10_1).f2), .int .i64 ((rd_T72 l0 x10_1).f3)] 72 (0, 0)) (bk_ BK404) hb)
          have n1_ := ak_ (below_step (hg_ GE404) hb)
          clear BK404
          clear HB
          have BK404 := n0_
          have HB := n1_
          clear n0_ n1_
          (try clear hb)
          (try clear hb2)
          (try clear hk)
          (try clear hi)
          have q17 : (x10_1 : Int) ≤ ((l0.length : Int) : Int) := od_
          obtain ⟨i017, hi017, _, hsz17, _⟩ := info_parts info72
          have hroom17 : l0.length ≤ c0 := HC0.out
          have hC17 : Kd.C k72 _ (some ad403) l0.length l0 := HR0.out
          have hcut17 := cut_to (P := Try.prog) 53 72 .i64 Try.underlying53 hi017 (some ad403) l0.length c0 x10_1 (od_) q17 hroom17
          have hr17 := Kd.C_take (m := (x10_1 : Int).toNat) hC17 (by omega)
          have hy17 : y406.length = (x10_1 : Int).toNat := (by rw [Ny406.out, List.length_take]; omega)
          rw [← Ny406.out] at hr17
          rw [← hy17] at hcut17
          have HR409 := ak_ hr17
          have HC409 := ak_ (show y406.length ≤ c0 from by omega)
          clear hr17 hC17 hroom17 hi017 hsz17
          have KY17 := ak_ hy17
          clear hy17
          replace q17 := eq_true q17
          refine hK.out _ _ ⟨(blk_cell BK404.out 0).trans rfl, (blk_cell BK404.out 1).trans rfl, (blk_cell BK404.out 2).trans rfl, (blk_cell BK404.out 3).trans rfl⟩ (fun hHeld => ?_)
          clear hK K
          refine norm_ (a' := ?_) ?_ ?_
          rotate_left
          ·show Act.put _ (some 16) _ = _
           simp only [Act.put, sT_, s0_, sS_, i64_w, i32_w]
           rfl
          refine pu (i := 2) (N := some 17) #[T_,T_,T_,F_,F_,F_,F_,F_,F_,F_,F_,F_] HT_ ?_
          refine pu (i := 3) (N := some 18) #[T_,T_,T_,T_,F_,F_,F_,F_,F_,F_,F_,F_] HT_ ?_
          refine pu (i := 4) (N := some 19) #[T_,T_,T_,T_,T_,F_,F_,F_,F_,F_,F_,F_] HT_ ?_
          refine pu (i := 5) (N := some 20) #[T_,T_,T_,T_,T_,T_,F_,F_,F_,F_,F_,F_] HT_ ?_
          refine pu (i := 6) (N := some 21) #[T_,T_,T_,T_,T_,T_,T_,F_,F_,F_,F_,F_] HT_ ?_
          refine pu (i := 7) (N := some 22) #[T_,T_,T_,T_,T_,T_,T_,T_,F_,F_,F_,F_] HT_ ?_
          refine take_ (i := 8) (N := some 23) (v := ?_) (a' := ?_) #[T_,T_,T_,T_,T_,T_,T_,T_,T_,F_,F_,F_] rfl rfl (take_ofW HT_.out HW_.out (by kernel_rfl)) (fun _ _ _ h => h) (Or.inl ⟨by rfl, ?_⟩) hHeld ?_ ?_
          rotate_left
          ·rintro w' ⟨s0, s1, s2, s3⟩
           go_simp
           with_reducible rfl
          rotate_left
          ·simp only [Act.put, sT_, s0_, sS_, i64_w, i32_w]
           rfl
          refine one_ (i := 9) (N := some 24) #[T_,T_,T_,T_,T_,T_,T_,T_,T_,T_,F_,F_] rfl rfl (one_of HT_.out (by kernel_rfl)) (by decide) (fun K hK => ?_)
          refine goes_ Try.func77 (by kernel_rfl) rfl #[.slice (some ad403) y406.length c0, .string ((rd_T72 l0 x10_1).f0)] (by rfl) rfl rfl ln_ ?_
          with_reducible refine (impl_gearNamed.calls _ _ y406 ((rd_T72 l0 x10_1).f0) t410 _ ?side1 ?side2 A10.out).mono ?_
          (case side1 => exact kc_ (Kd.C_below HR409.out HB.out))
          (case side2 => exact HC409.out)
          rintro e w18 ⟨rfl, hb⟩
          refine ⟨_, rfl, ?_⟩
          have n0_ := ak_ (blk_below (g := gb404) (o := .cells #[.string ((rd_T72 l0 x10_1).f0), .int .i64 ((rd_T72 l0 x10_1).f1), .int .i64 ((rd_T72 l0 x10_1).f2), .int .i64 ((rd_T72 l0 x10_1).f3)] 72 (0, 0)) (bk_ BK404) hb)
          have n1_ := ak_ (below_step (hg_ GE404) hb)
          clear BK404
          clear HB
          have BK404 := n0_
          have HB := n1_
          clear n0_ n1_
          (try clear hb)
          (try clear hb2)
          (try clear hk)
          (try clear hi)
          refine hK.out _ _ ⟨(blk_cell BK404.out 0).trans rfl, (blk_cell BK404.out 1).trans rfl, (blk_cell BK404.out 2).trans rfl, (blk_cell BK404.out 3).trans rfl⟩ (fun hHeld => ?_)
          clear hK K
          refine norm_ (a' := ?_) ?_ ?_
          rotate_left
          ·show Act.put _ (some 24) _ = _
           simp only [Act.put, sT_, s0_, sS_, i64_w, i32_w]
           rfl
          refine pu (i := 10) (N := some 25) #[T_,T_,T_,T_,T_,T_,T_,T_,T_,T_,T_,F_] HT_ ?_
          refine pu (i := 11) (N := some 26) #[T_,T_,T_,T_,T_,T_,T_,T_,T_,T_,T_,T_] HT_ ?_
          refine done_ (done_of HT_.out (by kernel_rfl)) ?_
          try go_wp2
          go_ret
          exact ⟨ew_, (hg_ GE404)⟩
         ·rw [if_neg c11] at H
          have c11b0 : decide (0 ≤ t410) = false := decide_eq_false c11
          clear c11
          have H' := ak_ H
          clear H
          have p403 : 0 ≤ (x10_1 : Int) := od_
          have q403 : x10_1 < (l0.length : Int) := od_
          obtain ⟨ad403, e403, hx403_0, hx403_1, hx403_2, hx403_3⟩ := at_T72 HR0.out x10_1 p403 q403
          cases e403
          replace hx403_0 := cq_ HB hx403_0
          replace hx403_1 := cq_ HB hx403_1
          replace hx403_2 := cq_ HB hx403_2
          replace hx403_3 := cq_ HB hx403_3
          replace p403 := eq_true p403
          replace q403 := eq_true q403
          try go_wp2_with (first | ((with_reducible refine gate_dst (N := 4) rfl ?_); refine box_event ?hg (N := 4) ?hd (cs := #[.string (⟨#[]⟩ : ByteArray), .int .i64 0, .int .i64 0, .int .i64 0]) (t := 72) ?hr ?_; (case hd => rfl); (case hg => rfl); (case hr => first | (go_simp; done) | (go_simp; rfl)); intro gb404 hg w19 hbox hb; have n0_ := ak_ (below_step hb_ hb); have n1_ := ak_ (hbox); have n2_ := ak_ ((by rw [hg]; exact (below_size hb_) : w.heap.size ≤ gb404)); have n3_ := ak_ ((by rw [hg]; exact (below_size hb_) : w.heap.size ≤ gb404)); clear HB; have HB := n0_; have BK404 := n1_; have GW404 := n2_; have GE404 := n3_; clear n0_ n1_ n2_ n3_; clear hb hbox hg; have hcz20_0 : w19.cell? ⟨gb404, 0, none⟩ = some (.string (⟨#[]⟩ : ByteArray)) := (blk_cell BK404.out 0).trans rfl; have hcz20_1 : w19.cell? ⟨gb404, 1, none⟩ = some (.int .i64 0) := (blk_cell BK404.out 1).trans rfl; have hcz20_2 : w19.cell? ⟨gb404, 2, none⟩ = some (.int .i64 0) := (blk_cell BK404.out 2).trans rfl; have hcz20_3 : w19.cell? ⟨gb404, 3, none⟩ = some (.int .i64 0) := (blk_cell BK404.out 3).trans rfl; have hfz20_0 := blk_frozen BK404.out 0; have hfz20_1 := blk_frozen BK404.out 1; have hfz20_2 := blk_frozen BK404.out 2; have hfz20_3 := blk_frozen BK404.out 3))
          have n0_ : Aside0 (((((w19.setCell ⟨gb404, 0, none⟩ (.string ((rd_T72 l0 x10_1).f0))).setCell ⟨gb404, 1, none⟩ (.int .i64 ((rd_T72 l0 x10_1).f1))).setCell ⟨gb404, 2, none⟩ (.int .i64 ((rd_T72 l0 x10_1).f2))).setCell ⟨gb404, 3, none⟩ (.int .i64 ((rd_T72 l0 x10_1).f3))).heap[gb404]? = some (.cells #[.string ((rd_T72 l0 x10_1).f0), .int .i64 ((rd_T72 l0 x10_1).f1), .int .i64 ((rd_T72 l0 x10_1).f2), .int .i64 ((rd_T72 l0 x10_1).f3)] 72 (0, 0))) := ⟨by (with_reducible repeat (first | refine blk_drewN ?_ _ | refine blk_drew ?_ | refine blk_alloc ?_ _)); refine blk_put (cs := #[.string ((rd_T72 l0 x10_1).f0), .int .i64 ((rd_T72 l0 x10_1).f1), .int .i64 ((rd_T72 l0 x10_1).f2), .int .i64 0]) ?_ 3 _ rfl; (with_reducible repeat (first | refine blk_drewN ?_ _ | refine blk_drew ?_ | refine blk_alloc ?_ _)); refine blk_put (cs := #[.string ((rd_T72 l0 x10_1).f0), .int .i64 ((rd_T72 l0 x10_1).f1), .int .i64 0, .int .i64 0]) ?_ 2 _ rfl; (with_reducible repeat (first | refine blk_drewN ?_ _ | refine blk_drew ?_ | refine blk_alloc ?_ _)); refine blk_put (cs := #[.string ((rd_T72 l0 x10_1).f0), .int .i64 0, .int .i64 0, .int .i64 0]) ?_ 1 _ rfl; (with_reducible repeat (first | refine blk_drewN ?_ _ | refine blk_drew ?_ | refine blk_alloc ?_ _)); refine blk_put (cs := #[.string (⟨#[]⟩ : ByteArray), .int .i64 0, .int .i64 0, .int .i64 0]) ?_ 0 _ rfl; (with_reducible repeat (first | refine blk_drewN ?_ _ | refine blk_drew ?_ | refine blk_alloc ?_ _)); exact BK404.out⟩
          have n1_ : Aside0 (Below w.heap.size w ((((w19.setCell ⟨gb404, 0, none⟩ (.string ((rd_T72 l0 x10_1).f0))).setCell ⟨gb404, 1, none⟩ (.int .i64 ((rd_T72 l0 x10_1).f1))).setCell ⟨gb404, 2, none⟩ (.int .i64 ((rd_T72 l0 x10_1).f2))).setCell ⟨gb404, 3, none⟩ (.int .i64 ((rd_T72 l0 x10_1).f3)))) := ⟨(hg_ GE404)⟩
          (try clear BK404)
          (try clear HB)
          generalize ((((w19.setCell ⟨gb404, 0, none⟩ (.string ((rd_T72 l0 x10_1).f0))).setCell ⟨gb404, 1, none⟩ (.int .i64 ((rd_T72 l0 x10_1).f1))).setCell ⟨gb404, 2, none⟩ (.int .i64 ((rd_T72 l0 x10_1).f2))).setCell ⟨gb404, 3, none⟩ (.int .i64 ((rd_T72 l0 x10_1).f3))) = w21 at n0_ n1_ ⊢
          have BK404 := n0_
          have HB := n1_
          clear n0_ n1_
          have n0_ := ak_ (blk_drew BK404.out)
          have n1_ := ak_ (below_drew1 HB.out)
          clear BK404
          clear HB
          have BK404 := n0_
          have HB := n1_
          clear n0_ n1_
          refine start_ (n := 12) (S := fun w' => w'.cell? ⟨gb404, 0, none⟩ = some (.string ((rd_T72 l0 x10_1).f0)) ∧ w'.cell? ⟨gb404, 1, none⟩ = some (.int .i64 ((rd_T72 l0 x10_1).f1)) ∧ w'.cell? ⟨gb404, 2, none⟩ = some (.int .i64 ((rd_T72 l0 x10_1).f2)) ∧ w'.cell? ⟨gb404, 3, none⟩ = some (.int .i64 ((rd_T72 l0 x10_1).f3))) (ds := []) #[F_,F_,F_,F_,F_,F_,F_,F_,F_,F_,F_,F_] (by kernel_rfl) rfl rfl ⟨(blk_cell BK404.out 0).trans rfl, (blk_cell BK404.out 1).trans rfl, (blk_cell BK404.out 2).trans rfl, (blk_cell BK404.out 3).trans rfl⟩ (fun hHeld => ?_); refine with_tabW impl_ValidGear.tab6 impl_ValidGear.bits6 (fun HT_ HW_ => ?_)
          generalize w21.drew = w22 at BK404 HB hHeld ⊢
          refine take_ (i := 0) (N := some 15) (v := ?_) (a' := ?_) #[T_,F_,F_,F_,F_,F_,F_,F_,F_,F_,F_,F_] rfl rfl (take_ofW HT_.out HW_.out (by kernel_rfl)) (fun _ _ _ h => h) (Or.inl ⟨by rfl, ?_⟩) hHeld ?_ ?_
          rotate_left
          ·rintro w' ⟨s0, s1, s2, s3⟩
           go_simp
           with_reducible rfl
          rotate_left
          ·simp only [Act.put, sT_, s0_, sS_, i64_w, i32_w]
           rfl
          refine one_ (i := 1) (N := some 16) #[T_,T_,F_,F_,F_,F_,F_,F_,F_,F_,F_,F_] rfl rfl (one_of HT_.out (by kernel_rfl)) (by decide) (fun K hK => ?_)
          refine goes_ Try.func87 (by kernel_rfl) rfl #[.agg #[.string ((rd_T72 l0 x10_1).f0), .int .i64 ((rd_T72 l0 x10_1).f1), .int .i64 ((rd_T72 l0 x10_1).f2), .int .i64 ((rd_T72 l0 x10_1).f3)]] (by rfl) rfl rfl ln_ ?_
          with_reducible refine (impl_validGear.calls k1 ((rd_T72 l0 x10_1).f0) ((rd_T72 l0 x10_1).f1) ((rd_T72 l0 x10_1).f2) ((rd_T72 l0 x10_1).f3) true _ A6.out).mono ?_
          rintro e w23 ⟨rfl, hb⟩
          refine ⟨_, rfl, ?_⟩
          have n0_ := ak_ (blk_below (g := gb404) (o := .cells #[.string ((rd_T72 l0 x10_1).f0), .int .i64 ((rd_T72 l0 x10_1).f1), .int .i64 ((rd_T72 l0 x10_1).f2), .int .i64 ((rd_T72 l0 x10_1).f3)] 72 (0, 0)) (bk_ BK404) hb)
          have n1_ := ak_ (below_step (hg_ GE404) hb)
          clear BK404
          clear HB
          have BK404 := n0_
          have HB := n1_
          clear n0_ n1_
          (try clear hb)
          (try clear hb2)
          (try clear hk)
          (try clear hi)
          have q24 : (x10_1 : Int) ≤ ((l0.length : Int) : Int) := od_
          obtain ⟨i024, hi024, _, hsz24, _⟩ := info_parts info72
          have hroom24 : l0.length ≤ c0 := HC0.out
          have hC24 : Kd.C k72 _ (some ad403) l0.length l0 := HR0.out
          have hcut24 := cut_to (P := Try.prog) 53 72 .i64 Try.underlying53 hi024 (some ad403) l0.length c0 x10_1 (od_) q24 hroom24
          have hr24 := Kd.C_take (m := (x10_1 : Int).toNat) hC24 (by omega)
          have hy24 : y406.length = (x10_1 : Int).toNat := (by rw [Ny406.out, List.length_take]; omega)
          rw [← Ny406.out] at hr24
          rw [← hy24] at hcut24
          have HR409 := ak_ hr24
          have HC409 := ak_ (show y406.length ≤ c0 from by omega)
          clear hr24 hC24 hroom24 hi024 hsz24
          have KY24 := ak_ hy24
          clear hy24
          replace q24 := eq_true q24
          refine hK.out _ _ ⟨(blk_cell BK404.out 0).trans rfl, (blk_cell BK404.out 1).trans rfl, (blk_cell BK404.out 2).trans rfl, (blk_cell BK404.out 3).trans rfl⟩ (fun hHeld => ?_)
          clear hK K
          refine norm_ (a' := ?_) ?_ ?_
          rotate_left
          ·show Act.put _ (some 16) _ = _
           simp only [Act.put, sT_, s0_, sS_, i64_w, i32_w]
           rfl
          refine pu (i := 2) (N := some 17) #[T_,T_,T_,F_,F_,F_,F_,F_,F_,F_,F_,F_] HT_ ?_
          refine pu (i := 3) (N := some 18) #[T_,T_,T_,T_,F_,F_,F_,F_,F_,F_,F_,F_] HT_ ?_
          refine pu (i := 4) (N := some 19) #[T_,T_,T_,T_,T_,F_,F_,F_,F_,F_,F_,F_] HT_ ?_
          refine pu (i := 5) (N := some 20) #[T_,T_,T_,T_,T_,T_,F_,F_,F_,F_,F_,F_] HT_ ?_
          refine pu (i := 6) (N := some 21) #[T_,T_,T_,T_,T_,T_,T_,F_,F_,F_,F_,F_] HT_ ?_
          refine pu (i := 7) (N := some 22) #[T_,T_,T_,T_,T_,T_,T_,T_,F_,F_,F_,F_] HT_ ?_
          refine take_ (i := 8) (N := some 23) (v := ?_) (a' := ?_) #[T_,T_,T_,T_,T_,T_,T_,T_,T_,F_,F_,F_] rfl rfl (take_ofW HT_.out HW_.out (by kernel_rfl)) (fun _ _ _ h => h) (Or.inl ⟨by rfl, ?_⟩) hHeld ?_ ?_
          rotate_left
          ·rintro w' ⟨s0, s1, s2, s3⟩
           go_simp
           with_reducible rfl
          rotate_left
          ·simp only [Act.put, sT_, s0_, sS_, i64_w, i32_w]
           rfl
          refine one_ (i := 9) (N := some 24) #[T_,T_,T_,T_,T_,T_,T_,T_,T_,T_,F_,F_] rfl rfl (one_of HT_.out (by kernel_rfl)) (by decide) (fun K hK => ?_)
          refine goes_ Try.func77 (by kernel_rfl) rfl #[.slice (some ad403) y406.length c0, .string ((rd_T72 l0 x10_1).f0)] (by rfl) rfl rfl ln_ ?_
          with_reducible refine (impl_gearNamed.calls _ _ y406 ((rd_T72 l0 x10_1).f0) t410 _ ?side1 ?side2 A10.out).mono ?_
          (case side1 => exact kc_ (Kd.C_below HR409.out HB.out))
          (case side2 => exact HC409.out)
          rintro e w25 ⟨rfl, hb⟩
          refine ⟨_, rfl, ?_⟩
          have n0_ := ak_ (blk_below (g := gb404) (o := .cells #[.string ((rd_T72 l0 x10_1).f0), .int .i64 ((rd_T72 l0 x10_1).f1), .int .i64 ((rd_T72 l0 x10_1).f2), .int .i64 ((rd_T72 l0 x10_1).f3)] 72 (0, 0)) (bk_ BK404) hb)
          have n1_ := ak_ (below_step (hg_ GE404) hb)
          clear BK404
          clear HB
          have BK404 := n0_
          have HB := n1_
          clear n0_ n1_
          (try clear hb)
          (try clear hb2)
          (try clear hk)
          (try clear hi)
          refine hK.out _ _ ⟨(blk_cell BK404.out 0).trans rfl, (blk_cell BK404.out 1).trans rfl, (blk_cell BK404.out 2).trans rfl, (blk_cell BK404.out 3).trans rfl⟩ (fun hHeld => ?_)
          clear hK K
          refine norm_ (a' := ?_) ?_ ?_
          rotate_left
          ·show Act.put _ (some 24) _ = _
           simp only [Act.put, sT_, s0_, sS_, i64_w, i32_w]
           rfl
          refine pu (i := 10) (N := some 25) #[T_,T_,T_,T_,T_,T_,T_,T_,T_,T_,T_,F_] HT_ ?_
          refine pu (i := 11) (N := some 26) #[T_,T_,T_,T_,T_,T_,T_,T_,T_,T_,T_,T_] HT_ ?_
          refine done_ (done_of HT_.out (by kernel_rfl)) ?_
          try go_wp2
          go_roundg k1
          case measure => have := HK1.out; omega
          case rel => exact ⟨(wrap64 (x10_1 + 1)), fr_, H', ⟨by have := HK1.out; omega⟩, ⟨(hg_ GE404)⟩⟩
        ·rw [if_neg c9] at H
         exact absurd H (by simp)
       ·replace c7 := Bool.eq_false_iff.mpr c7
        subst c7
        have H1 : (some false) = some r := by rw [if_neg (show ¬ (false = true) by decide)] at H; exact H
        clear H
        have H := H1
        clear H1
        obtain rfl := Option.some.inj H
        have p403 : 0 ≤ (x10_1 : Int) := od_
        have q403 : x10_1 < (l0.length : Int) := od_
        obtain ⟨ad403, e403, hx403_0, hx403_1, hx403_2, hx403_3⟩ := at_T72 HR0.out x10_1 p403 q403
        cases e403
        replace hx403_0 := cq_ HB hx403_0
        replace hx403_1 := cq_ HB hx403_1
        replace hx403_2 := cq_ HB hx403_2
        replace hx403_3 := cq_ HB hx403_3
        replace p403 := eq_true p403
        replace q403 := eq_true q403
        try go_wp2_with (first | ((with_reducible refine gate_dst (N := 4) rfl ?_); refine box_event ?hg (N := 4) ?hd (cs := #[.string (⟨#[]⟩ : ByteArray), .int .i64 0, .int .i64 0, .int .i64 0]) (t := 72) ?hr ?_; (case hd => rfl); (case hg => rfl); (case hr => first | (go_simp; done) | (go_simp; rfl)); intro gb404 hg w26 hbox hb; have n0_ := ak_ (below_step hb_ hb); have n1_ := ak_ (hbox); have n2_ := ak_ ((by rw [hg]; exact (below_size hb_) : w.heap.size ≤ gb404)); have n3_ := ak_ ((by rw [hg]; exact (below_size hb_) : w.heap.size ≤ gb404)); clear HB; have HB := n0_; have BK404 := n1_; have GW404 := n2_; have GE404 := n3_; clear n0_ n1_ n2_ n3_; clear hb hbox hg; have hcz27_0 : w26.cell? ⟨gb404, 0, none⟩ = some (.string (⟨#[]⟩ : ByteArray)) := (blk_cell BK404.out 0).trans rfl; have hcz27_1 : w26.cell? ⟨gb404, 1, none⟩ = some (.int .i64 0) := (blk_cell BK404.out 1).trans rfl; have hcz27_2 : w26.cell? ⟨gb404, 2, none⟩ = some (.int .i64 0) := (blk_cell BK404.out 2).trans rfl; have hcz27_3 : w26.cell? ⟨gb404, 3, none⟩ = some (.int .i64 0) := (blk_cell BK404.out 3).trans rfl; have hfz27_0 := blk_frozen BK404.out 0; have hfz27_1 := blk_frozen BK404.out 1; have hfz27_2 := blk_frozen BK404.out 2; have hfz27_3 := blk_frozen BK404.out 3))
        have n0_ : Aside0 (((((w26.setCell ⟨gb404, 0, none⟩ (.string ((rd_T72 l0 x10_1).f0))).setCell ⟨gb404, 1, none⟩ (.int .i64 ((rd_T72 l0 x10_1).f1))).setCell ⟨gb404, 2, none⟩ (.int .i64 ((rd_T72 l0 x10_1).f2))).setCell ⟨gb404, 3, none⟩ (.int .i64 ((rd_T72 l0 x10_1).f3))).heap[gb404]? = some (.cells #[.string ((rd_T72 l0 x10_1).f0), .int .i64 ((rd_T72 l0 x10_1).f1), .int .i64 ((rd_T72 l0 x10_1).f2), .int .i64 ((rd_T72 l0 x10_1).f3)] 72 (0, 0))) := ⟨by (with_reducible repeat (first | refine blk_drewN ?_ _ | refine blk_drew ?_ | refine blk_alloc ?_ _)); refine blk_put (cs := #[.string ((rd_T72 l0 x10_1).f0), .int .i64 ((rd_T72 l0 x10_1).f1), .int .i64 ((rd_T72 l0 x10_1).f2), .int .i64 0]) ?_ 3 _ rfl; (with_reducible repeat (first | refine blk_drewN ?_ _ | refine blk_drew ?_ | refine blk_alloc ?_ _)); refine blk_put (cs := #[.string ((rd_T72 l0 x10_1).f0), .int .i64 ((rd_T72 l0 x10_1).f1), .int .i64 0, .int .i64 0]) ?_ 2 _ rfl; (with_reducible repeat (first | refine blk_drewN ?_ _ | refine blk_drew ?_ | refine blk_alloc ?_ _)); refine blk_put (cs := #[.string ((rd_T72 l0 x10_1).f0), .int .i64 0, .int .i64 0, .int .i64 0]) ?_ 1 _ rfl; (with_reducible repeat (first | refine blk_drewN ?_ _ | refine blk_drew ?_ | refine blk_alloc ?_ _)); refine blk_put (cs := #[.string (⟨#[]⟩ : ByteArray), .int .i64 0, .int .i64 0, .int .i64 0]) ?_ 0 _ rfl; (with_reducible repeat (first | refine blk_drewN ?_ _ | refine blk_drew ?_ | refine blk_alloc ?_ _)); exact BK404.out⟩
        have n1_ : Aside0 (Below w.heap.size w ((((w26.setCell ⟨gb404, 0, none⟩ (.string ((rd_T72 l0 x10_1).f0))).setCell ⟨gb404, 1, none⟩ (.int .i64 ((rd_T72 l0 x10_1).f1))).setCell ⟨gb404, 2, none⟩ (.int .i64 ((rd_T72 l0 x10_1).f2))).setCell ⟨gb404, 3, none⟩ (.int .i64 ((rd_T72 l0 x10_1).f3)))) := ⟨(hg_ GE404)⟩
        (try clear BK404)
        (try clear HB)
        generalize ((((w26.setCell ⟨gb404, 0, none⟩ (.string ((rd_T72 l0 x10_1).f0))).setCell ⟨gb404, 1, none⟩ (.int .i64 ((rd_T72 l0 x10_1).f1))).setCell ⟨gb404, 2, none⟩ (.int .i64 ((rd_T72 l0 x10_1).f2))).setCell ⟨gb404, 3, none⟩ (.int .i64 ((rd_T72 l0 x10_1).f3))) = w28 at n0_ n1_ ⊢
        have BK404 := n0_
        have HB := n1_
        clear n0_ n1_
        have n0_ := ak_ (blk_drew BK404.out)
        have n1_ := ak_ (below_drew1 HB.out)
        clear BK404
        clear HB
        have BK404 := n0_
        have HB := n1_
        clear n0_ n1_
        refine start_ (n := 12) (S := fun w' => w'.cell? ⟨gb404, 0, none⟩ = some (.string ((rd_T72 l0 x10_1).f0)) ∧ w'.cell? ⟨gb404, 1, none⟩ = some (.int .i64 ((rd_T72 l0 x10_1).f1)) ∧ w'.cell? ⟨gb404, 2, none⟩ = some (.int .i64 ((rd_T72 l0 x10_1).f2)) ∧ w'.cell? ⟨gb404, 3, none⟩ = some (.int .i64 ((rd_T72 l0 x10_1).f3))) (ds := []) #[F_,F_,F_,F_,F_,F_,F_,F_,F_,F_,F_,F_] (by kernel_rfl) rfl rfl ⟨(blk_cell BK404.out 0).trans rfl, (blk_cell BK404.out 1).trans rfl, (blk_cell BK404.out 2).trans rfl, (blk_cell BK404.out 3).trans rfl⟩ (fun hHeld => ?_); refine with_tabW impl_ValidGear.tab6 impl_ValidGear.bits6 (fun HT_ HW_ => ?_)
        generalize w28.drew = w29 at BK404 HB hHeld ⊢
        refine take_ (i := 0) (N := some 15) (v := ?_) (a' := ?_) #[T_,F_,F_,F_,F_,F_,F_,F_,F_,F_,F_,F_] rfl rfl (take_ofW HT_.out HW_.out (by kernel_rfl)) (fun _ _ _ h => h) (Or.inl ⟨by rfl, ?_⟩) hHeld ?_ ?_
        rotate_left
        ·rintro w' ⟨s0, s1, s2, s3⟩
         go_simp
         with_reducible rfl
        rotate_left
        ·simp only [Act.put, sT_, s0_, sS_, i64_w, i32_w]
         rfl
        refine one_ (i := 1) (N := some 16) #[T_,T_,F_,F_,F_,F_,F_,F_,F_,F_,F_,F_] rfl rfl (one_of HT_.out (by kernel_rfl)) (by decide) (fun K hK => ?_)
        refine goes_ Try.func87 (by kernel_rfl) rfl #[.agg #[.string ((rd_T72 l0 x10_1).f0), .int .i64 ((rd_T72 l0 x10_1).f1), .int .i64 ((rd_T72 l0 x10_1).f2), .int .i64 ((rd_T72 l0 x10_1).f3)]] (by rfl) rfl rfl ln_ ?_
        with_reducible refine (impl_validGear.calls k1 ((rd_T72 l0 x10_1).f0) ((rd_T72 l0 x10_1).f1) ((rd_T72 l0 x10_1).f2) ((rd_T72 l0 x10_1).f3) false _ A6.out).mono ?_
        rintro e w30 ⟨rfl, hb⟩
        refine ⟨_, rfl, ?_⟩
        have n0_ := ak_ (blk_below (g := gb404) (o := .cells #[.string ((rd_T72 l0 x10_1).f0), .int .i64 ((rd_T72 l0 x10_1).f1), .int .i64 ((rd_T72 l0 x10_1).f2), .int .i64 ((rd_T72 l0 x10_1).f3)] 72 (0, 0)) (bk_ BK404) hb)
        have n1_ := ak_ (below_step (hg_ GE404) hb)
        clear BK404
        clear HB
        have BK404 := n0_
        have HB := n1_
        clear n0_ n1_
        (try clear hb)
        (try clear hb2)
        (try clear hk)
        (try clear hi)
        refine hK.out _ _ ⟨(blk_cell BK404.out 0).trans rfl, (blk_cell BK404.out 1).trans rfl, (blk_cell BK404.out 2).trans rfl, (blk_cell BK404.out 3).trans rfl⟩ (fun hHeld => ?_)
        clear hK K
        refine norm_ (a' := ?_) ?_ ?_
        rotate_left
        ·show Act.put _ (some 16) _ = _
         simp only [Act.put, sT_, s0_, sS_, i64_w, i32_w]
         rfl
        refine pu (i := 2) (N := some 17) #[T_,T_,T_,F_,F_,F_,F_,F_,F_,F_,F_,F_] HT_ ?_
        refine pu (i := 3) (N := some 18) #[T_,T_,T_,T_,F_,F_,F_,F_,F_,F_,F_,F_] HT_ ?_
        refine pn (i := 4) (N := some 19) #[T_,T_,T_,T_,T_,F_,F_,F_,F_,F_,F_,F_] HT_ ?_
        refine pn (i := 5) (N := some 20) #[T_,T_,T_,T_,T_,T_,F_,F_,F_,F_,F_,F_] HT_ ?_
        refine pn (i := 6) (N := some 21) #[T_,T_,T_,T_,T_,T_,T_,F_,F_,F_,F_,F_] HT_ ?_
        refine pn (i := 7) (N := some 22) #[T_,T_,T_,T_,T_,T_,T_,T_,F_,F_,F_,F_] HT_ ?_
        refine pn (i := 8) (N := some 23) #[T_,T_,T_,T_,T_,T_,T_,T_,T_,F_,F_,F_] HT_ ?_
        refine pn (i := 9) (N := some 24) #[T_,T_,T_,T_,T_,T_,T_,T_,T_,T_,F_,F_] HT_ ?_
        refine pn (i := 10) (N := some 25) #[T_,T_,T_,T_,T_,T_,T_,T_,T_,T_,T_,F_] HT_ ?_
        refine pu (i := 11) (N := some 26) #[T_,T_,T_,T_,T_,T_,T_,T_,T_,T_,T_,T_] HT_ ?_
        refine done_ (done_of HT_.out (by kernel_rfl)) ?_
        try go_wp2
        go_ret
        exact ⟨ew_, (hg_ GE404)⟩
      ·rw [if_neg c5] at H
       exact absurd H (by simp)
     ·rw [if_neg c4] at H
      exact absurd H (by simp)
    ·rw [if_neg c3] at H
     have c3b0 : decide (x10_1 < (l0.length : Int)) = false := decide_eq_false c3
     clear c3
     obtain rfl := Option.some.inj H
     go_wp2
     go_ret
     exact ⟨ew_, hb_⟩

end Go.Proofs.Ytfenjlkopofopaa.P
end
