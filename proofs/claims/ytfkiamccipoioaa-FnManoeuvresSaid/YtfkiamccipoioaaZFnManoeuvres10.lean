/- Texts of this claim, packed: Px33. -/
import Derived.Test.YtfkiamccipoioaaZFnManoeuvres9
section
-- Written by gprint.py (own program, over the printer of the kit) out of the translation. Lean checks it.
namespace Go.Proofs.Ytfkiamccipoioaa.P
open Go.RowKit Go.Proofs.YtfkiamccipoioaaW.PrintWords Go.Proofs.YtfkiamccipoioaaW.PrintLast Go.Proofs.YtfkiamccipoioaaW.PrintMore Go.Proofs.YtfkiamccipoioaaW.Pk
open Bool renaming true → T_, false → F_
open List renaming setIfInBounds_toArray → sT_, set_cons_zero → s0_, set_cons_succ → sS_
attribute [local go_sem] max2_int min2_int max_two min_two max_three min_three max_four min_four   -- for this text's walks alone
set_option linter.unusedVariables false
set_option linter.unusedSimpArgs false

/-! ### laws_a2At: function 46 -/
def laws_a2At.f (l0 : List Int) (a1 : Int) (a2 : Int) : Option (Int) := if a1 ≥ (l0.length : Int) then (some 0) else (if a2 < 1 then (some 0) else (if 0 ≤ a1 then (if a1 < (l0.length : Int) then (if a2 = 0 then (none) else (some (Int.tmod (wrap64 (rd l0 a1)) a2))) else (none)) else (none)))
set_option maxHeartbeats 8000000 in
set_option maxRecDepth 100000 in
theorem laws_a2At.calls (A0 : Option Addr) (c0 : Nat) (l0 : List Int) (a1 : Int) (a2 : Int) (r : Int) (w : World) (hr0 : Kd.C (Kd.int .u8) w A0 l0.length l0) (hc0 : l0.length ≤ c0) (h : laws_a2At.f l0 a1 a2 = some r) :
  Calls Try.prog 46 #[.slice A0 l0.length c0, .int .i64 a1, .int .i64 a2] w fun e w' => e = .returned (.int .i64 r) ∧ Drawn0 w w' := by
 have HR0 := Aside0.mk hr0
 have HC0 := Aside0.mk hc0
 clear hr0 hc0
 have H : (if a1 ≥ (l0.length : Int) then (some 0) else (if a2 < 1 then (some 0) else (if 0 ≤ a1 then (if a1 < (l0.length : Int) then (if a2 = 0 then (none) else (some (Int.tmod (wrap64 (rd l0 a1)) a2))) else (none)) else (none)))) = some r := h
 clear h
 by_cases c4 : a1 ≥ (l0.length : Int)
 ·rw [if_pos c4] at H
  have c4b0 : decide ((l0.length : Int) ≤ a1) = true := decide_eq_true c4
  clear c4
  obtain rfl := Option.some.inj H
  go_enter Try.func46, Try.ntmps46
  go_wp2
  go_ret
  exact ⟨by first | rfl | (simp; done) | (simp [*]; done), by repeat (first | exact Drawn0.refl _ | apply Drawn0.step)⟩
 ·rw [if_neg c4] at H
  have c4b0 : decide ((l0.length : Int) ≤ a1) = false := decide_eq_false c4
  clear c4
  by_cases c5 : a2 < 1
  ·rw [if_pos c5] at H
   have c5b0 : decide (a2 < 1) = true := decide_eq_true c5
   clear c5
   obtain rfl := Option.some.inj H
   go_enter Try.func46, Try.ntmps46
   go_wp2
   go_ret
   exact ⟨by first | rfl | (simp; done) | (simp [*]; done), by repeat (first | exact Drawn0.refl _ | apply Drawn0.step)⟩
  ·rw [if_neg c5] at H
   have c5b0 : decide (a2 < 1) = false := decide_eq_false c5
   clear c5
   by_cases c6 : 0 ≤ a1
   ·rw [if_pos c6] at H
    have c6b0 : decide (0 ≤ a1) = true := decide_eq_true c6
    clear c6
    by_cases c7 : a1 < (l0.length : Int)
    ·rw [if_pos c7] at H
     have c7b0 : decide (a1 < (l0.length : Int)) = true := decide_eq_true c7
     clear c7
     by_cases c8 : a2 = 0
     ·rw [if_pos c8] at H
      exact absurd H (by simp)
     ·rw [if_neg c8] at H
      have c8b0 : (a2 == 0) = false := beq_eq_false_iff_ne.mpr c8
      have c8b1 : (a2 != 0) = true := bne_iff_ne.mpr c8
      obtain rfl := Option.some.inj H
      have p801 : 0 ≤ (a1 : Int) := od_
      have q801 : a1 < (l0.length : Int) := od_
      obtain ⟨ad801, e801, hx801_0⟩ := Kd.at_int HR0.out a1 p801 q801
      cases e801
      replace p801 := eq_true p801
      replace q801 := eq_true q801
      go_enter Try.func46, Try.ntmps46
      go_wp2
      go_ret
      exact ⟨by first | rfl | (simp; done) | (simp [*]; done), by repeat (first | exact Drawn0.refl _ | apply Drawn0.step)⟩
    ·rw [if_neg c7] at H
     exact absurd H (by simp)
   ·rw [if_neg c6] at H
    exact absurd H (by simp)

/-! ### laws_FnManoeuvres: function 13 -/
mutual
def laws_FnManoeuvres.j2 : Nat → ByteArray → ByteArray → List Int → List Int → List (List Int) → Option (Bool)
 | 0, _, _, _, _, _ => none
 | k + 1, x6, x7, x8, x811000, x811001 => (impl_RunSteps.f k x811000 x811001 x6 x8).bind fun bt830 => ((impl_ShortestSteps.f k x811000 x811001 x6 x7).bind fun bt832 => (if bt830.2 = 0 then (if bt830.1.toList = x7.toList then (if bt832.2 = 0 then (if (bt832.1.length : Int) > (x8.length : Int) then (some false) else (if ((bt832.1.length : Int) % 2) = ((x8.length : Int) % 2) then ((impl_RunSteps.f k x811000 x811001 x6 bt832.1).bind fun bt836 => (if bt836.2 = 0 then (some (bt836.1.toList == x7.toList)) else (some false))) else (some false))) else (some false)) else (some false)) else (some false)))
def laws_FnManoeuvres.l0 : Nat → List Int → ByteArray → ByteArray → List Int → Int → List Int → List (List Int) → Option (Bool)
 | 0, _, _, _, _, _, _, _ => none
 | k + 1, x1, x6, x7, x8, x9, x811000, x811001 => if x9 < 7 then ((impl_ChangesOf.f k x811000 x811001 x7).bind fun bt814 => (if bt814.2 = 0 then ((laws_a2Rises.f k bt814.1 (x6.size : Int)).bind fun t818 => (laws_FnManoeuvres.j1 k x1 x6 x7 x8 x9 bt814.1 (!t818) x811000 x811001)) else (laws_FnManoeuvres.j1 k x1 x6 x7 x8 x9 bt814.1 true x811000 x811001))) else (laws_FnManoeuvres.j2 k x6 x7 x8 x811000 x811001)
def laws_FnManoeuvres.j1 : Nat → List Int → ByteArray → ByteArray → List Int → Int → List Int → Bool → List Int → List (List Int) → Option (Bool)
 | 0, _, _, _, _, _, _, _, _, _ => none
 | k + 1, x1, x6, x7, x8, x9, x10, x51, x811000, x811001 => if x51 = true then (some false) else (if (x10.length : Int) = 0 then (laws_FnManoeuvres.j2 k x6 x7 x8 x811000 x811001) else ((laws_a2At.f x1 x9 (x10.length : Int)).bind fun t819 => (if 0 ≤ t819 then (if t819 < (x10.length : Int) then ((impl_ChangeLine.f k x811000 x811001 x7 (rd x10 t819)).bind fun bt821 => ((impl_LooseYards.f k x811000 x811001 bt821.1).bind fun bt823 => (if bt821.2 = 0 then (if (bt821.1.size : Int) = (x6.size : Int) then (if bt823.2 = 0 then (if (bt823.1.length : Int) = 0 then (if x8.length < 17592186044416 then (laws_FnManoeuvres.l0 k x1 x6 bt821.1 (x8 ++ [rd x10 t819]) (wrap64 (x9 + 1)) x811000 x811001) else (none)) else (some false)) else (some false)) else (some false)) else (some false)))) else (none)) else (none))))
end
def laws_FnManoeuvres.f (k : Nat) (l0 : List Int) (l1 : List Int) : Option (Bool) := (laws_a2Long.f l0 l1).bind fun t802 => (if t802 = true then (some true) else ((spec_A2Deck.f k l0).bind fun bt803 => (laws_FnManoeuvres.l0 k l1 bt803.2.2 bt803.2.2 (([] : List Int)) 0 bt803.1 bt803.2.1)))
set_option maxHeartbeats 8000000 in
set_option maxRecDepth 100000 in
theorem laws_FnManoeuvres.calls (k : Nat) (A0 : Option Addr) (c0 : Nat) (l0 : List Int) (A1 : Option Addr) (c1 : Nat) (l1 : List Int) (r : Bool) (w : World) (hr0 : Kd.C (Kd.int .u8) w A0 l0.length l0) (hc0 : l0.length ≤ c0) (hr1 : Kd.C (Kd.int .u8) w A1 l1.length l1) (hc1 : l1.length ≤ c1) (h : laws_FnManoeuvres.f k l0 l1 = some r) :
  Calls Try.prog 13 #[.slice A0 l0.length c0, .slice A1 l1.length c1] w fun e w' => e = .returned (.bool r) ∧ Below w.heap.size w w' := by
 have hu28 := Try.underlying28
 have HR0 := Aside0.mk hr0
 have HC0 := Aside0.mk hc0
 clear hr0 hc0
 have HR1 := Aside0.mk hr1
 have HC1 := Aside0.mk hc1
 clear hr1 hc1
 have HB := Aside0.mk (Below.refl w.heap.size w)
 have H : ((laws_a2Long.f l0 l1).bind fun t802 => (if t802 = true then (some true) else ((spec_A2Deck.f k l0).bind fun bt803 => (laws_FnManoeuvres.l0 k l1 bt803.2.2 bt803.2.2 (([] : List Int)) 0 bt803.1 bt803.2.1)))) = some r := h
 clear h
 replace H := Option.bind_eq_some_iff.mp H
 obtain ⟨t802, A30, H⟩ := H
 replace H : (if t802 = true then (some true) else ((spec_A2Deck.f k l0).bind fun bt803 => (laws_FnManoeuvres.l0 k l1 bt803.2.2 bt803.2.2 (([] : List Int)) 0 bt803.1 bt803.2.1))) = some r := H
 have A3 := Aside0.mk A30
 clear A30
 by_cases c4 : t802 = true
 ·subst c4
  have H1 : (some true) = some r := by rw [if_pos rfl] at H; exact H
  clear H
  have H := H1
  clear H1
  obtain rfl := Option.some.inj H
  go_enter Try.func13, Try.ntmps13
  go_wp2_with (first | ((with_reducible refine gate_callee (f := 43) rfl ?_); refine goesL_ (some 25) rfl rfl Try.func43 (by kernel_rfl) rfl #[.slice A0 l0.length c0, .slice A1 l1.length c1] rfl ln_ ?_; (with_reducible refine (laws_a2Long.calls _ _ l0 _ _ l1 true _ ?side1 ?side2 ?side3 ?side4 A3.out).mono ?_); (case side1 => exact kc_ HR0.out); (case side2 => exact HC0.out); (case side3 => exact kc_ HR1.out); (case side4 => exact HC1.out); rintro e w' ⟨rfl, ⟨nd, rfl⟩⟩; refine ⟨_, rfl, ?_⟩))
  go_ret
  exact ⟨ew_, hb_⟩
 ·replace c4 := Bool.eq_false_iff.mpr c4
  subst c4
  have H1 : ((spec_A2Deck.f k l0).bind fun bt803 => (laws_FnManoeuvres.l0 k l1 bt803.2.2 bt803.2.2 (([] : List Int)) 0 bt803.1 bt803.2.1)) = some r := by rw [if_neg (show ¬ (false = true) by decide)] at H; exact H
  clear H
  have H := H1
  clear H1
  replace H := Option.bind_eq_some_iff.mp H
  obtain ⟨⟨t803, t806, t809⟩, A50, H⟩ := H
  replace H : (laws_FnManoeuvres.l0 k l1 t809 t809 (([] : List Int)) 0 t803 t806) = some r := H
  have A5 := Aside0.mk A50
  clear A50
  obtain ⟨y811, hy811⟩ : ∃ y_ : List Int, y_ = (([] : List Int)) := ⟨_, rfl⟩
  replace H : (laws_FnManoeuvres.l0 k l1 t809 t809 y811 0 t803 t806) = some r := by first | (rw [hy811]; with_reducible exact H) | (have H2_ := (Option.bind_some _ _).symm.trans H; rw [hy811]; with_reducible exact H2_) | (have H2_ := (Option.bind_some _ _).symm.trans H; with_reducible exact H2_) | with_reducible exact H | (rw [hy811]; exact H) | exact H
  have Ny811 := Aside0.mk hy811
  clear hy811
  have HC6 := Aside0.mk H
  clear H
  go_enter Try.func13, Try.ntmps13
  go_upto_block 0 with (first | ((with_reducible refine gate_callee (f := 43) rfl ?_); refine goesL_ (some 25) rfl rfl Try.func43 (by kernel_rfl) rfl #[.slice A0 l0.length c0, .slice A1 l1.length c1] rfl ln_ ?_; (with_reducible refine (laws_a2Long.calls _ _ l0 _ _ l1 false _ ?side1 ?side2 ?side3 ?side4 A3.out).mono ?_); (case side1 => exact kc_ HR0.out); (case side2 => exact HC0.out); (case side3 => exact kc_ HR1.out); (case side4 => exact HC1.out); rintro e w' ⟨rfl, ⟨nd, rfl⟩⟩; refine ⟨_, rfl, ?_⟩) | ((with_reducible refine gate_callee (f := 44) rfl ?_); refine goesL_ (some 28) rfl rfl Try.func44 (by kernel_rfl) rfl #[.slice A0 l0.length c0] rfl ln_ ?_; (with_reducible refine (spec_A2Deck.calls k _ _ l0 t803 t806 t809 _ ?side1 ?side2 A5.out).mono ?_); (case side1 => exact kc_ HR0.out); (case side2 => exact HC0.out); rintro e w7 ⟨v804, v807, rfl, ho0, ho1, hb⟩; refine ⟨_, rfl, ?_⟩; have n0_ := Aside0.mk (Kd.R_lower ho0 (below_size hb_)); have n1_ := Aside0.mk (Kd.S_lower ho1 (below_size hb_)); have n2_ := Aside0.mk (below_step hb_ hb); clear HB; have HO805 := n0_; have HO808 := n1_; have HB := n2_; clear n0_ n1_ n2_; (try clear hb); (try clear hb2); (try clear hk); (try clear hi); (try clear ho0); (try clear ho1)) | ((with_reducible refine gate_dst (N := 5) rfl ?_); (try (refine gate_guard (by rfl) ?_; dsimp only)); refine box_event ?hg (N := 5) ?hd (cs := #[.slice none 0 0, .slice none 0 0]) (t := 28) ?hr ?_; (case hd => rfl); (case hg => rfl); (case hr => first | (go_simp; done) | (go_simp; rfl)); intro gb810 hg w8 hbox hb; have n0_ := Aside0.mk (Kd.R_below (kr_ HO805) hb); have n1_ := Aside0.mk (Kd.S_below (by (with_reducible repeat (first | apply Kd.S_alloc | apply Kd.S_drewN | apply Kd.S_drew)); exact HO808.out) hb); have n2_ := Aside0.mk (below_step hb_ hb); have n3_ := Aside0.mk (hbox); have n4_ := Aside0.mk ((by rw [hg]; exact (below_size hb_) : w.heap.size ≤ gb810)); have n5_ := Aside0.mk ((by rw [hg]; exact (below_size hb_) : w.heap.size ≤ gb810)); clear HO805; clear HO808; clear HB; have HO805 := n0_; have HO808 := n1_; have HB := n2_; have BK810 := n3_; have GW810 := n4_; have GE810 := n5_; clear n0_ n1_ n2_ n3_ n4_ n5_; clear hb hbox hg; obtain ⟨Ao9, co9, eo9⟩ := Kd.R_slice HO805.out; subst eo9; have hcz10_0 : w8.cell? ⟨gb810, 0, none⟩ = some (.slice none 0 0) := (blk_cell BK810.out 0).trans rfl; have hcz10_1 : w8.cell? ⟨gb810, 1, none⟩ = some (.slice none 0 0) := (blk_cell BK810.out 1).trans rfl; have hfz10_0 := blk_frozen BK810.out 0; have hfz10_1 := blk_frozen BK810.out 1; obtain ⟨Ao11, co11, eo11⟩ := Kd.S_slice HO808.out; subst eo11) | ((with_reducible refine gate_dst (N := 32) rfl ?_); (try (refine gate_guard (by rfl) ?_; dsimp only)); refine Kd.R_lit (Kd.int .i64) _ 2 ?hg (N := 32) ?hd (xs := ([] : List Int)) (inner := []) (ok := fun _ => True) (okp := fun _ => True) ?hr ?hp (fun _ hk => hk) trivial (Below.refl _ _) (Nat.le_refl _) (by simp) ?_; (case hd => rfl); (case hg => rfl); (case hr => first | (go_simp; done) | (go_simp; rfl)); (case hp => exact (Reps.none _ _)); intro v812 w12 ho13 hb hg_ hnew_; clear hg_ hnew_; (first | rw [← Ny811.out] at ho13 | (simp only [Int.reduceToNat] at ho13; rw [← Ny811.out] at ho13)); have n0_ := Aside0.mk (Kd.R_elder' (by (with_reducible repeat (first | apply Kd.R_alloc | apply Kd.R_drewN | apply Kd.R_drew)); exact (Kd.R_mono (Kd.R_far (p := ⟨gb810, 1, none⟩) (Kd.R_far (p := ⟨gb810, 0, none⟩) (Kd.R_types HO805.out BK810.out (by decide)) (fun _ hk => hk.2) (.slice Ao9 t803.length co9)) (fun _ hk => hk.2) (.slice Ao11 t806.length co11)) (fun _ h_ => h_.1))) (Kd.R_base ho13) hb); have n1_ := Aside0.mk (Kd.S_elder' (by (with_reducible repeat (first | apply Kd.S_alloc | apply Kd.S_drewN | apply Kd.S_drew)); exact (Kd.S_mono (Kd.S_far (p := ⟨gb810, 1, none⟩) (Kd.S_far (p := ⟨gb810, 0, none⟩) (Kd.S_types HO808.out BK810.out (by decide)) (fun _ hk => hk.2) (.slice Ao9 t803.length co9)) (fun _ hk => hk.2) (.slice Ao11 t806.length co11)) (fun _ h_ => h_.1))) (Kd.R_base ho13) hb); have n2_ := Aside0.mk (Kd.R_lower (Kd.R_new' ho13 (Kd.R_lt (by (with_reducible repeat (first | apply Kd.R_alloc | apply Kd.R_drewN | apply Kd.R_drew)); exact (Kd.R_mono (Kd.R_far (p := ⟨gb810, 1, none⟩) (Kd.R_far (p := ⟨gb810, 0, none⟩) (Kd.R_types HO805.out BK810.out (by decide)) (fun _ hk => hk.2) (.slice Ao9 t803.length co9)) (fun _ hk => hk.2) (.slice Ao11 t806.length co11)) (fun _ h_ => h_.1))))) (below_size (hg_ GE810))); have n3_ := Aside0.mk (blk_below (g := gb810) (o := .cells #[.slice Ao9 t803.length co9, .slice Ao11 t806.length co11] 28 (0, 0)) (by (with_reducible repeat (first | refine blk_drewN ?_ _ | refine blk_drew ?_ | refine blk_alloc ?_ _)); refine blk_put (cs := #[.slice Ao9 t803.length co9, .slice none 0 0]) ?_ 1 _ rfl; (with_reducible repeat (first | refine blk_drewN ?_ _ | refine blk_drew ?_ | refine blk_alloc ?_ _)); refine blk_put (cs := #[.slice none 0 0, .slice none 0 0]) ?_ 0 _ rfl; (with_reducible repeat (first | refine blk_drewN ?_ _ | refine blk_drew ?_ | refine blk_alloc ?_ _)); exact BK810.out) hb); have n4_ := Aside0.mk (below_step (hg_ GE810) hb); clear HO805; clear HO808; clear BK810; clear HB; have HO805 := n0_; have HO808 := n1_; have HO813 := n2_; have BK810 := n3_; have HB := n4_; clear n0_ n1_ n2_ n3_ n4_; clear hb ho13))
  (try simp only [Act.put, List.setIfInBounds_toArray, List.set_cons_zero, List.set_cons_succ])
  go_cut [7, 8] (fun v7 v8 wc => ∃ (kq : Nat) (x7_5 : ByteArray) (x8_5 : List Int), v7 = .string x7_5 ∧ Aside0 (laws_FnManoeuvres.j2 kq t809 x7_5 x8_5 t803 t806 = some r) ∧ Aside0 (kq ≤ k) ∧ Aside0 (Kd.R (Kd.int .i64) 2 wc w.heap.size (fun k_ => some k_ ≠ ((.slice Ao9 t803.length co9) : Value).ownBlock) v8 x8_5) ∧ Aside0 (Kd.R (Kd.int .i64) 2 wc w.heap.size (fun k_ => some k_ ≠ (v8 : Value).ownBlock) (.slice Ao9 t803.length co9) t803) ∧ Aside0 (Kd.S (Kd.slice 2 (Kd.int .i64)) 22 wc w.heap.size (fun k_ => some k_ ≠ (v8 : Value).ownBlock ∧ some k_ ≠ ((.slice Ao9 t803.length co9) : Value).ownBlock) (.slice Ao11 t806.length co11) t806) ∧ Aside0 (wc.heap[gb810]? = some (.cells #[(.slice Ao9 t803.length co9), (.slice Ao11 t806.length co11)] 28 (0, 0))) ∧ Aside0 (Below w.heap.size w wc))
  case first =>
   have H := HC6.out
   clear HC6
   have H' := Aside0.mk H
   clear H
   go_wp2
   go_loopg [7, 8, 9] k (fun kq v7 v8 v9 w' => ∃ (x7_1 : ByteArray) (x8_1 : List Int) (x9_1 : Int), v7 = .string x7_1 ∧ v9 = .int .i64 x9_1 ∧ Aside0 (laws_FnManoeuvres.l0 kq l1 t809 x7_1 x8_1 x9_1 t803 t806 = some r) ∧ Aside0 (kq ≤ k) ∧ Aside0 (Kd.R (Kd.int .i64) 2 w' w.heap.size (fun k_ => some k_ ≠ ((.slice Ao9 t803.length co9) : Value).ownBlock) v8 x8_1) ∧ Aside0 (Kd.R (Kd.int .i64) 2 w' w.heap.size (fun k_ => some k_ ≠ (v8 : Value).ownBlock) (.slice Ao9 t803.length co9) t803) ∧ Aside0 (Kd.S (Kd.slice 2 (Kd.int .i64)) 22 w' w.heap.size (fun k_ => some k_ ≠ (v8 : Value).ownBlock ∧ some k_ ≠ ((.slice Ao9 t803.length co9) : Value).ownBlock) (.slice Ao11 t806.length co11) t806) ∧ Aside0 (w'.heap[gb810]? = some (.cells #[(.slice Ao9 t803.length co9), (.slice Ao11 t806.length co11)] 28 (0, 0))) ∧ Aside0 (Below w.heap.size w w'))
   case atStart => exact ⟨(t809), (y811), (0), (by first | rfl | (simp; done) | (simp [*]; done)), (by first | rfl | (simp; done) | (simp [*]; done)), H', ⟨Nat.le_refl _⟩, ⟨by (with_reducible repeat (first | apply Kd.R_alloc | apply Kd.R_drewN | apply Kd.R_drew)); exact Kd.R_mono HO813.out (fun _ hk => hk.2)⟩, ⟨by (with_reducible repeat (first | apply Kd.R_alloc | apply Kd.R_drewN | apply Kd.R_drew)); exact Kd.R_mono HO805.out (fun _ hk => hk.2)⟩, ⟨by (with_reducible repeat (first | apply Kd.S_alloc | apply Kd.S_drewN | apply Kd.S_drew)); exact Kd.S_mono HO808.out (fun _ hk => ⟨hk.2, hk.1⟩)⟩, ⟨by (with_reducible repeat (first | refine blk_drewN ?_ _ | refine blk_drew ?_ | refine blk_alloc ?_ _)); exact BK810.out⟩, ⟨(hg_ GE810)⟩⟩
   case round =>
    clear H'
    try clear c1
    try clear p2
    try clear c4
    try clear c13
    try clear hcz10_0
    try clear hcz10_1
    try clear hfz10_0
    try clear hfz10_1
    obtain ⟨x7_1, x8_1, x9_1, rfl, rfl, HA, HK1, HO_8, HO_811000, HO_811001, BK810, HB⟩ := hrel
    cases gk with
    | zero => exact absurd HA.out (by simp [laws_FnManoeuvres.l0])
    | succ k1 =>
     have H := HA.out
     clear HA
     simp only [laws_FnManoeuvres.l0] at H
     by_cases c14 : x9_1 < 7
     ·rw [if_pos c14] at H
      have c14b0 : decide (x9_1 < 7) = true := decide_eq_true c14
      clear c14
      (first | rw [c14b0] | (simp only [i64_w, i32_w]; rw [c14b0]) | skip)
      replace H := Option.bind_eq_some_iff.mp H
      obtain ⟨⟨t814, t817⟩, A150, H⟩ := H
      replace H : (if t817 = 0 then ((laws_a2Rises.f k1 t814 (t809.size : Int)).bind fun t818 => (laws_FnManoeuvres.j1 k1 l1 t809 x7_1 x8_1 x9_1 t814 (!t818) t803 t806)) else (laws_FnManoeuvres.j1 k1 l1 t809 x7_1 x8_1 x9_1 t814 true t803 t806)) = some r := H
      have A15 := Aside0.mk A150
      clear A150
      have HC16 := Aside0.mk H
      clear H
      have hcz17_0 : wr.cell? ⟨gb810, 0, none⟩ = some (.slice Ao9 t803.length co9) := (blk_cell BK810.out 0).trans rfl
      have hcz17_1 : wr.cell? ⟨gb810, 1, none⟩ = some (.slice Ao11 t806.length co11) := (blk_cell BK810.out 1).trans rfl
      have hfz17_0 := blk_frozen BK810.out 0
      have hfz17_1 := blk_frozen BK810.out 1
      go_upto_region 10 with (first | ((with_reducible refine gate_callee (f := 36) rfl ?_); refine goesL_ (some 40) rfl rfl Try.func36 (by kernel_rfl) rfl #[.agg #[.slice Ao9 t803.length co9, .slice Ao11 t806.length co11], .string x7_1] rfl ln_ ?_; (with_reducible refine (impl_ChangesOf.calls k1 _ _ t803 _ _ t806 x7_1 t814 t817 _ ?side1 ?side2 ?side3 ?side4 A15.out).mono ?_); (case side1 => repeat (first | exact (Kd.R_reads' HO_811000.out).2.2 | (with_reducible refine Kd.C_alloc ?_ _) | (with_reducible refine Kd.C_drewN ?_ _) | (with_reducible refine Kd.C_drew ?_))); (case side2 => exact (Kd.R_reads' HO_811000.out).2.1); (case side3 => repeat (first | exact (Kd.S_reads' HO_811001.out).2.2 | (with_reducible refine Kd.C_alloc ?_ _) | (with_reducible refine Kd.C_drewN ?_ _) | (with_reducible refine Kd.C_drew ?_))); (case side4 => exact (Kd.S_reads' HO_811001.out).2.1); rintro e w18 ⟨v815, rfl, ho0, hb⟩; refine ⟨_, rfl, ?_⟩; have n0_ := Aside0.mk (Kd.R_elder' (kr_ HO_8) (Kd.R_base ho0) hb); have n1_ := Aside0.mk (Kd.R_elder' (kr_ HO_811000) (Kd.R_base ho0) hb); have n2_ := Aside0.mk (Kd.S_elder' (by (with_reducible repeat (first | apply Kd.S_alloc | apply Kd.S_drewN | apply Kd.S_drew)); exact HO_811001.out) (Kd.R_base ho0) hb); have n3_ := Aside0.mk (Kd.R_lower (Kd.R_new' (Kd.R_new' ho0 (Kd.R_lt (kr_ HO_8))) (Kd.R_lt (kr_ HO_811000))) (below_size (hg_ GE810))); have n4_ := Aside0.mk (blk_below (g := gb810) (o := .cells #[.slice Ao9 t803.length co9, .slice Ao11 t806.length co11] 28 (0, 0)) (bk_ BK810) hb); have n5_ := Aside0.mk (below_step (hg_ GE810) hb); clear HO_8; clear HO_811000; clear HO_811001; clear BK810; clear HB; have HO_8 := n0_; have HO_811000 := n1_; have HO_811001 := n2_; have HO816 := n3_; have BK810 := n4_; have HB := n5_; clear n0_ n1_ n2_ n3_ n4_ n5_; (try clear hb); (try clear hb2); (try clear hk); (try clear hi); (try clear ho0)))
      (try simp only [Act.put, List.setIfInBounds_toArray, List.set_cons_zero, List.set_cons_succ])
      go_cut [51] (fun v51 wc => ∃ (kq : Nat) (x51_15 : Bool), v51 = .bool x51_15 ∧ Aside0 (laws_FnManoeuvres.j1 kq l1 t809 x7_1 x8_1 x9_1 t814 x51_15 t803 t806 = some r) ∧ Aside0 (kq ≤ k1) ∧ Aside0 (Kd.R (Kd.int .i64) 2 wc w.heap.size (fun k_ => some k_ ≠ (v815 : Value).ownBlock ∧ some k_ ≠ ((.slice Ao9 t803.length co9) : Value).ownBlock) u8 x8_1) ∧ Aside0 (Kd.R (Kd.int .i64) 2 wc w.heap.size (fun k_ => some k_ ≠ (u8 : Value).ownBlock ∧ some k_ ≠ ((.slice Ao9 t803.length co9) : Value).ownBlock) v815 t814) ∧ Aside0 (Kd.R (Kd.int .i64) 2 wc w.heap.size (fun k_ => some k_ ≠ (u8 : Value).ownBlock ∧ some k_ ≠ (v815 : Value).ownBlock) (.slice Ao9 t803.length co9) t803) ∧ Aside0 (Kd.S (Kd.slice 2 (Kd.int .i64)) 22 wc w.heap.size (fun k_ => some k_ ≠ (u8 : Value).ownBlock ∧ some k_ ≠ (v815 : Value).ownBlock ∧ some k_ ≠ ((.slice Ao9 t803.length co9) : Value).ownBlock) (.slice Ao11 t806.length co11) t806) ∧ Aside0 (wc.heap[gb810]? = some (.cells #[(.slice Ao9 t803.length co9), (.slice Ao11 t806.length co11)] 28 (0, 0))) ∧ Aside0 (Below w.heap.size w wc))
      case first =>
       have H := HC16.out
       clear HC16
       by_cases c19 : t817 = 0
       ·rw [if_pos c19] at H
        have c19b0 : (t817 == 0) = true := beq_iff_eq.mpr c19
        have c19b1 : (t817 != 0) = false := bne_eq_false_iff_eq.mpr c19
        clear c19
        (first | rw [c19b0] | (simp only [i64_w, i32_w]; rw [c19b0]) | skip)
        replace H := Option.bind_eq_some_iff.mp H
        obtain ⟨t818, A200, H⟩ := H
        replace H : (laws_FnManoeuvres.j1 k1 l1 t809 x7_1 x8_1 x9_1 t814 (!t818) t803 t806) = some r := H
        have A20 := Aside0.mk A200
        clear A200
        have H' := Aside0.mk H
        clear H
        obtain ⟨Ao21, co21, eo21⟩ := Kd.R_slice HO816.out
        subst eo21
        go_wp2_with (first | (go_at_call 45; (with_reducible refine (laws_a2Rises.calls k1 _ _ t814 (t809.size : Int) t818 _ ?side1 ?side2 A20.out).mono ?_); (case side1 => repeat (first | exact (Kd.R_reads' HO816.out).2.2 | (with_reducible refine Kd.C_alloc ?_ _) | (with_reducible refine Kd.C_drewN ?_ _) | (with_reducible refine Kd.C_drew ?_))); (case side2 => exact (Kd.R_reads' HO816.out).2.1); rintro e w' ⟨rfl, ⟨nd, rfl⟩⟩))
        go_meet
        case rel => exact ⟨_, (!t818), (by first | rfl | (simp; done) | (simp [*]; done)), H', ⟨by have := HK1.out; first | omega | exact Nat.le_refl _⟩, ⟨by (with_reducible repeat (first | apply Kd.R_alloc | apply Kd.R_drewN | apply Kd.R_drew)); exact Kd.R_mono HO_8.out (fun _ hk => ⟨hk.2, hk.1⟩)⟩, ⟨by (with_reducible repeat (first | apply Kd.R_alloc | apply Kd.R_drewN | apply Kd.R_drew)); exact Kd.R_mono HO816.out (fun _ hk => ⟨hk.1.2, hk.2⟩)⟩, ⟨by (with_reducible repeat (first | apply Kd.R_alloc | apply Kd.R_drewN | apply Kd.R_drew)); exact HO_811000.out⟩, ⟨by (with_reducible repeat (first | apply Kd.S_alloc | apply Kd.S_drewN | apply Kd.S_drew)); exact Kd.S_mono HO_811001.out (fun _ hk => ⟨hk.1.1, ⟨hk.2, hk.1.2⟩⟩)⟩, ⟨by (with_reducible repeat (first | refine blk_drewN ?_ _ | refine blk_drew ?_ | refine blk_alloc ?_ _)); exact BK810.out⟩, ⟨(hg_ GE810)⟩⟩
       ·rw [if_neg c19] at H
        have c19b0 : (t817 == 0) = false := beq_eq_false_iff_ne.mpr c19
        have c19b1 : (t817 != 0) = true := bne_iff_ne.mpr c19
        (first | rw [c19b0] | (simp only [i64_w, i32_w]; rw [c19b0]) | skip)
        have H' := Aside0.mk H
        clear H
        go_wp2
        go_meet
        case rel => exact ⟨_, (true), (by first | rfl | (simp; done) | (simp [*]; done)), H', ⟨by have := HK1.out; first | omega | exact Nat.le_refl _⟩, ⟨by (with_reducible repeat (first | apply Kd.R_alloc | apply Kd.R_drewN | apply Kd.R_drew)); exact Kd.R_mono HO_8.out (fun _ hk => ⟨hk.2, hk.1⟩)⟩, ⟨by (with_reducible repeat (first | apply Kd.R_alloc | apply Kd.R_drewN | apply Kd.R_drew)); exact Kd.R_mono HO816.out (fun _ hk => ⟨hk.1.2, hk.2⟩)⟩, ⟨by (with_reducible repeat (first | apply Kd.R_alloc | apply Kd.R_drewN | apply Kd.R_drew)); exact HO_811000.out⟩, ⟨by (with_reducible repeat (first | apply Kd.S_alloc | apply Kd.S_drewN | apply Kd.S_drew)); exact Kd.S_mono HO_811001.out (fun _ hk => ⟨hk.1.1, ⟨hk.2, hk.1.2⟩⟩)⟩, ⟨by (with_reducible repeat (first | refine blk_drewN ?_ _ | refine blk_drew ?_ | refine blk_alloc ?_ _)); exact BK810.out⟩, ⟨(hg_ GE810)⟩⟩
      case rest =>
       clear HC16
       try clear c1
       try clear p2
       try clear c3
       try clear c4
       try clear c13
       try clear c14
       try clear c14b0
       try clear c19
       try clear c19b0
       try clear c19b1
       try clear hcz10_0
       try clear hcz10_1
       try clear hcz17_0
       try clear hcz17_1
       try clear hfz10_0
       try clear hfz10_1
       try clear hfz17_0
       try clear hfz17_1
       try clear p2
       obtain ⟨kq, x51_15, rfl, HA, HJ15, HO_8, HO_10, HO_811000, HO_811001, BK810, HB⟩ := hcut
       cases kq with
       | zero => exact absurd HA.out (by simp [laws_FnManoeuvres.j1])
       | succ kj15 =>
        have H := HA.out
        clear HA
        simp only [laws_FnManoeuvres.j1] at H
        by_cases c22 : x51_15 = true
        ·subst c22
         have H1 : (some false) = some r := by rw [if_pos rfl] at H; exact H
         clear H
         have H := H1
         clear H1
         obtain rfl := Option.some.inj H
         go_wp2
         go_ret
         exact ⟨ew_, (hg_ GE810)⟩
        ·replace c22 := Bool.eq_false_iff.mpr c22
         subst c22
         have H1 : (if (t814.length : Int) = 0 then (laws_FnManoeuvres.j2 kj15 t809 x7_1 x8_1 t803 t806) else ((laws_a2At.f l1 x9_1 (t814.length : Int)).bind fun t819 => (if 0 ≤ t819 then (if t819 < (t814.length : Int) then ((impl_ChangeLine.f kj15 t803 t806 x7_1 (rd t814 t819)).bind fun bt821 => ((impl_LooseYards.f kj15 t803 t806 bt821.1).bind fun bt823 => (if bt821.2 = 0 then (if (bt821.1.size : Int) = (t809.size : Int) then (if bt823.2 = 0 then (if (bt823.1.length : Int) = 0 then (if x8_1.length < 17592186044416 then (laws_FnManoeuvres.l0 kj15 l1 t809 bt821.1 (x8_1 ++ [rd t814 t819]) (wrap64 (x9_1 + 1)) t803 t806) else (none)) else (some false)) else (some false)) else (some false)) else (some false)))) else (none)) else (none)))) = some r := by rw [if_neg (show ¬ (false = true) by decide)] at H; exact H
         clear H
         have H := H1
         clear H1
         by_cases c23 : (t814.length : Int) = 0
         ·rw [if_pos c23] at H
          have c23b0 : ((t814.length : Int) == 0) = true := beq_iff_eq.mpr c23
          have c23b1 : ((t814.length : Int) != 0) = false := bne_eq_false_iff_eq.mpr c23
          clear c23
          have H' := Aside0.mk H
          clear H
          obtain ⟨Ao24, co24, eo24⟩ := Kd.R_slice HO_10.out
          subst eo24
          go_wp2
          go_meet
          case rel => exact ⟨_, (x7_1), (x8_1), (by first | rfl | (simp; done) | (simp [*]; done)), H', ⟨by have := HK1.out; have := HJ15.out; first | omega | exact Nat.le_refl _⟩, ⟨by (with_reducible repeat (first | apply Kd.R_alloc | apply Kd.R_drewN | apply Kd.R_drew)); exact Kd.R_mono HO_8.out (fun _ hk => hk.2)⟩, ⟨by (with_reducible repeat (first | apply Kd.R_alloc | apply Kd.R_drewN | apply Kd.R_drew)); exact Kd.R_mono HO_811000.out (fun _ hk => hk.1)⟩, ⟨by (with_reducible repeat (first | apply Kd.S_alloc | apply Kd.S_drewN | apply Kd.S_drew)); exact Kd.S_mono HO_811001.out (fun _ hk => ⟨hk.1, hk.2.2⟩)⟩, ⟨by (with_reducible repeat (first | refine blk_drewN ?_ _ | refine blk_drew ?_ | refine blk_alloc ?_ _)); exact BK810.out⟩, ⟨(hg_ GE810)⟩⟩
         ·rw [if_neg c23] at H
          have c23b0 : ((t814.length : Int) == 0) = false := beq_eq_false_iff_ne.mpr c23
          have c23b1 : ((t814.length : Int) != 0) = true := bne_iff_ne.mpr c23
          have c23b2 : ¬ (t814 = []) := fun h_ => c23 (by rw [h_]; rfl)
          replace H := Option.bind_eq_some_iff.mp H
          obtain ⟨t819, A250, H⟩ := H
          replace H : (if 0 ≤ t819 then (if t819 < (t814.length : Int) then ((impl_ChangeLine.f kj15 t803 t806 x7_1 (rd t814 t819)).bind fun bt821 => ((impl_LooseYards.f kj15 t803 t806 bt821.1).bind fun bt823 => (if bt821.2 = 0 then (if (bt821.1.size : Int) = (t809.size : Int) then (if bt823.2 = 0 then (if (bt823.1.length : Int) = 0 then (if x8_1.length < 17592186044416 then (laws_FnManoeuvres.l0 kj15 l1 t809 bt821.1 (x8_1 ++ [rd t814 t819]) (wrap64 (x9_1 + 1)) t803 t806) else (none)) else (some false)) else (some false)) else (some false)) else (some false)))) else (none)) else (none)) = some r := H
          have A25 := Aside0.mk A250
          clear A250
          by_cases c26 : 0 ≤ t819
          ·rw [if_pos c26] at H
           have c26b0 : decide (0 ≤ t819) = true := decide_eq_true c26
           clear c26
           by_cases c27 : t819 < (t814.length : Int)
           ·rw [if_pos c27] at H
            have c27b0 : decide (t819 < (t814.length : Int)) = true := decide_eq_true c27
            clear c27
            replace H := Option.bind_eq_some_iff.mp H
            obtain ⟨⟨t821, t822⟩, A280, H⟩ := H
            replace H : ((impl_LooseYards.f kj15 t803 t806 t821).bind fun bt823 => (if t822 = 0 then (if (t821.size : Int) = (t809.size : Int) then (if bt823.2 = 0 then (if (bt823.1.length : Int) = 0 then (if x8_1.length < 17592186044416 then (laws_FnManoeuvres.l0 kj15 l1 t809 t821 (x8_1 ++ [rd t814 t819]) (wrap64 (x9_1 + 1)) t803 t806) else (none)) else (some false)) else (some false)) else (some false)) else (some false))) = some r := H
            have A28 := Aside0.mk A280
            clear A280
            replace H := Option.bind_eq_some_iff.mp H
            obtain ⟨⟨t823, t826⟩, A290, H⟩ := H
            replace H : (if t822 = 0 then (if (t821.size : Int) = (t809.size : Int) then (if t826 = 0 then (if (t823.length : Int) = 0 then (if x8_1.length < 17592186044416 then (laws_FnManoeuvres.l0 kj15 l1 t809 t821 (x8_1 ++ [rd t814 t819]) (wrap64 (x9_1 + 1)) t803 t806) else (none)) else (some false)) else (some false)) else (some false)) else (some false)) = some r := H
            have A29 := Aside0.mk A290
            clear A290
            by_cases c30 : t822 = 0
            ·rw [if_pos c30] at H
             have c30b0 : (t822 == 0) = true := beq_iff_eq.mpr c30
             have c30b1 : (t822 != 0) = false := bne_eq_false_iff_eq.mpr c30
             clear c30
             by_cases c31 : (t821.size : Int) = (t809.size : Int)
             ·rw [if_pos c31] at H
              have c31b0 : ((t821.size : Int) == (t809.size : Int)) = true := beq_iff_eq.mpr c31
              have c31b1 : ((t821.size : Int) != (t809.size : Int)) = false := bne_eq_false_iff_eq.mpr c31
              have c31b2 : (t821.size == t809.size) = true := by first | simpa using c31 | (simp at c31 ⊢; omega)
              clear c31
              by_cases c32 : t826 = 0
              ·rw [if_pos c32] at H
               have c32b0 : (t826 == 0) = true := beq_iff_eq.mpr c32
               have c32b1 : (t826 != 0) = false := bne_eq_false_iff_eq.mpr c32
               clear c32
               by_cases c33 : (t823.length : Int) = 0
               ·rw [if_pos c33] at H
                have c33b0 : ((t823.length : Int) == 0) = true := beq_iff_eq.mpr c33
                have c33b1 : ((t823.length : Int) != 0) = false := bne_eq_false_iff_eq.mpr c33
                clear c33
                by_cases c34 : x8_1.length < 17592186044416
                ·rw [if_pos c34] at H
                 have LMc34 := Aside0.mk c34
                 clear c34
                 obtain ⟨y827, hy827⟩ : ∃ y_ : List Int, y_ = (x8_1 ++ [rd t814 t819]) := ⟨_, rfl⟩
                 replace H : (laws_FnManoeuvres.l0 kj15 l1 t809 t821 y827 (wrap64 (x9_1 + 1)) t803 t806) = some r := by first | (rw [hy827]; with_reducible exact H) | (have H2_ := (Option.bind_some _ _).symm.trans H; rw [hy827]; with_reducible exact H2_) | (have H2_ := (Option.bind_some _ _).symm.trans H; with_reducible exact H2_) | with_reducible exact H | (rw [hy827]; exact H) | exact H
                 have Ny827 := Aside0.mk hy827
                 clear hy827
                 have H' := Aside0.mk H
                 clear H
                 obtain ⟨Ao35, co35, eo35⟩ := Kd.R_slice HO_10.out
                 subst eo35
                 go_wp2_with (first | ((with_reducible refine gate_callee (f := 46) rfl ?_); refine goesL_ (some 60) rfl rfl Try.func46 (by kernel_rfl) rfl #[.slice A1 l1.length c1, .int .i64 x9_1, .int .i64 (t814.length : Int)] rfl ln_ ?_; (with_reducible refine (laws_a2At.calls _ _ l1 x9_1 (t814.length : Int) t819 _ ?side1 ?side2 A25.out).mono ?_); (case side1 => exact kc_ (Kd.C_below HR1.out HB.out)); (case side2 => exact HC1.out); rintro e w' ⟨rfl, ⟨nd, rfl⟩⟩; refine ⟨_, rfl, ?_⟩; have p820 : 0 ≤ (t819 : Int) := od_; have q820 : t819 < (t814.length : Int) := od_; obtain ⟨ad820, e820, hx820_0⟩ := Kd.at_int (Kd.R_reads' HO_10.out).2.2 t819 p820 q820; cases e820; replace p820 := eq_true p820; replace q820 := eq_true q820; have hcz36_0 : wc.cell? ⟨gb810, 0, none⟩ = some (.slice Ao9 t803.length co9) := (blk_cell BK810.out 0).trans rfl; have hcz36_1 : wc.cell? ⟨gb810, 1, none⟩ = some (.slice Ao11 t806.length co11) := (blk_cell BK810.out 1).trans rfl; have hfz36_0 := blk_frozen BK810.out 0; have hfz36_1 := blk_frozen BK810.out 1) | ((with_reducible refine gate_callee (f := 31) rfl ?_); refine goesL_ (some 67) rfl rfl Try.func31 (by kernel_rfl) rfl #[.agg #[.slice Ao9 t803.length co9, .slice Ao11 t806.length co11], .string x7_1, .int .i64 (rd t814 t819)] rfl ln_ ?_; (with_reducible refine (impl_ChangeLine.calls kj15 _ _ t803 _ _ t806 x7_1 (rd t814 t819) t821 t822 _ ?side1 ?side2 ?side3 ?side4 A28.out).mono ?_); (case side1 => repeat (first | exact (Kd.R_reads' HO_811000.out).2.2 | (with_reducible refine Kd.C_alloc ?_ _) | (with_reducible refine Kd.C_drewN ?_ _) | (with_reducible refine Kd.C_drew ?_))); (case side2 => exact (Kd.R_reads' HO_811000.out).2.1); (case side3 => repeat (first | exact (Kd.S_reads' HO_811001.out).2.2 | (with_reducible refine Kd.C_alloc ?_ _) | (with_reducible refine Kd.C_drewN ?_ _) | (with_reducible refine Kd.C_drew ?_))); (case side4 => exact (Kd.S_reads' HO_811001.out).2.1); rintro e w37 ⟨rfl, hb⟩; refine ⟨_, rfl, ?_⟩; have n0_ := Aside0.mk (Kd.R_below (kr_ HO_8) hb); have n1_ := Aside0.mk (Kd.R_below (kr_ HO_10) hb); have n2_ := Aside0.mk (Kd.R_below (kr_ HO_811000) hb); have n3_ := Aside0.mk (Kd.S_below (by (with_reducible repeat (first | apply Kd.S_alloc | apply Kd.S_drewN | apply Kd.S_drew)); exact HO_811001.out) hb); have n4_ := Aside0.mk (blk_below (g := gb810) (o := .cells #[.slice Ao9 t803.length co9, .slice Ao11 t806.length co11] 28 (0, 0)) (bk_ BK810) hb); have n5_ := Aside0.mk (below_step (hg_ GE810) hb); clear HO_8; clear HO_10; clear HO_811000; clear HO_811001; clear BK810; clear HB; have HO_8 := n0_; have HO_10 := n1_; have HO_811000 := n2_; have HO_811001 := n3_; have BK810 := n4_; have HB := n5_; clear n0_ n1_ n2_ n3_ n4_ n5_; (try clear hb); (try clear hb2); (try clear hk); (try clear hi); have hcz38_0 : w37.cell? ⟨gb810, 0, none⟩ = some (.slice Ao9 t803.length co9) := (blk_cell BK810.out 0).trans rfl; have hcz38_1 : w37.cell? ⟨gb810, 1, none⟩ = some (.slice Ao11 t806.length co11) := (blk_cell BK810.out 1).trans rfl; have hfz38_0 := blk_frozen BK810.out 0; have hfz38_1 := blk_frozen BK810.out 1) | ((with_reducible refine gate_callee (f := 29) rfl ?_); refine goesL_ (some 73) rfl rfl Try.func29 (by kernel_rfl) rfl #[.agg #[.slice Ao9 t803.length co9, .slice Ao11 t806.length co11], .string t821] rfl ln_ ?_; (with_reducible refine (impl_LooseYards.calls kj15 _ _ t803 _ _ t806 t821 t823 t826 _ ?side1 ?side2 ?side3 ?side4 A29.out).mono ?_); (case side1 => repeat (first | exact (Kd.R_reads' HO_811000.out).2.2 | (with_reducible refine Kd.C_alloc ?_ _) | (with_reducible refine Kd.C_drewN ?_ _) | (with_reducible refine Kd.C_drew ?_))); (case side2 => exact (Kd.R_reads' HO_811000.out).2.1); (case side3 => repeat (first | exact (Kd.S_reads' HO_811001.out).2.2 | (with_reducible refine Kd.C_alloc ?_ _) | (with_reducible refine Kd.C_drewN ?_ _) | (with_reducible refine Kd.C_drew ?_))); (case side4 => exact (Kd.S_reads' HO_811001.out).2.1); rintro e w39 ⟨v824, rfl, ho0, hb⟩; refine ⟨_, rfl, ?_⟩; have n0_ := Aside0.mk (Kd.R_elder' (kr_ HO_8) (Kd.R_base ho0) hb); have n1_ := Aside0.mk (Kd.R_elder' (kr_ HO_10) (Kd.R_base ho0) hb); have n2_ := Aside0.mk (Kd.R_elder' (kr_ HO_811000) (Kd.R_base ho0) hb); have n3_ := Aside0.mk (Kd.S_elder' (by (with_reducible repeat (first | apply Kd.S_alloc | apply Kd.S_drewN | apply Kd.S_drew)); exact HO_811001.out) (Kd.R_base ho0) hb); have n4_ := Aside0.mk (Kd.R_lower (Kd.R_new' (Kd.R_new' (Kd.R_new' ho0 (Kd.R_lt (kr_ HO_8))) (Kd.R_lt (kr_ HO_10))) (Kd.R_lt (kr_ HO_811000))) (below_size (hg_ GE810))); have n5_ := Aside0.mk (blk_below (g := gb810) (o := .cells #[.slice Ao9 t803.length co9, .slice Ao11 t806.length co11] 28 (0, 0)) (bk_ BK810) hb); have n6_ := Aside0.mk (below_step (hg_ GE810) hb); clear HO_8; clear HO_10; clear HO_811000; clear HO_811001; clear BK810; clear HB; have HO_8 := n0_; have HO_10 := n1_; have HO_811000 := n2_; have HO_811001 := n3_; have HO825 := n4_; have BK810 := n5_; have HB := n6_; clear n0_ n1_ n2_ n3_ n4_ n5_ n6_; (try clear hb); (try clear hb2); (try clear hk); (try clear hi); (try clear ho0); obtain ⟨Ao40, co40, eo40⟩ := Kd.R_slice HO825.out; subst eo40) | ((with_reducible refine gate_builtin (b := .append) (xs := #[.tmp 94, .tmp 96]) rfl ?_); (try (refine gate_guard (by rfl) ?_; dsimp only)); at_builtin; refine Kd.R_append (Kd.int .i64) (w0 := w) w.heap.size rfl (.tmp 94) (.tmp 96) 22 2 (.int .i64 0) 8 rfl Try.underlying22 info2 rfl (by decide) (by omega) u8 x8_1 (rd t814 t819) [.int .i64 (rd t814 t819)] (fun k_ => some k_ ≠ (.slice (some ad820) t814.length co35 : Value).ownBlock ∧ some k_ ≠ (.slice Ao9 t803.length co9 : Value).ownBlock ∧ some k_ ≠ (.slice Ao40 t823.length co40 : Value).ownBlock) (fun _ => False) rfl rfl ?aP (fun _ hk => hk.elim) ?aF ?aO ?aB ?aS ?aL ?_; (case aP => exact rfl); (case aB => exact (hg_ GE810)); (case aF => exact (fun k_ hk => ⟨Kd.fresh' (Kd.R_lt (kr_ HO_10)) k_ hk, Kd.fresh' (Kd.R_lt (kr_ HO_811000)) k_ hk, Kd.fresh' (Kd.R_lt (kr_ HO825)) k_ hk⟩)); (case aO => exact (by (with_reducible repeat (first | apply Kd.R_alloc | apply Kd.R_drewN | apply Kd.R_drew)); exact Kd.R_mono HO_8.out (fun _ hk => ⟨hk.1.1, ⟨hk.1.2, hk.2⟩⟩))); (case aS => exact (below_size (hg_ GE810))); (case aL => have := LMc34.out; omega); intro v828 w41 ho hb hg hat; rw [← Ny827.out] at ho; have n0_ := Aside0.mk (Kd.R_after (ok := (fun k_ => some k_ ≠ (.slice Ao9 t803.length co9 : Value).ownBlock ∧ some k_ ≠ (.slice Ao40 t823.length co40 : Value).ownBlock)) (by (with_reducible repeat (first | apply Kd.R_alloc | apply Kd.R_drewN | apply Kd.R_drew)); exact Kd.R_mono HO_10.out (fun _ hk => ⟨⟨hk.1.2, hk.2⟩, hk.1.1⟩)) hg hat); have n1_ := Aside0.mk (Kd.R_after (ok := (fun k_ => some k_ ≠ (.slice (some ad820) t814.length co35 : Value).ownBlock ∧ some k_ ≠ (.slice Ao40 t823.length co40 : Value).ownBlock)) (by (with_reducible repeat (first | apply Kd.R_alloc | apply Kd.R_drewN | apply Kd.R_drew)); exact Kd.R_mono HO_811000.out (fun _ hk => ⟨⟨hk.1.2, hk.2⟩, hk.1.1⟩)) hg hat); have n2_ := Aside0.mk (Kd.S_after (ok := (fun k_ => some k_ ≠ (.slice (some ad820) t814.length co35 : Value).ownBlock ∧ some k_ ≠ (.slice Ao9 t803.length co9 : Value).ownBlock ∧ some k_ ≠ (.slice Ao40 t823.length co40 : Value).ownBlock)) (by (with_reducible repeat (first | apply Kd.S_alloc | apply Kd.S_drewN | apply Kd.S_drew)); exact Kd.S_mono HO_811001.out (fun _ hk => ⟨⟨hk.1.2.1, ⟨hk.1.2.2, hk.2⟩⟩, hk.1.1⟩)) hg hat); have n3_ := Aside0.mk (blk_grown (g := gb810) (o := .cells #[.slice Ao9 t803.length co9, .slice Ao11 t806.length co11] 28 (0, 0)) (bk_ BK810) hg (Kd.R_ne HO_8.out BK810.out (by decide))); have n4_ := Aside0.mk (Kd.R_after (ok := (fun k_ => some k_ ≠ (.slice (some ad820) t814.length co35 : Value).ownBlock ∧ some k_ ≠ (.slice Ao9 t803.length co9 : Value).ownBlock)) (by (with_reducible repeat (first | apply Kd.R_alloc | apply Kd.R_drewN | apply Kd.R_drew)); exact Kd.R_mono HO825.out (fun _ hk => ⟨⟨hk.1.2, hk.2⟩, hk.1.1.2⟩)) hg hat); have n5_ := Aside0.mk (hb); have n6_ := Aside0.mk (ho); clear HO_10; clear HO_811000; clear HO_811001; clear BK810; clear HO825; clear HB; clear HO_8; have HO_10 := n0_; have HO_811000 := n1_; have HO_811001 := n2_; have BK810 := n3_; have HO825 := n4_; have HB := n5_; have HO829 := n6_; clear n0_ n1_ n2_ n3_ n4_ n5_ n6_; clear ho hb hg hat))
                 go_roundg kj15
                 case measure => have := HK1.out; have := HJ15.out; omega
                 case rel => exact ⟨(t821), (y827), (wrap64 (x9_1 + 1)), (by first | rfl | (simp; done) | (simp [*]; done)), (by first | rfl | (simp; done) | (simp [*]; done)), H', ⟨by have := HK1.out; have := HJ15.out; omega⟩, ⟨by (with_reducible repeat (first | apply Kd.R_alloc | apply Kd.R_drewN | apply Kd.R_drew)); exact Kd.R_mono HO829.out (fun _ hk => hk.2.1)⟩, ⟨by (with_reducible repeat (first | apply Kd.R_alloc | apply Kd.R_drewN | apply Kd.R_drew)); exact Kd.R_mono HO_811000.out (fun _ hk => hk.2)⟩, ⟨by (with_reducible repeat (first | apply Kd.S_alloc | apply Kd.S_drewN | apply Kd.S_drew)); exact Kd.S_mono HO_811001.out (fun _ hk => ⟨hk.2, hk.1.2.1⟩)⟩, ⟨by (with_reducible repeat (first | refine blk_drewN ?_ _ | refine blk_drew ?_ | refine blk_alloc ?_ _)); exact BK810.out⟩, ⟨(hg_ GE810)⟩⟩
                ·rw [if_neg c34] at H
                 exact absurd H (by simp)
               ·rw [if_neg c33] at H
                have c33b0 : ((t823.length : Int) == 0) = false := beq_eq_false_iff_ne.mpr c33
                have c33b1 : ((t823.length : Int) != 0) = true := bne_iff_ne.mpr c33
                have c33b2 : ¬ (t823 = []) := fun h_ => c33 (by rw [h_]; rfl)
                obtain rfl := Option.some.inj H
                obtain ⟨Ao42, co42, eo42⟩ := Kd.R_slice HO_10.out
                subst eo42
                go_wp2_with (first | ((with_reducible refine gate_callee (f := 46) rfl ?_); refine goesL_ (some 60) rfl rfl Try.func46 (by kernel_rfl) rfl #[.slice A1 l1.length c1, .int .i64 x9_1, .int .i64 (t814.length : Int)] rfl ln_ ?_; (with_reducible refine (laws_a2At.calls _ _ l1 x9_1 (t814.length : Int) t819 _ ?side1 ?side2 A25.out).mono ?_); (case side1 => exact kc_ (Kd.C_below HR1.out HB.out)); (case side2 => exact HC1.out); rintro e w' ⟨rfl, ⟨nd, rfl⟩⟩; refine ⟨_, rfl, ?_⟩; have p820 : 0 ≤ (t819 : Int) := od_; have q820 : t819 < (t814.length : Int) := od_; obtain ⟨ad820, e820, hx820_0⟩ := Kd.at_int (Kd.R_reads' HO_10.out).2.2 t819 p820 q820; cases e820; replace p820 := eq_true p820; replace q820 := eq_true q820; have hcz43_0 : wc.cell? ⟨gb810, 0, none⟩ = some (.slice Ao9 t803.length co9) := (blk_cell BK810.out 0).trans rfl; have hcz43_1 : wc.cell? ⟨gb810, 1, none⟩ = some (.slice Ao11 t806.length co11) := (blk_cell BK810.out 1).trans rfl; have hfz43_0 := blk_frozen BK810.out 0; have hfz43_1 := blk_frozen BK810.out 1) | ((with_reducible refine gate_callee (f := 31) rfl ?_); refine goesL_ (some 67) rfl rfl Try.func31 (by kernel_rfl) rfl #[.agg #[.slice Ao9 t803.length co9, .slice Ao11 t806.length co11], .string x7_1, .int .i64 (rd t814 t819)] rfl ln_ ?_; (with_reducible refine (impl_ChangeLine.calls kj15 _ _ t803 _ _ t806 x7_1 (rd t814 t819) t821 t822 _ ?side1 ?side2 ?side3 ?side4 A28.out).mono ?_); (case side1 => repeat (first | exact (Kd.R_reads' HO_811000.out).2.2 | (with_reducible refine Kd.C_alloc ?_ _) | (with_reducible refine Kd.C_drewN ?_ _) | (with_reducible refine Kd.C_drew ?_))); (case side2 => exact (Kd.R_reads' HO_811000.out).2.1); (case side3 => repeat (first | exact (Kd.S_reads' HO_811001.out).2.2 | (with_reducible refine Kd.C_alloc ?_ _) | (with_reducible refine Kd.C_drewN ?_ _) | (with_reducible refine Kd.C_drew ?_))); (case side4 => exact (Kd.S_reads' HO_811001.out).2.1); rintro e w44 ⟨rfl, hb⟩; refine ⟨_, rfl, ?_⟩; have n0_ := Aside0.mk (Kd.R_below (kr_ HO_8) hb); have n1_ := Aside0.mk (Kd.R_below (kr_ HO_10) hb); have n2_ := Aside0.mk (Kd.R_below (kr_ HO_811000) hb); have n3_ := Aside0.mk (Kd.S_below (by (with_reducible repeat (first | apply Kd.S_alloc | apply Kd.S_drewN | apply Kd.S_drew)); exact HO_811001.out) hb); have n4_ := Aside0.mk (blk_below (g := gb810) (o := .cells #[.slice Ao9 t803.length co9, .slice Ao11 t806.length co11] 28 (0, 0)) (bk_ BK810) hb); have n5_ := Aside0.mk (below_step (hg_ GE810) hb); clear HO_8; clear HO_10; clear HO_811000; clear HO_811001; clear BK810; clear HB; have HO_8 := n0_; have HO_10 := n1_; have HO_811000 := n2_; have HO_811001 := n3_; have BK810 := n4_; have HB := n5_; clear n0_ n1_ n2_ n3_ n4_ n5_; (try clear hb); (try clear hb2); (try clear hk); (try clear hi); have hcz45_0 : w44.cell? ⟨gb810, 0, none⟩ = some (.slice Ao9 t803.length co9) := (blk_cell BK810.out 0).trans rfl; have hcz45_1 : w44.cell? ⟨gb810, 1, none⟩ = some (.slice Ao11 t806.length co11) := (blk_cell BK810.out 1).trans rfl; have hfz45_0 := blk_frozen BK810.out 0; have hfz45_1 := blk_frozen BK810.out 1) | ((with_reducible refine gate_callee (f := 29) rfl ?_); refine goesL_ (some 73) rfl rfl Try.func29 (by kernel_rfl) rfl #[.agg #[.slice Ao9 t803.length co9, .slice Ao11 t806.length co11], .string t821] rfl ln_ ?_; (with_reducible refine (impl_LooseYards.calls kj15 _ _ t803 _ _ t806 t821 t823 t826 _ ?side1 ?side2 ?side3 ?side4 A29.out).mono ?_); (case side1 => repeat (first | exact (Kd.R_reads' HO_811000.out).2.2 | (with_reducible refine Kd.C_alloc ?_ _) | (with_reducible refine Kd.C_drewN ?_ _) | (with_reducible refine Kd.C_drew ?_))); (case side2 => exact (Kd.R_reads' HO_811000.out).2.1); (case side3 => repeat (first | exact (Kd.S_reads' HO_811001.out).2.2 | (with_reducible refine Kd.C_alloc ?_ _) | (with_reducible refine Kd.C_drewN ?_ _) | (with_reducible refine Kd.C_drew ?_))); (case side4 => exact (Kd.S_reads' HO_811001.out).2.1); rintro e w46 ⟨v824, rfl, ho0, hb⟩; refine ⟨_, rfl, ?_⟩; have n0_ := Aside0.mk (Kd.R_elder' (kr_ HO_8) (Kd.R_base ho0) hb); have n1_ := Aside0.mk (Kd.R_elder' (kr_ HO_10) (Kd.R_base ho0) hb); have n2_ := Aside0.mk (Kd.R_elder' (kr_ HO_811000) (Kd.R_base ho0) hb); have n3_ := Aside0.mk (Kd.S_elder' (by (with_reducible repeat (first | apply Kd.S_alloc | apply Kd.S_drewN | apply Kd.S_drew)); exact HO_811001.out) (Kd.R_base ho0) hb); have n4_ := Aside0.mk (Kd.R_lower (Kd.R_new' (Kd.R_new' (Kd.R_new' ho0 (Kd.R_lt (kr_ HO_8))) (Kd.R_lt (kr_ HO_10))) (Kd.R_lt (kr_ HO_811000))) (below_size (hg_ GE810))); have n5_ := Aside0.mk (blk_below (g := gb810) (o := .cells #[.slice Ao9 t803.length co9, .slice Ao11 t806.length co11] 28 (0, 0)) (bk_ BK810) hb); have n6_ := Aside0.mk (below_step (hg_ GE810) hb); clear HO_8; clear HO_10; clear HO_811000; clear HO_811001; clear BK810; clear HB; have HO_8 := n0_; have HO_10 := n1_; have HO_811000 := n2_; have HO_811001 := n3_; have HO825 := n4_; have BK810 := n5_; have HB := n6_; clear n0_ n1_ n2_ n3_ n4_ n5_ n6_; (try clear hb); (try clear hb2); (try clear hk); (try clear hi); (try clear ho0); obtain ⟨Ao47, co47, eo47⟩ := Kd.R_slice HO825.out; subst eo47))
                go_ret
                exact ⟨ew_, (hg_ GE810)⟩
              ·rw [if_neg c32] at H
               have c32b0 : (t826 == 0) = false := beq_eq_false_iff_ne.mpr c32
               have c32b1 : (t826 != 0) = true := bne_iff_ne.mpr c32
               obtain rfl := Option.some.inj H
               obtain ⟨Ao48, co48, eo48⟩ := Kd.R_slice HO_10.out
               subst eo48
               go_wp2_with (first | ((with_reducible refine gate_callee (f := 46) rfl ?_); refine goesL_ (some 60) rfl rfl Try.func46 (by kernel_rfl) rfl #[.slice A1 l1.length c1, .int .i64 x9_1, .int .i64 (t814.length : Int)] rfl ln_ ?_; (with_reducible refine (laws_a2At.calls _ _ l1 x9_1 (t814.length : Int) t819 _ ?side1 ?side2 A25.out).mono ?_); (case side1 => exact kc_ (Kd.C_below HR1.out HB.out)); (case side2 => exact HC1.out); rintro e w' ⟨rfl, ⟨nd, rfl⟩⟩; refine ⟨_, rfl, ?_⟩; have p820 : 0 ≤ (t819 : Int) := od_; have q820 : t819 < (t814.length : Int) := od_; obtain ⟨ad820, e820, hx820_0⟩ := Kd.at_int (Kd.R_reads' HO_10.out).2.2 t819 p820 q820; cases e820; replace p820 := eq_true p820; replace q820 := eq_true q820; have hcz49_0 : wc.cell? ⟨gb810, 0, none⟩ = some (.slice Ao9 t803.length co9) := (blk_cell BK810.out 0).trans rfl; have hcz49_1 : wc.cell? ⟨gb810, 1, none⟩ = some (.slice Ao11 t806.length co11) := (blk_cell BK810.out 1).trans rfl; have hfz49_0 := blk_frozen BK810.out 0; have hfz49_1 := blk_frozen BK810.out 1) | ((with_reducible refine gate_callee (f := 31) rfl ?_); refine goesL_ (some 67) rfl rfl Try.func31 (by kernel_rfl) rfl #[.agg #[.slice Ao9 t803.length co9, .slice Ao11 t806.length co11], .string x7_1, .int .i64 (rd t814 t819)] rfl ln_ ?_; (with_reducible refine (impl_ChangeLine.calls kj15 _ _ t803 _ _ t806 x7_1 (rd t814 t819) t821 t822 _ ?side1 ?side2 ?side3 ?side4 A28.out).mono ?_); (case side1 => repeat (first | exact (Kd.R_reads' HO_811000.out).2.2 | (with_reducible refine Kd.C_alloc ?_ _) | (with_reducible refine Kd.C_drewN ?_ _) | (with_reducible refine Kd.C_drew ?_))); (case side2 => exact (Kd.R_reads' HO_811000.out).2.1); (case side3 => repeat (first | exact (Kd.S_reads' HO_811001.out).2.2 | (with_reducible refine Kd.C_alloc ?_ _) | (with_reducible refine Kd.C_drewN ?_ _) | (with_reducible refine Kd.C_drew ?_))); (case side4 => exact (Kd.S_reads' HO_811001.out).2.1); rintro e w50 ⟨rfl, hb⟩; refine ⟨_, rfl, ?_⟩; have n0_ := Aside0.mk (Kd.R_below (kr_ HO_8) hb); have n1_ := Aside0.mk (Kd.R_below (kr_ HO_10) hb); have n2_ := Aside0.mk (Kd.R_below (kr_ HO_811000) hb); have n3_ := Aside0.mk (Kd.S_below (by (with_reducible repeat (first | apply Kd.S_alloc | apply Kd.S_drewN | apply Kd.S_drew)); exact HO_811001.out) hb); have n4_ := Aside0.mk (blk_below (g := gb810) (o := .cells #[.slice Ao9 t803.length co9, .slice Ao11 t806.length co11] 28 (0, 0)) (bk_ BK810) hb); have n5_ := Aside0.mk (below_step (hg_ GE810) hb); clear HO_8; clear HO_10; clear HO_811000; clear HO_811001; clear BK810; clear HB; have HO_8 := n0_; have HO_10 := n1_; have HO_811000 := n2_; have HO_811001 := n3_; have BK810 := n4_; have HB := n5_; clear n0_ n1_ n2_ n3_ n4_ n5_; (try clear hb); (try clear hb2); (try clear hk); (try clear hi); have hcz51_0 : w50.cell? ⟨gb810, 0, none⟩ = some (.slice Ao9 t803.length co9) := (blk_cell BK810.out 0).trans rfl; have hcz51_1 : w50.cell? ⟨gb810, 1, none⟩ = some (.slice Ao11 t806.length co11) := (blk_cell BK810.out 1).trans rfl; have hfz51_0 := blk_frozen BK810.out 0; have hfz51_1 := blk_frozen BK810.out 1) | ((with_reducible refine gate_callee (f := 29) rfl ?_); refine goesL_ (some 73) rfl rfl Try.func29 (by kernel_rfl) rfl #[.agg #[.slice Ao9 t803.length co9, .slice Ao11 t806.length co11], .string t821] rfl ln_ ?_; (with_reducible refine (impl_LooseYards.calls kj15 _ _ t803 _ _ t806 t821 t823 t826 _ ?side1 ?side2 ?side3 ?side4 A29.out).mono ?_); (case side1 => repeat (first | exact (Kd.R_reads' HO_811000.out).2.2 | (with_reducible refine Kd.C_alloc ?_ _) | (with_reducible refine Kd.C_drewN ?_ _) | (with_reducible refine Kd.C_drew ?_))); (case side2 => exact (Kd.R_reads' HO_811000.out).2.1); (case side3 => repeat (first | exact (Kd.S_reads' HO_811001.out).2.2 | (with_reducible refine Kd.C_alloc ?_ _) | (with_reducible refine Kd.C_drewN ?_ _) | (with_reducible refine Kd.C_drew ?_))); (case side4 => exact (Kd.S_reads' HO_811001.out).2.1); rintro e w52 ⟨v824, rfl, ho0, hb⟩; refine ⟨_, rfl, ?_⟩; have n0_ := Aside0.mk (Kd.R_elder' (kr_ HO_8) (Kd.R_base ho0) hb); have n1_ := Aside0.mk (Kd.R_elder' (kr_ HO_10) (Kd.R_base ho0) hb); have n2_ := Aside0.mk (Kd.R_elder' (kr_ HO_811000) (Kd.R_base ho0) hb); have n3_ := Aside0.mk (Kd.S_elder' (by (with_reducible repeat (first | apply Kd.S_alloc | apply Kd.S_drewN | apply Kd.S_drew)); exact HO_811001.out) (Kd.R_base ho0) hb); have n4_ := Aside0.mk (Kd.R_lower (Kd.R_new' (Kd.R_new' (Kd.R_new' ho0 (Kd.R_lt (kr_ HO_8))) (Kd.R_lt (kr_ HO_10))) (Kd.R_lt (kr_ HO_811000))) (below_size (hg_ GE810))); have n5_ := Aside0.mk (blk_below (g := gb810) (o := .cells #[.slice Ao9 t803.length co9, .slice Ao11 t806.length co11] 28 (0, 0)) (bk_ BK810) hb); have n6_ := Aside0.mk (below_step (hg_ GE810) hb); clear HO_8; clear HO_10; clear HO_811000; clear HO_811001; clear BK810; clear HB; have HO_8 := n0_; have HO_10 := n1_; have HO_811000 := n2_; have HO_811001 := n3_; have HO825 := n4_; have BK810 := n5_; have HB := n6_; clear n0_ n1_ n2_ n3_ n4_ n5_ n6_; (try clear hb); (try clear hb2); (try clear hk); (try clear hi); (try clear ho0)))
               go_ret
               exact ⟨ew_, (hg_ GE810)⟩
             ·rw [if_neg c31] at H
              have c31b0 : ((t821.size : Int) == (t809.size : Int)) = false := beq_eq_false_iff_ne.mpr c31
              have c31b1 : ((t821.size : Int) != (t809.size : Int)) = true := bne_iff_ne.mpr c31
              have c31b2 : (t821.size == t809.size) = false := by first | simpa using c31 | (simp at c31 ⊢; omega)
              obtain rfl := Option.some.inj H
              obtain ⟨Ao53, co53, eo53⟩ := Kd.R_slice HO_10.out
              subst eo53
              go_wp2_with (first | ((with_reducible refine gate_callee (f := 46) rfl ?_); refine goesL_ (some 60) rfl rfl Try.func46 (by kernel_rfl) rfl #[.slice A1 l1.length c1, .int .i64 x9_1, .int .i64 (t814.length : Int)] rfl ln_ ?_; (with_reducible refine (laws_a2At.calls _ _ l1 x9_1 (t814.length : Int) t819 _ ?side1 ?side2 A25.out).mono ?_); (case side1 => exact kc_ (Kd.C_below HR1.out HB.out)); (case side2 => exact HC1.out); rintro e w' ⟨rfl, ⟨nd, rfl⟩⟩; refine ⟨_, rfl, ?_⟩; have p820 : 0 ≤ (t819 : Int) := od_; have q820 : t819 < (t814.length : Int) := od_; obtain ⟨ad820, e820, hx820_0⟩ := Kd.at_int (Kd.R_reads' HO_10.out).2.2 t819 p820 q820; cases e820; replace p820 := eq_true p820; replace q820 := eq_true q820; have hcz54_0 : wc.cell? ⟨gb810, 0, none⟩ = some (.slice Ao9 t803.length co9) := (blk_cell BK810.out 0).trans rfl; have hcz54_1 : wc.cell? ⟨gb810, 1, none⟩ = some (.slice Ao11 t806.length co11) := (blk_cell BK810.out 1).trans rfl; have hfz54_0 := blk_frozen BK810.out 0; have hfz54_1 := blk_frozen BK810.out 1) | ((with_reducible refine gate_callee (f := 31) rfl ?_); refine goesL_ (some 67) rfl rfl Try.func31 (by kernel_rfl) rfl #[.agg #[.slice Ao9 t803.length co9, .slice Ao11 t806.length co11], .string x7_1, .int .i64 (rd t814 t819)] rfl ln_ ?_; (with_reducible refine (impl_ChangeLine.calls kj15 _ _ t803 _ _ t806 x7_1 (rd t814 t819) t821 t822 _ ?side1 ?side2 ?side3 ?side4 A28.out).mono ?_); (case side1 => repeat (first | exact (Kd.R_reads' HO_811000.out).2.2 | (with_reducible refine Kd.C_alloc ?_ _) | (with_reducible refine Kd.C_drewN ?_ _) | (with_reducible refine Kd.C_drew ?_))); (case side2 => exact (Kd.R_reads' HO_811000.out).2.1); (case side3 => repeat (first | exact (Kd.S_reads' HO_811001.out).2.2 | (with_reducible refine Kd.C_alloc ?_ _) | (with_reducible refine Kd.C_drewN ?_ _) | (with_reducible refine Kd.C_drew ?_))); (case side4 => exact (Kd.S_reads' HO_811001.out).2.1); rintro e w55 ⟨rfl, hb⟩; refine ⟨_, rfl, ?_⟩; have n0_ := Aside0.mk (Kd.R_below (kr_ HO_8) hb); have n1_ := Aside0.mk (Kd.R_below (kr_ HO_10) hb); have n2_ := Aside0.mk (Kd.R_below (kr_ HO_811000) hb); have n3_ := Aside0.mk (Kd.S_below (by (with_reducible repeat (first | apply Kd.S_alloc | apply Kd.S_drewN | apply Kd.S_drew)); exact HO_811001.out) hb); have n4_ := Aside0.mk (blk_below (g := gb810) (o := .cells #[.slice Ao9 t803.length co9, .slice Ao11 t806.length co11] 28 (0, 0)) (bk_ BK810) hb); have n5_ := Aside0.mk (below_step (hg_ GE810) hb); clear HO_8; clear HO_10; clear HO_811000; clear HO_811001; clear BK810; clear HB; have HO_8 := n0_; have HO_10 := n1_; have HO_811000 := n2_; have HO_811001 := n3_; have BK810 := n4_; have HB := n5_; clear n0_ n1_ n2_ n3_ n4_ n5_; (try clear hb); (try clear hb2); (try clear hk); (try clear hi); have hcz56_0 : w55.cell? ⟨gb810, 0, none⟩ = some (.slice Ao9 t803.length co9) := (blk_cell BK810.out 0).trans rfl; have hcz56_1 : w55.cell? ⟨gb810, 1, none⟩ = some (.slice Ao11 t806.length co11) := (blk_cell BK810.out 1).trans rfl; have hfz56_0 := blk_frozen BK810.out 0; have hfz56_1 := blk_frozen BK810.out 1) | ((with_reducible refine gate_callee (f := 29) rfl ?_); refine goesL_ (some 73) rfl rfl Try.func29 (by kernel_rfl) rfl #[.agg #[.slice Ao9 t803.length co9, .slice Ao11 t806.length co11], .string t821] rfl ln_ ?_; (with_reducible refine (impl_LooseYards.calls kj15 _ _ t803 _ _ t806 t821 t823 t826 _ ?side1 ?side2 ?side3 ?side4 A29.out).mono ?_); (case side1 => repeat (first | exact (Kd.R_reads' HO_811000.out).2.2 | (with_reducible refine Kd.C_alloc ?_ _) | (with_reducible refine Kd.C_drewN ?_ _) | (with_reducible refine Kd.C_drew ?_))); (case side2 => exact (Kd.R_reads' HO_811000.out).2.1); (case side3 => repeat (first | exact (Kd.S_reads' HO_811001.out).2.2 | (with_reducible refine Kd.C_alloc ?_ _) | (with_reducible refine Kd.C_drewN ?_ _) | (with_reducible refine Kd.C_drew ?_))); (case side4 => exact (Kd.S_reads' HO_811001.out).2.1); rintro e w57 ⟨v824, rfl, ho0, hb⟩; refine ⟨_, rfl, ?_⟩; have n0_ := Aside0.mk (Kd.R_elder' (kr_ HO_8) (Kd.R_base ho0) hb); have n1_ := Aside0.mk (Kd.R_elder' (kr_ HO_10) (Kd.R_base ho0) hb); have n2_ := Aside0.mk (Kd.R_elder' (kr_ HO_811000) (Kd.R_base ho0) hb); have n3_ := Aside0.mk (Kd.S_elder' (by (with_reducible repeat (first | apply Kd.S_alloc | apply Kd.S_drewN | apply Kd.S_drew)); exact HO_811001.out) (Kd.R_base ho0) hb); have n4_ := Aside0.mk (Kd.R_lower (Kd.R_new' (Kd.R_new' (Kd.R_new' ho0 (Kd.R_lt (kr_ HO_8))) (Kd.R_lt (kr_ HO_10))) (Kd.R_lt (kr_ HO_811000))) (below_size (hg_ GE810))); have n5_ := Aside0.mk (blk_below (g := gb810) (o := .cells #[.slice Ao9 t803.length co9, .slice Ao11 t806.length co11] 28 (0, 0)) (bk_ BK810) hb); have n6_ := Aside0.mk (below_step (hg_ GE810) hb); clear HO_8; clear HO_10; clear HO_811000; clear HO_811001; clear BK810; clear HB; have HO_8 := n0_; have HO_10 := n1_; have HO_811000 := n2_; have HO_811001 := n3_; have HO825 := n4_; have BK810 := n5_; have HB := n6_; clear n0_ n1_ n2_ n3_ n4_ n5_ n6_; (try clear hb); (try clear hb2); (try clear hk); (try clear hi); (try clear ho0)))
              go_ret
              exact ⟨ew_, (hg_ GE810)⟩
            ·rw [if_neg c30] at H
             have c30b0 : (t822 == 0) = false := beq_eq_false_iff_ne.mpr c30
             have c30b1 : (t822 != 0) = true := bne_iff_ne.mpr c30
             obtain rfl := Option.some.inj H
             obtain ⟨Ao58, co58, eo58⟩ := Kd.R_slice HO_10.out
             subst eo58
             go_wp2_with (first | ((with_reducible refine gate_callee (f := 46) rfl ?_); refine goesL_ (some 60) rfl rfl Try.func46 (by kernel_rfl) rfl #[.slice A1 l1.length c1, .int .i64 x9_1, .int .i64 (t814.length : Int)] rfl ln_ ?_; (with_reducible refine (laws_a2At.calls _ _ l1 x9_1 (t814.length : Int) t819 _ ?side1 ?side2 A25.out).mono ?_); (case side1 => exact kc_ (Kd.C_below HR1.out HB.out)); (case side2 => exact HC1.out); rintro e w' ⟨rfl, ⟨nd, rfl⟩⟩; refine ⟨_, rfl, ?_⟩; have p820 : 0 ≤ (t819 : Int) := od_; have q820 : t819 < (t814.length : Int) := od_; obtain ⟨ad820, e820, hx820_0⟩ := Kd.at_int (Kd.R_reads' HO_10.out).2.2 t819 p820 q820; cases e820; replace p820 := eq_true p820; replace q820 := eq_true q820; have hcz59_0 : wc.cell? ⟨gb810, 0, none⟩ = some (.slice Ao9 t803.length co9) := (blk_cell BK810.out 0).trans rfl; have hcz59_1 : wc.cell? ⟨gb810, 1, none⟩ = some (.slice Ao11 t806.length co11) := (blk_cell BK810.out 1).trans rfl; have hfz59_0 := blk_frozen BK810.out 0; have hfz59_1 := blk_frozen BK810.out 1) | ((with_reducible refine gate_callee (f := 31) rfl ?_); refine goesL_ (some 67) rfl rfl Try.func31 (by kernel_rfl) rfl #[.agg #[.slice Ao9 t803.length co9, .slice Ao11 t806.length co11], .string x7_1, .int .i64 (rd t814 t819)] rfl ln_ ?_; (with_reducible refine (impl_ChangeLine.calls kj15 _ _ t803 _ _ t806 x7_1 (rd t814 t819) t821 t822 _ ?side1 ?side2 ?side3 ?side4 A28.out).mono ?_); (case side1 => repeat (first | exact (Kd.R_reads' HO_811000.out).2.2 | (with_reducible refine Kd.C_alloc ?_ _) | (with_reducible refine Kd.C_drewN ?_ _) | (with_reducible refine Kd.C_drew ?_))); (case side2 => exact (Kd.R_reads' HO_811000.out).2.1); (case side3 => repeat (first | exact (Kd.S_reads' HO_811001.out).2.2 | (with_reducible refine Kd.C_alloc ?_ _) | (with_reducible refine Kd.C_drewN ?_ _) | (with_reducible refine Kd.C_drew ?_))); (case side4 => exact (Kd.S_reads' HO_811001.out).2.1); rintro e w60 ⟨rfl, hb⟩; refine ⟨_, rfl, ?_⟩; have n0_ := Aside0.mk (Kd.R_below (kr_ HO_8) hb); have n1_ := Aside0.mk (Kd.R_below (kr_ HO_10) hb); have n2_ := Aside0.mk (Kd.R_below (kr_ HO_811000) hb); have n3_ := Aside0.mk (Kd.S_below (by (with_reducible repeat (first | apply Kd.S_alloc | apply Kd.S_drewN | apply Kd.S_drew)); exact HO_811001.out) hb); have n4_ := Aside0.mk (blk_below (g := gb810) (o := .cells #[.slice Ao9 t803.length co9, .slice Ao11 t806.length co11] 28 (0, 0)) (bk_ BK810) hb); have n5_ := Aside0.mk (below_step (hg_ GE810) hb); clear HO_8; clear HO_10; clear HO_811000; clear HO_811001; clear BK810; clear HB; have HO_8 := n0_; have HO_10 := n1_; have HO_811000 := n2_; have HO_811001 := n3_; have BK810 := n4_; have HB := n5_; clear n0_ n1_ n2_ n3_ n4_ n5_; (try clear hb); (try clear hb2); (try clear hk); (try clear hi); have hcz61_0 : w60.cell? ⟨gb810, 0, none⟩ = some (.slice Ao9 t803.length co9) := (blk_cell BK810.out 0).trans rfl; have hcz61_1 : w60.cell? ⟨gb810, 1, none⟩ = some (.slice Ao11 t806.length co11) := (blk_cell BK810.out 1).trans rfl; have hfz61_0 := blk_frozen BK810.out 0; have hfz61_1 := blk_frozen BK810.out 1) | ((with_reducible refine gate_callee (f := 29) rfl ?_); refine goesL_ (some 73) rfl rfl Try.func29 (by kernel_rfl) rfl #[.agg #[.slice Ao9 t803.length co9, .slice Ao11 t806.length co11], .string t821] rfl ln_ ?_; (with_reducible refine (impl_LooseYards.calls kj15 _ _ t803 _ _ t806 t821 t823 t826 _ ?side1 ?side2 ?side3 ?side4 A29.out).mono ?_); (case side1 => repeat (first | exact (Kd.R_reads' HO_811000.out).2.2 | (with_reducible refine Kd.C_alloc ?_ _) | (with_reducible refine Kd.C_drewN ?_ _) | (with_reducible refine Kd.C_drew ?_))); (case side2 => exact (Kd.R_reads' HO_811000.out).2.1); (case side3 => repeat (first | exact (Kd.S_reads' HO_811001.out).2.2 | (with_reducible refine Kd.C_alloc ?_ _) | (with_reducible refine Kd.C_drewN ?_ _) | (with_reducible refine Kd.C_drew ?_))); (case side4 => exact (Kd.S_reads' HO_811001.out).2.1); rintro e w62 ⟨v824, rfl, ho0, hb⟩; refine ⟨_, rfl, ?_⟩; have n0_ := Aside0.mk (Kd.R_elder' (kr_ HO_8) (Kd.R_base ho0) hb); have n1_ := Aside0.mk (Kd.R_elder' (kr_ HO_10) (Kd.R_base ho0) hb); have n2_ := Aside0.mk (Kd.R_elder' (kr_ HO_811000) (Kd.R_base ho0) hb); have n3_ := Aside0.mk (Kd.S_elder' (by (with_reducible repeat (first | apply Kd.S_alloc | apply Kd.S_drewN | apply Kd.S_drew)); exact HO_811001.out) (Kd.R_base ho0) hb); have n4_ := Aside0.mk (Kd.R_lower (Kd.R_new' (Kd.R_new' (Kd.R_new' ho0 (Kd.R_lt (kr_ HO_8))) (Kd.R_lt (kr_ HO_10))) (Kd.R_lt (kr_ HO_811000))) (below_size (hg_ GE810))); have n5_ := Aside0.mk (blk_below (g := gb810) (o := .cells #[.slice Ao9 t803.length co9, .slice Ao11 t806.length co11] 28 (0, 0)) (bk_ BK810) hb); have n6_ := Aside0.mk (below_step (hg_ GE810) hb); clear HO_8; clear HO_10; clear HO_811000; clear HO_811001; clear BK810; clear HB; have HO_8 := n0_; have HO_10 := n1_; have HO_811000 := n2_; have HO_811001 := n3_; have HO825 := n4_; have BK810 := n5_; have HB := n6_; clear n0_ n1_ n2_ n3_ n4_ n5_ n6_; (try clear hb); (try clear hb2); (try clear hk); (try clear hi); (try clear ho0)))
             go_ret
             exact ⟨ew_, (hg_ GE810)⟩
           ·rw [if_neg c27] at H
            exact absurd H (by simp)
          ·rw [if_neg c26] at H
           exact absurd H (by simp)
     ·rw [if_neg c14] at H
      have c14b0 : decide (x9_1 < 7) = false := decide_eq_false c14
      clear c14
      (first | rw [c14b0] | (simp only [i64_w, i32_w]; rw [c14b0]) | skip)
      have H' := Aside0.mk H
      clear H
      go_wp2
      go_meet
      case rel => exact ⟨_, (x7_1), (x8_1), (by first | rfl | (simp; done) | (simp [*]; done)), H', ⟨by have := HK1.out; first | omega | exact Nat.le_refl _⟩, ⟨by (with_reducible repeat (first | apply Kd.R_alloc | apply Kd.R_drewN | apply Kd.R_drew)); exact HO_8.out⟩, ⟨by (with_reducible repeat (first | apply Kd.R_alloc | apply Kd.R_drewN | apply Kd.R_drew)); exact HO_811000.out⟩, ⟨by (with_reducible repeat (first | apply Kd.S_alloc | apply Kd.S_drewN | apply Kd.S_drew)); exact HO_811001.out⟩, ⟨by (with_reducible repeat (first | refine blk_drewN ?_ _ | refine blk_drew ?_ | refine blk_alloc ?_ _)); exact BK810.out⟩, ⟨(hg_ GE810)⟩⟩
  case rest =>
   clear HC6
   try clear c1
   try clear c2
   try clear p2
   try clear c3
   try clear c4
   try clear p6
   try clear p8
   try clear q8
   try clear hx8
   try clear c13
   try clear c14
   try clear c14b0
   try clear c19
   try clear c19b0
   try clear c19b1
   try clear c22
   try clear c23
   try clear c23b0
   try clear c23b1
   try clear c23b2
   try clear c26
   try clear c26b0
   try clear c27
   try clear c27b0
   try clear c29
   try clear c30
   try clear c30b0
   try clear c30b1
   try clear c31
   try clear c31b0
   try clear c31b1
   try clear c31b2
   try clear c32
   try clear c32b0
   try clear c32b1
   try clear c33
   try clear c33b0
   try clear c33b1
   try clear c33b2
   try clear c34
   try clear c36
   try clear c43
   try clear c44
   try clear c46
   try clear hcz10_0
   try clear hcz10_1
   try clear hcz17_0
   try clear hcz17_1
   try clear hcz36_0
   try clear hcz36_1
   try clear hcz38_0
   try clear hcz38_1
   try clear hcz43_0
   try clear hcz43_1
   try clear hcz45_0
   try clear hcz45_1
   try clear hcz49_0
   try clear hcz49_1
   try clear hcz51_0
   try clear hcz51_1
   try clear hcz54_0
   try clear hcz54_1
   try clear hcz56_0
   try clear hcz56_1
   try clear hcz59_0
   try clear hcz59_1
   try clear hcz61_0
   try clear hcz61_1
   try clear hfz10_0
   try clear hfz10_1
   try clear hfz17_0
   try clear hfz17_1
   try clear hfz36_0
   try clear hfz36_1
   try clear hfz38_0
   try clear hfz38_1
   try clear hfz43_0
   try clear hfz43_1
   try clear hfz45_0
   try clear hfz45_1
   try clear hfz49_0
   try clear hfz49_1
   try clear hfz51_0
   try clear hfz51_1
   try clear hfz54_0
   try clear hfz54_1
   try clear hfz56_0
   try clear hfz56_1
   try clear hfz59_0
   try clear hfz59_1
   try clear hfz61_0
   try clear hfz61_1
   try clear hx820_0
   try clear p2
   try clear p820
   try clear q820
   obtain ⟨kq, x7_5, x8_5, rfl, HA, HJ5, HO_8, HO_811000, HO_811001, BK810, HB⟩ := hcut
   cases kq with
   | zero => exact absurd HA.out (by simp [laws_FnManoeuvres.j2])
   | succ kj5 =>
    have H := HA.out
    clear HA
    simp only [laws_FnManoeuvres.j2] at H
    replace H := Option.bind_eq_some_iff.mp H
    obtain ⟨⟨t830, t831⟩, A630, H⟩ := H
    replace H : ((impl_ShortestSteps.f kj5 t803 t806 t809 x7_5).bind fun bt832 => (if t831 = 0 then (if t830.toList = x7_5.toList then (if bt832.2 = 0 then (if (bt832.1.length : Int) > (x8_5.length : Int) then (some false) else (if ((bt832.1.length : Int) % 2) = ((x8_5.length : Int) % 2) then ((impl_RunSteps.f kj5 t803 t806 t809 bt832.1).bind fun bt836 => (if bt836.2 = 0 then (some (bt836.1.toList == x7_5.toList)) else (some false))) else (some false))) else (some false)) else (some false)) else (some false))) = some r := H
    have A63 := Aside0.mk A630
    clear A630
    replace H := Option.bind_eq_some_iff.mp H
    obtain ⟨⟨t832, t835⟩, A640, H⟩ := H
    replace H : (if t831 = 0 then (if t830.toList = x7_5.toList then (if t835 = 0 then (if (t832.length : Int) > (x8_5.length : Int) then (some false) else (if ((t832.length : Int) % 2) = ((x8_5.length : Int) % 2) then ((impl_RunSteps.f kj5 t803 t806 t809 t832).bind fun bt836 => (if bt836.2 = 0 then (some (bt836.1.toList == x7_5.toList)) else (some false))) else (some false))) else (some false)) else (some false)) else (some false)) = some r := H
    have A64 := Aside0.mk A640
    clear A640
    by_cases c65 : t831 = 0
    ·rw [if_pos c65] at H
     have c65b0 : (t831 == 0) = true := beq_iff_eq.mpr c65
     have c65b1 : (t831 != 0) = false := bne_eq_false_iff_eq.mpr c65
     clear c65
     by_cases c66 : t830.toList = x7_5.toList
     ·rw [if_pos c66] at H
      have c66b0 : (t830.toList == x7_5.toList) = true := beq_iff_eq.mpr c66
      have c66b1 : (t830.toList != x7_5.toList) = false := bne_eq_false_iff_eq.mpr c66
      clear c66
      by_cases c67 : t835 = 0
      ·rw [if_pos c67] at H
       have c67b0 : (t835 == 0) = true := beq_iff_eq.mpr c67
       have c67b1 : (t835 != 0) = false := bne_eq_false_iff_eq.mpr c67
       clear c67
       by_cases c68 : (t832.length : Int) > (x8_5.length : Int)
       ·rw [if_pos c68] at H
        have c68b0 : decide ((x8_5.length : Int) < (t832.length : Int)) = true := decide_eq_true c68
        have c68b1 : decide (x8_5.length < t832.length) = true := decide_eq_true (Int.ofNat_lt.mp c68)
        clear c68
        obtain rfl := Option.some.inj H
        have hcz69_0 : wc.cell? ⟨gb810, 0, none⟩ = some (.slice Ao9 t803.length co9) := (blk_cell BK810.out 0).trans rfl
        have hcz69_1 : wc.cell? ⟨gb810, 1, none⟩ = some (.slice Ao11 t806.length co11) := (blk_cell BK810.out 1).trans rfl
        have hfz69_0 := blk_frozen BK810.out 0
        have hfz69_1 := blk_frozen BK810.out 1
        obtain ⟨Ao70, co70, eo70⟩ := Kd.R_slice HO_8.out
        subst eo70
        go_wp2_with (first | ((with_reducible refine gate_callee (f := 34) rfl ?_); refine goesL_ (some 103) rfl rfl Try.func34 (by kernel_rfl) rfl #[.agg #[.slice Ao9 t803.length co9, .slice Ao11 t806.length co11], .string t809, .slice Ao70 x8_5.length co70] rfl ln_ ?_; (with_reducible refine (impl_RunSteps.calls kj5 _ _ t803 _ _ t806 t809 _ _ x8_5 t830 t831 _ ?side1 ?side2 ?side3 ?side4 ?side5 ?side6 A63.out).mono ?_); (case side1 => repeat (first | exact (Kd.R_reads' HO_811000.out).2.2 | (with_reducible refine Kd.C_alloc ?_ _) | (with_reducible refine Kd.C_drewN ?_ _) | (with_reducible refine Kd.C_drew ?_))); (case side2 => exact (Kd.R_reads' HO_811000.out).2.1); (case side3 => repeat (first | exact (Kd.S_reads' HO_811001.out).2.2 | (with_reducible refine Kd.C_alloc ?_ _) | (with_reducible refine Kd.C_drewN ?_ _) | (with_reducible refine Kd.C_drew ?_))); (case side4 => exact (Kd.S_reads' HO_811001.out).2.1); (case side5 => repeat (first | exact (Kd.R_reads' HO_8.out).2.2 | (with_reducible refine Kd.C_alloc ?_ _) | (with_reducible refine Kd.C_drewN ?_ _) | (with_reducible refine Kd.C_drew ?_))); (case side6 => exact (Kd.R_reads' HO_8.out).2.1); rintro e w71 ⟨rfl, hb⟩; refine ⟨_, rfl, ?_⟩; have n0_ := Aside0.mk (Kd.R_below (kr_ HO_8) hb); have n1_ := Aside0.mk (Kd.R_below (kr_ HO_811000) hb); have n2_ := Aside0.mk (Kd.S_below (by (with_reducible repeat (first | apply Kd.S_alloc | apply Kd.S_drewN | apply Kd.S_drew)); exact HO_811001.out) hb); have n3_ := Aside0.mk (blk_below (g := gb810) (o := .cells #[.slice Ao9 t803.length co9, .slice Ao11 t806.length co11] 28 (0, 0)) (bk_ BK810) hb); have n4_ := Aside0.mk (below_step (hg_ GE810) hb); clear HO_8; clear HO_811000; clear HO_811001; clear BK810; clear HB; have HO_8 := n0_; have HO_811000 := n1_; have HO_811001 := n2_; have BK810 := n3_; have HB := n4_; clear n0_ n1_ n2_ n3_ n4_; (try clear hb); (try clear hb2); (try clear hk); (try clear hi); have hcz72_0 : w71.cell? ⟨gb810, 0, none⟩ = some (.slice Ao9 t803.length co9) := (blk_cell BK810.out 0).trans rfl; have hcz72_1 : w71.cell? ⟨gb810, 1, none⟩ = some (.slice Ao11 t806.length co11) := (blk_cell BK810.out 1).trans rfl; have hfz72_0 := blk_frozen BK810.out 0; have hfz72_1 := blk_frozen BK810.out 1) | ((with_reducible refine gate_callee (f := 40) rfl ?_); refine goesL_ (some 110) rfl rfl Try.func40 (by kernel_rfl) rfl #[.agg #[.slice Ao9 t803.length co9, .slice Ao11 t806.length co11], .string t809, .string x7_5] rfl ln_ ?_; (with_reducible refine (impl_ShortestSteps.calls kj5 _ _ t803 _ _ t806 t809 x7_5 t832 t835 _ ?side1 ?side2 ?side3 ?side4 A64.out).mono ?_); (case side1 => repeat (first | exact (Kd.R_reads' HO_811000.out).2.2 | (with_reducible refine Kd.C_alloc ?_ _) | (with_reducible refine Kd.C_drewN ?_ _) | (with_reducible refine Kd.C_drew ?_))); (case side2 => exact (Kd.R_reads' HO_811000.out).2.1); (case side3 => repeat (first | exact (Kd.S_reads' HO_811001.out).2.2 | (with_reducible refine Kd.C_alloc ?_ _) | (with_reducible refine Kd.C_drewN ?_ _) | (with_reducible refine Kd.C_drew ?_))); (case side4 => exact (Kd.S_reads' HO_811001.out).2.1); rintro e w73 ⟨v833, rfl, ho0, hb⟩; refine ⟨_, rfl, ?_⟩; have n0_ := Aside0.mk (Kd.R_elder' (kr_ HO_8) (Kd.R_base ho0) hb); have n1_ := Aside0.mk (Kd.R_elder' (kr_ HO_811000) (Kd.R_base ho0) hb); have n2_ := Aside0.mk (Kd.S_elder' (by (with_reducible repeat (first | apply Kd.S_alloc | apply Kd.S_drewN | apply Kd.S_drew)); exact HO_811001.out) (Kd.R_base ho0) hb); have n3_ := Aside0.mk (Kd.R_lower (Kd.R_new' (Kd.R_new' ho0 (Kd.R_lt (kr_ HO_8))) (Kd.R_lt (kr_ HO_811000))) (below_size (hg_ GE810))); have n4_ := Aside0.mk (blk_below (g := gb810) (o := .cells #[.slice Ao9 t803.length co9, .slice Ao11 t806.length co11] 28 (0, 0)) (bk_ BK810) hb); have n5_ := Aside0.mk (below_step (hg_ GE810) hb); clear HO_8; clear HO_811000; clear HO_811001; clear BK810; clear HB; have HO_8 := n0_; have HO_811000 := n1_; have HO_811001 := n2_; have HO834 := n3_; have BK810 := n4_; have HB := n5_; clear n0_ n1_ n2_ n3_ n4_ n5_; (try clear hb); (try clear hb2); (try clear hk); (try clear hi); (try clear ho0); obtain ⟨Ao74, co74, eo74⟩ := Kd.R_slice HO834.out; subst eo74))
        go_ret
        exact ⟨ew_, (hg_ GE810)⟩
       ·rw [if_neg c68] at H
        have c68b0 : decide ((x8_5.length : Int) < (t832.length : Int)) = false := decide_eq_false c68
        have c68b1 : decide (x8_5.length < t832.length) = false := decide_eq_false (fun h => c68 (Int.ofNat_lt.mpr h))
        clear c68
        by_cases c75 : ((t832.length : Int) % 2) = ((x8_5.length : Int) % 2)
        ·rw [if_pos c75] at H
         have c75b0 : (((t832.length : Int) % 2) == ((x8_5.length : Int) % 2)) = true := beq_iff_eq.mpr c75
         have c75b1 : (((t832.length : Int) % 2) != ((x8_5.length : Int) % 2)) = false := bne_eq_false_iff_eq.mpr c75
         clear c75
         replace H := Option.bind_eq_some_iff.mp H
         obtain ⟨⟨t836, t837⟩, A760, H⟩ := H
         replace H : (if t837 = 0 then (some (t836.toList == x7_5.toList)) else (some false)) = some r := H
         have A76 := Aside0.mk A760
         clear A760
         by_cases c77 : t837 = 0
         ·rw [if_pos c77] at H
          have c77b0 : (t837 == 0) = true := beq_iff_eq.mpr c77
          have c77b1 : (t837 != 0) = false := bne_eq_false_iff_eq.mpr c77
          clear c77
          obtain rfl := Option.some.inj H
          have hcz78_0 : wc.cell? ⟨gb810, 0, none⟩ = some (.slice Ao9 t803.length co9) := (blk_cell BK810.out 0).trans rfl
          have hcz78_1 : wc.cell? ⟨gb810, 1, none⟩ = some (.slice Ao11 t806.length co11) := (blk_cell BK810.out 1).trans rfl
          have hfz78_0 := blk_frozen BK810.out 0
          have hfz78_1 := blk_frozen BK810.out 1
          obtain ⟨Ao79, co79, eo79⟩ := Kd.R_slice HO_8.out
          subst eo79
          go_wp2_with (first | ((with_reducible refine gate_callee (f := 34) rfl ?_); refine goesL_ (some 103) rfl rfl Try.func34 (by kernel_rfl) rfl #[.agg #[.slice Ao9 t803.length co9, .slice Ao11 t806.length co11], .string t809, .slice Ao79 x8_5.length co79] rfl ln_ ?_; (with_reducible refine (impl_RunSteps.calls kj5 _ _ t803 _ _ t806 t809 _ _ x8_5 t830 t831 _ ?side1 ?side2 ?side3 ?side4 ?side5 ?side6 A63.out).mono ?_); (case side1 => repeat (first | exact (Kd.R_reads' HO_811000.out).2.2 | (with_reducible refine Kd.C_alloc ?_ _) | (with_reducible refine Kd.C_drewN ?_ _) | (with_reducible refine Kd.C_drew ?_))); (case side2 => exact (Kd.R_reads' HO_811000.out).2.1); (case side3 => repeat (first | exact (Kd.S_reads' HO_811001.out).2.2 | (with_reducible refine Kd.C_alloc ?_ _) | (with_reducible refine Kd.C_drewN ?_ _) | (with_reducible refine Kd.C_drew ?_))); (case side4 => exact (Kd.S_reads' HO_811001.out).2.1); (case side5 => repeat (first | exact (Kd.R_reads' HO_8.out).2.2 | (with_reducible refine Kd.C_alloc ?_ _) | (with_reducible refine Kd.C_drewN ?_ _) | (with_reducible refine Kd.C_drew ?_))); (case side6 => exact (Kd.R_reads' HO_8.out).2.1); rintro e w80 ⟨rfl, hb⟩; refine ⟨_, rfl, ?_⟩; have n0_ := Aside0.mk (Kd.R_below (kr_ HO_8) hb); have n1_ := Aside0.mk (Kd.R_below (kr_ HO_811000) hb); have n2_ := Aside0.mk (Kd.S_below (by (with_reducible repeat (first | apply Kd.S_alloc | apply Kd.S_drewN | apply Kd.S_drew)); exact HO_811001.out) hb); have n3_ := Aside0.mk (blk_below (g := gb810) (o := .cells #[.slice Ao9 t803.length co9, .slice Ao11 t806.length co11] 28 (0, 0)) (bk_ BK810) hb); have n4_ := Aside0.mk (below_step (hg_ GE810) hb); clear HO_8; clear HO_811000; clear HO_811001; clear BK810; clear HB; have HO_8 := n0_; have HO_811000 := n1_; have HO_811001 := n2_; have BK810 := n3_; have HB := n4_; clear n0_ n1_ n2_ n3_ n4_; (try clear hb); (try clear hb2); (try clear hk); (try clear hi); have hcz81_0 : w80.cell? ⟨gb810, 0, none⟩ = some (.slice Ao9 t803.length co9) := (blk_cell BK810.out 0).trans rfl; have hcz81_1 : w80.cell? ⟨gb810, 1, none⟩ = some (.slice Ao11 t806.length co11) := (blk_cell BK810.out 1).trans rfl; have hfz81_0 := blk_frozen BK810.out 0; have hfz81_1 := blk_frozen BK810.out 1) | ((with_reducible refine gate_callee (f := 40) rfl ?_); refine goesL_ (some 110) rfl rfl Try.func40 (by kernel_rfl) rfl #[.agg #[.slice Ao9 t803.length co9, .slice Ao11 t806.length co11], .string t809, .string x7_5] rfl ln_ ?_; (with_reducible refine (impl_ShortestSteps.calls kj5 _ _ t803 _ _ t806 t809 x7_5 t832 t835 _ ?side1 ?side2 ?side3 ?side4 A64.out).mono ?_); (case side1 => repeat (first | exact (Kd.R_reads' HO_811000.out).2.2 | (with_reducible refine Kd.C_alloc ?_ _) | (with_reducible refine Kd.C_drewN ?_ _) | (with_reducible refine Kd.C_drew ?_))); (case side2 => exact (Kd.R_reads' HO_811000.out).2.1); (case side3 => repeat (first | exact (Kd.S_reads' HO_811001.out).2.2 | (with_reducible refine Kd.C_alloc ?_ _) | (with_reducible refine Kd.C_drewN ?_ _) | (with_reducible refine Kd.C_drew ?_))); (case side4 => exact (Kd.S_reads' HO_811001.out).2.1); rintro e w82 ⟨v833, rfl, ho0, hb⟩; refine ⟨_, rfl, ?_⟩; have n0_ := Aside0.mk (Kd.R_elder' (kr_ HO_8) (Kd.R_base ho0) hb); have n1_ := Aside0.mk (Kd.R_elder' (kr_ HO_811000) (Kd.R_base ho0) hb); have n2_ := Aside0.mk (Kd.S_elder' (by (with_reducible repeat (first | apply Kd.S_alloc | apply Kd.S_drewN | apply Kd.S_drew)); exact HO_811001.out) (Kd.R_base ho0) hb); have n3_ := Aside0.mk (Kd.R_lower (Kd.R_new' (Kd.R_new' ho0 (Kd.R_lt (kr_ HO_8))) (Kd.R_lt (kr_ HO_811000))) (below_size (hg_ GE810))); have n4_ := Aside0.mk (blk_below (g := gb810) (o := .cells #[.slice Ao9 t803.length co9, .slice Ao11 t806.length co11] 28 (0, 0)) (bk_ BK810) hb); have n5_ := Aside0.mk (below_step (hg_ GE810) hb); clear HO_8; clear HO_811000; clear HO_811001; clear BK810; clear HB; have HO_8 := n0_; have HO_811000 := n1_; have HO_811001 := n2_; have HO834 := n3_; have BK810 := n4_; have HB := n5_; clear n0_ n1_ n2_ n3_ n4_ n5_; (try clear hb); (try clear hb2); (try clear hk); (try clear hi); (try clear ho0); obtain ⟨Ao83, co83, eo83⟩ := Kd.R_slice HO834.out; subst eo83; have hcz84_0 : w82.cell? ⟨gb810, 0, none⟩ = some (.slice Ao9 t803.length co9) := (blk_cell BK810.out 0).trans rfl; have hcz84_1 : w82.cell? ⟨gb810, 1, none⟩ = some (.slice Ao11 t806.length co11) := (blk_cell BK810.out 1).trans rfl; have hfz84_0 := blk_frozen BK810.out 0; have hfz84_1 := blk_frozen BK810.out 1) | ((with_reducible refine gate_callee (f := 34) rfl ?_); refine goesL_ (some 144) rfl rfl Try.func34 (by kernel_rfl) rfl #[.agg #[.slice Ao9 t803.length co9, .slice Ao11 t806.length co11], .string t809, .slice Ao83 t832.length co83] rfl ln_ ?_; (with_reducible refine (impl_RunSteps.calls kj5 _ _ t803 _ _ t806 t809 _ _ t832 t836 t837 _ ?side1 ?side2 ?side3 ?side4 ?side5 ?side6 A76.out).mono ?_); (case side1 => repeat (first | exact (Kd.R_reads' HO_811000.out).2.2 | (with_reducible refine Kd.C_alloc ?_ _) | (with_reducible refine Kd.C_drewN ?_ _) | (with_reducible refine Kd.C_drew ?_))); (case side2 => exact (Kd.R_reads' HO_811000.out).2.1); (case side3 => repeat (first | exact (Kd.S_reads' HO_811001.out).2.2 | (with_reducible refine Kd.C_alloc ?_ _) | (with_reducible refine Kd.C_drewN ?_ _) | (with_reducible refine Kd.C_drew ?_))); (case side4 => exact (Kd.S_reads' HO_811001.out).2.1); (case side5 => repeat (first | exact (Kd.R_reads' HO834.out).2.2 | (with_reducible refine Kd.C_alloc ?_ _) | (with_reducible refine Kd.C_drewN ?_ _) | (with_reducible refine Kd.C_drew ?_))); (case side6 => exact (Kd.R_reads' HO834.out).2.1); rintro e w85 ⟨rfl, hb⟩; refine ⟨_, rfl, ?_⟩; have n0_ := Aside0.mk (Kd.R_below (kr_ HO_8) hb); have n1_ := Aside0.mk (Kd.R_below (kr_ HO_811000) hb); have n2_ := Aside0.mk (Kd.S_below (by (with_reducible repeat (first | apply Kd.S_alloc | apply Kd.S_drewN | apply Kd.S_drew)); exact HO_811001.out) hb); have n3_ := Aside0.mk (Kd.R_below (kr_ HO834) hb); have n4_ := Aside0.mk (blk_below (g := gb810) (o := .cells #[.slice Ao9 t803.length co9, .slice Ao11 t806.length co11] 28 (0, 0)) (bk_ BK810) hb); have n5_ := Aside0.mk (below_step (hg_ GE810) hb); clear HO_8; clear HO_811000; clear HO_811001; clear HO834; clear BK810; clear HB; have HO_8 := n0_; have HO_811000 := n1_; have HO_811001 := n2_; have HO834 := n3_; have BK810 := n4_; have HB := n5_; clear n0_ n1_ n2_ n3_ n4_ n5_; (try clear hb); (try clear hb2); (try clear hk); (try clear hi)))
          go_ret
          exact ⟨ew_, (hg_ GE810)⟩
         ·rw [if_neg c77] at H
          have c77b0 : (t837 == 0) = false := beq_eq_false_iff_ne.mpr c77
          have c77b1 : (t837 != 0) = true := bne_iff_ne.mpr c77
          obtain rfl := Option.some.inj H
          have hcz86_0 : wc.cell? ⟨gb810, 0, none⟩ = some (.slice Ao9 t803.length co9) := (blk_cell BK810.out 0).trans rfl
          have hcz86_1 : wc.cell? ⟨gb810, 1, none⟩ = some (.slice Ao11 t806.length co11) := (blk_cell BK810.out 1).trans rfl
          have hfz86_0 := blk_frozen BK810.out 0
          have hfz86_1 := blk_frozen BK810.out 1
          obtain ⟨Ao87, co87, eo87⟩ := Kd.R_slice HO_8.out
          subst eo87
          go_wp2_with (first | ((with_reducible refine gate_callee (f := 34) rfl ?_); refine goesL_ (some 103) rfl rfl Try.func34 (by kernel_rfl) rfl #[.agg #[.slice Ao9 t803.length co9, .slice Ao11 t806.length co11], .string t809, .slice Ao87 x8_5.length co87] rfl ln_ ?_; (with_reducible refine (impl_RunSteps.calls kj5 _ _ t803 _ _ t806 t809 _ _ x8_5 t830 t831 _ ?side1 ?side2 ?side3 ?side4 ?side5 ?side6 A63.out).mono ?_); (case side1 => repeat (first | exact (Kd.R_reads' HO_811000.out).2.2 | (with_reducible refine Kd.C_alloc ?_ _) | (with_reducible refine Kd.C_drewN ?_ _) | (with_reducible refine Kd.C_drew ?_))); (case side2 => exact (Kd.R_reads' HO_811000.out).2.1); (case side3 => repeat (first | exact (Kd.S_reads' HO_811001.out).2.2 | (with_reducible refine Kd.C_alloc ?_ _) | (with_reducible refine Kd.C_drewN ?_ _) | (with_reducible refine Kd.C_drew ?_))); (case side4 => exact (Kd.S_reads' HO_811001.out).2.1); (case side5 => repeat (first | exact (Kd.R_reads' HO_8.out).2.2 | (with_reducible refine Kd.C_alloc ?_ _) | (with_reducible refine Kd.C_drewN ?_ _) | (with_reducible refine Kd.C_drew ?_))); (case side6 => exact (Kd.R_reads' HO_8.out).2.1); rintro e w88 ⟨rfl, hb⟩; refine ⟨_, rfl, ?_⟩; have n0_ := Aside0.mk (Kd.R_below (kr_ HO_8) hb); have n1_ := Aside0.mk (Kd.R_below (kr_ HO_811000) hb); have n2_ := Aside0.mk (Kd.S_below (by (with_reducible repeat (first | apply Kd.S_alloc | apply Kd.S_drewN | apply Kd.S_drew)); exact HO_811001.out) hb); have n3_ := Aside0.mk (blk_below (g := gb810) (o := .cells #[.slice Ao9 t803.length co9, .slice Ao11 t806.length co11] 28 (0, 0)) (bk_ BK810) hb); have n4_ := Aside0.mk (below_step (hg_ GE810) hb); clear HO_8; clear HO_811000; clear HO_811001; clear BK810; clear HB; have HO_8 := n0_; have HO_811000 := n1_; have HO_811001 := n2_; have BK810 := n3_; have HB := n4_; clear n0_ n1_ n2_ n3_ n4_; (try clear hb); (try clear hb2); (try clear hk); (try clear hi); have hcz89_0 : w88.cell? ⟨gb810, 0, none⟩ = some (.slice Ao9 t803.length co9) := (blk_cell BK810.out 0).trans rfl; have hcz89_1 : w88.cell? ⟨gb810, 1, none⟩ = some (.slice Ao11 t806.length co11) := (blk_cell BK810.out 1).trans rfl; have hfz89_0 := blk_frozen BK810.out 0; have hfz89_1 := blk_frozen BK810.out 1) | ((with_reducible refine gate_callee (f := 40) rfl ?_); refine goesL_ (some 110) rfl rfl Try.func40 (by kernel_rfl) rfl #[.agg #[.slice Ao9 t803.length co9, .slice Ao11 t806.length co11], .string t809, .string x7_5] rfl ln_ ?_; (with_reducible refine (impl_ShortestSteps.calls kj5 _ _ t803 _ _ t806 t809 x7_5 t832 t835 _ ?side1 ?side2 ?side3 ?side4 A64.out).mono ?_); (case side1 => repeat (first | exact (Kd.R_reads' HO_811000.out).2.2 | (with_reducible refine Kd.C_alloc ?_ _) | (with_reducible refine Kd.C_drewN ?_ _) | (with_reducible refine Kd.C_drew ?_))); (case side2 => exact (Kd.R_reads' HO_811000.out).2.1); (case side3 => repeat (first | exact (Kd.S_reads' HO_811001.out).2.2 | (with_reducible refine Kd.C_alloc ?_ _) | (with_reducible refine Kd.C_drewN ?_ _) | (with_reducible refine Kd.C_drew ?_))); (case side4 => exact (Kd.S_reads' HO_811001.out).2.1); rintro e w90 ⟨v833, rfl, ho0, hb⟩; refine ⟨_, rfl, ?_⟩; have n0_ := Aside0.mk (Kd.R_elder' (kr_ HO_8) (Kd.R_base ho0) hb); have n1_ := Aside0.mk (Kd.R_elder' (kr_ HO_811000) (Kd.R_base ho0) hb); have n2_ := Aside0.mk (Kd.S_elder' (by (with_reducible repeat (first | apply Kd.S_alloc | apply Kd.S_drewN | apply Kd.S_drew)); exact HO_811001.out) (Kd.R_base ho0) hb); have n3_ := Aside0.mk (Kd.R_lower (Kd.R_new' (Kd.R_new' ho0 (Kd.R_lt (kr_ HO_8))) (Kd.R_lt (kr_ HO_811000))) (below_size (hg_ GE810))); have n4_ := Aside0.mk (blk_below (g := gb810) (o := .cells #[.slice Ao9 t803.length co9, .slice Ao11 t806.length co11] 28 (0, 0)) (bk_ BK810) hb); have n5_ := Aside0.mk (below_step (hg_ GE810) hb); clear HO_8; clear HO_811000; clear HO_811001; clear BK810; clear HB; have HO_8 := n0_; have HO_811000 := n1_; have HO_811001 := n2_; have HO834 := n3_; have BK810 := n4_; have HB := n5_; clear n0_ n1_ n2_ n3_ n4_ n5_; (try clear hb); (try clear hb2); (try clear hk); (try clear hi); (try clear ho0); obtain ⟨Ao91, co91, eo91⟩ := Kd.R_slice HO834.out; subst eo91; have hcz92_0 : w90.cell? ⟨gb810, 0, none⟩ = some (.slice Ao9 t803.length co9) := (blk_cell BK810.out 0).trans rfl; have hcz92_1 : w90.cell? ⟨gb810, 1, none⟩ = some (.slice Ao11 t806.length co11) := (blk_cell BK810.out 1).trans rfl; have hfz92_0 := blk_frozen BK810.out 0; have hfz92_1 := blk_frozen BK810.out 1) | ((with_reducible refine gate_callee (f := 34) rfl ?_); refine goesL_ (some 144) rfl rfl Try.func34 (by kernel_rfl) rfl #[.agg #[.slice Ao9 t803.length co9, .slice Ao11 t806.length co11], .string t809, .slice Ao91 t832.length co91] rfl ln_ ?_; (with_reducible refine (impl_RunSteps.calls kj5 _ _ t803 _ _ t806 t809 _ _ t832 t836 t837 _ ?side1 ?side2 ?side3 ?side4 ?side5 ?side6 A76.out).mono ?_); (case side1 => repeat (first | exact (Kd.R_reads' HO_811000.out).2.2 | (with_reducible refine Kd.C_alloc ?_ _) | (with_reducible refine Kd.C_drewN ?_ _) | (with_reducible refine Kd.C_drew ?_))); (case side2 => exact (Kd.R_reads' HO_811000.out).2.1); (case side3 => repeat (first | exact (Kd.S_reads' HO_811001.out).2.2 | (with_reducible refine Kd.C_alloc ?_ _) | (with_reducible refine Kd.C_drewN ?_ _) | (with_reducible refine Kd.C_drew ?_))); (case side4 => exact (Kd.S_reads' HO_811001.out).2.1); (case side5 => repeat (first | exact (Kd.R_reads' HO834.out).2.2 | (with_reducible refine Kd.C_alloc ?_ _) | (with_reducible refine Kd.C_drewN ?_ _) | (with_reducible refine Kd.C_drew ?_))); (case side6 => exact (Kd.R_reads' HO834.out).2.1); rintro e w93 ⟨rfl, hb⟩; refine ⟨_, rfl, ?_⟩; have n0_ := Aside0.mk (Kd.R_below (kr_ HO_8) hb); have n1_ := Aside0.mk (Kd.R_below (kr_ HO_811000) hb); have n2_ := Aside0.mk (Kd.S_below (by (with_reducible repeat (first | apply Kd.S_alloc | apply Kd.S_drewN | apply Kd.S_drew)); exact HO_811001.out) hb); have n3_ := Aside0.mk (Kd.R_below (kr_ HO834) hb); have n4_ := Aside0.mk (blk_below (g := gb810) (o := .cells #[.slice Ao9 t803.length co9, .slice Ao11 t806.length co11] 28 (0, 0)) (bk_ BK810) hb); have n5_ := Aside0.mk (below_step (hg_ GE810) hb); clear HO_8; clear HO_811000; clear HO_811001; clear HO834; clear BK810; clear HB; have HO_8 := n0_; have HO_811000 := n1_; have HO_811001 := n2_; have HO834 := n3_; have BK810 := n4_; have HB := n5_; clear n0_ n1_ n2_ n3_ n4_ n5_; (try clear hb); (try clear hb2); (try clear hk); (try clear hi)))
          go_ret
          exact ⟨ew_, (hg_ GE810)⟩
        ·rw [if_neg c75] at H
         have c75b0 : (((t832.length : Int) % 2) == ((x8_5.length : Int) % 2)) = false := beq_eq_false_iff_ne.mpr c75
         have c75b1 : (((t832.length : Int) % 2) != ((x8_5.length : Int) % 2)) = true := bne_iff_ne.mpr c75
         obtain rfl := Option.some.inj H
         have hcz94_0 : wc.cell? ⟨gb810, 0, none⟩ = some (.slice Ao9 t803.length co9) := (blk_cell BK810.out 0).trans rfl
         have hcz94_1 : wc.cell? ⟨gb810, 1, none⟩ = some (.slice Ao11 t806.length co11) := (blk_cell BK810.out 1).trans rfl
         have hfz94_0 := blk_frozen BK810.out 0
         have hfz94_1 := blk_frozen BK810.out 1
         obtain ⟨Ao95, co95, eo95⟩ := Kd.R_slice HO_8.out
         subst eo95
         go_wp2_with (first | ((with_reducible refine gate_callee (f := 34) rfl ?_); refine goesL_ (some 103) rfl rfl Try.func34 (by kernel_rfl) rfl #[.agg #[.slice Ao9 t803.length co9, .slice Ao11 t806.length co11], .string t809, .slice Ao95 x8_5.length co95] rfl ln_ ?_; (with_reducible refine (impl_RunSteps.calls kj5 _ _ t803 _ _ t806 t809 _ _ x8_5 t830 t831 _ ?side1 ?side2 ?side3 ?side4 ?side5 ?side6 A63.out).mono ?_); (case side1 => repeat (first | exact (Kd.R_reads' HO_811000.out).2.2 | (with_reducible refine Kd.C_alloc ?_ _) | (with_reducible refine Kd.C_drewN ?_ _) | (with_reducible refine Kd.C_drew ?_))); (case side2 => exact (Kd.R_reads' HO_811000.out).2.1); (case side3 => repeat (first | exact (Kd.S_reads' HO_811001.out).2.2 | (with_reducible refine Kd.C_alloc ?_ _) | (with_reducible refine Kd.C_drewN ?_ _) | (with_reducible refine Kd.C_drew ?_))); (case side4 => exact (Kd.S_reads' HO_811001.out).2.1); (case side5 => repeat (first | exact (Kd.R_reads' HO_8.out).2.2 | (with_reducible refine Kd.C_alloc ?_ _) | (with_reducible refine Kd.C_drewN ?_ _) | (with_reducible refine Kd.C_drew ?_))); (case side6 => exact (Kd.R_reads' HO_8.out).2.1); rintro e w96 ⟨rfl, hb⟩; refine ⟨_, rfl, ?_⟩; have n0_ := Aside0.mk (Kd.R_below (kr_ HO_8) hb); have n1_ := Aside0.mk (Kd.R_below (kr_ HO_811000) hb); have n2_ := Aside0.mk (Kd.S_below (by (with_reducible repeat (first | apply Kd.S_alloc | apply Kd.S_drewN | apply Kd.S_drew)); exact HO_811001.out) hb); have n3_ := Aside0.mk (blk_below (g := gb810) (o := .cells #[.slice Ao9 t803.length co9, .slice Ao11 t806.length co11] 28 (0, 0)) (bk_ BK810) hb); have n4_ := Aside0.mk (below_step (hg_ GE810) hb); clear HO_8; clear HO_811000; clear HO_811001; clear BK810; clear HB; have HO_8 := n0_; have HO_811000 := n1_; have HO_811001 := n2_; have BK810 := n3_; have HB := n4_; clear n0_ n1_ n2_ n3_ n4_; (try clear hb); (try clear hb2); (try clear hk); (try clear hi); have hcz97_0 : w96.cell? ⟨gb810, 0, none⟩ = some (.slice Ao9 t803.length co9) := (blk_cell BK810.out 0).trans rfl; have hcz97_1 : w96.cell? ⟨gb810, 1, none⟩ = some (.slice Ao11 t806.length co11) := (blk_cell BK810.out 1).trans rfl; have hfz97_0 := blk_frozen BK810.out 0; have hfz97_1 := blk_frozen BK810.out 1) | ((with_reducible refine gate_callee (f := 40) rfl ?_); refine goesL_ (some 110) rfl rfl Try.func40 (by kernel_rfl) rfl #[.agg #[.slice Ao9 t803.length co9, .slice Ao11 t806.length co11], .string t809, .string x7_5] rfl ln_ ?_; (with_reducible refine (impl_ShortestSteps.calls kj5 _ _ t803 _ _ t806 t809 x7_5 t832 t835 _ ?side1 ?side2 ?side3 ?side4 A64.out).mono ?_); (case side1 => repeat (first | exact (Kd.R_reads' HO_811000.out).2.2 | (with_reducible refine Kd.C_alloc ?_ _) | (with_reducible refine Kd.C_drewN ?_ _) | (with_reducible refine Kd.C_drew ?_))); (case side2 => exact (Kd.R_reads' HO_811000.out).2.1); (case side3 => repeat (first | exact (Kd.S_reads' HO_811001.out).2.2 | (with_reducible refine Kd.C_alloc ?_ _) | (with_reducible refine Kd.C_drewN ?_ _) | (with_reducible refine Kd.C_drew ?_))); (case side4 => exact (Kd.S_reads' HO_811001.out).2.1); rintro e w98 ⟨v833, rfl, ho0, hb⟩; refine ⟨_, rfl, ?_⟩; have n0_ := Aside0.mk (Kd.R_elder' (kr_ HO_8) (Kd.R_base ho0) hb); have n1_ := Aside0.mk (Kd.R_elder' (kr_ HO_811000) (Kd.R_base ho0) hb); have n2_ := Aside0.mk (Kd.S_elder' (by (with_reducible repeat (first | apply Kd.S_alloc | apply Kd.S_drewN | apply Kd.S_drew)); exact HO_811001.out) (Kd.R_base ho0) hb); have n3_ := Aside0.mk (Kd.R_lower (Kd.R_new' (Kd.R_new' ho0 (Kd.R_lt (kr_ HO_8))) (Kd.R_lt (kr_ HO_811000))) (below_size (hg_ GE810))); have n4_ := Aside0.mk (blk_below (g := gb810) (o := .cells #[.slice Ao9 t803.length co9, .slice Ao11 t806.length co11] 28 (0, 0)) (bk_ BK810) hb); have n5_ := Aside0.mk (below_step (hg_ GE810) hb); clear HO_8; clear HO_811000; clear HO_811001; clear BK810; clear HB; have HO_8 := n0_; have HO_811000 := n1_; have HO_811001 := n2_; have HO834 := n3_; have BK810 := n4_; have HB := n5_; clear n0_ n1_ n2_ n3_ n4_ n5_; (try clear hb); (try clear hb2); (try clear hk); (try clear hi); (try clear ho0); obtain ⟨Ao99, co99, eo99⟩ := Kd.R_slice HO834.out; subst eo99))
         go_ret
         exact ⟨ew_, (hg_ GE810)⟩
      ·rw [if_neg c67] at H
       have c67b0 : (t835 == 0) = false := beq_eq_false_iff_ne.mpr c67
       have c67b1 : (t835 != 0) = true := bne_iff_ne.mpr c67
       obtain rfl := Option.some.inj H
       have hcz100_0 : wc.cell? ⟨gb810, 0, none⟩ = some (.slice Ao9 t803.length co9) := (blk_cell BK810.out 0).trans rfl
       have hcz100_1 : wc.cell? ⟨gb810, 1, none⟩ = some (.slice Ao11 t806.length co11) := (blk_cell BK810.out 1).trans rfl
       have hfz100_0 := blk_frozen BK810.out 0
       have hfz100_1 := blk_frozen BK810.out 1
       obtain ⟨Ao101, co101, eo101⟩ := Kd.R_slice HO_8.out
       subst eo101
       go_wp2_with (first | ((with_reducible refine gate_callee (f := 34) rfl ?_); refine goesL_ (some 103) rfl rfl Try.func34 (by kernel_rfl) rfl #[.agg #[.slice Ao9 t803.length co9, .slice Ao11 t806.length co11], .string t809, .slice Ao101 x8_5.length co101] rfl ln_ ?_; (with_reducible refine (impl_RunSteps.calls kj5 _ _ t803 _ _ t806 t809 _ _ x8_5 t830 t831 _ ?side1 ?side2 ?side3 ?side4 ?side5 ?side6 A63.out).mono ?_); (case side1 => repeat (first | exact (Kd.R_reads' HO_811000.out).2.2 | (with_reducible refine Kd.C_alloc ?_ _) | (with_reducible refine Kd.C_drewN ?_ _) | (with_reducible refine Kd.C_drew ?_))); (case side2 => exact (Kd.R_reads' HO_811000.out).2.1); (case side3 => repeat (first | exact (Kd.S_reads' HO_811001.out).2.2 | (with_reducible refine Kd.C_alloc ?_ _) | (with_reducible refine Kd.C_drewN ?_ _) | (with_reducible refine Kd.C_drew ?_))); (case side4 => exact (Kd.S_reads' HO_811001.out).2.1); (case side5 => repeat (first | exact (Kd.R_reads' HO_8.out).2.2 | (with_reducible refine Kd.C_alloc ?_ _) | (with_reducible refine Kd.C_drewN ?_ _) | (with_reducible refine Kd.C_drew ?_))); (case side6 => exact (Kd.R_reads' HO_8.out).2.1); rintro e w102 ⟨rfl, hb⟩; refine ⟨_, rfl, ?_⟩; have n0_ := Aside0.mk (Kd.R_below (kr_ HO_8) hb); have n1_ := Aside0.mk (Kd.R_below (kr_ HO_811000) hb); have n2_ := Aside0.mk (Kd.S_below (by (with_reducible repeat (first | apply Kd.S_alloc | apply Kd.S_drewN | apply Kd.S_drew)); exact HO_811001.out) hb); have n3_ := Aside0.mk (blk_below (g := gb810) (o := .cells #[.slice Ao9 t803.length co9, .slice Ao11 t806.length co11] 28 (0, 0)) (bk_ BK810) hb); have n4_ := Aside0.mk (below_step (hg_ GE810) hb); clear HO_8; clear HO_811000; clear HO_811001; clear BK810; clear HB; have HO_8 := n0_; have HO_811000 := n1_; have HO_811001 := n2_; have BK810 := n3_; have HB := n4_; clear n0_ n1_ n2_ n3_ n4_; (try clear hb); (try clear hb2); (try clear hk); (try clear hi); have hcz103_0 : w102.cell? ⟨gb810, 0, none⟩ = some (.slice Ao9 t803.length co9) := (blk_cell BK810.out 0).trans rfl; have hcz103_1 : w102.cell? ⟨gb810, 1, none⟩ = some (.slice Ao11 t806.length co11) := (blk_cell BK810.out 1).trans rfl; have hfz103_0 := blk_frozen BK810.out 0; have hfz103_1 := blk_frozen BK810.out 1) | ((with_reducible refine gate_callee (f := 40) rfl ?_); refine goesL_ (some 110) rfl rfl Try.func40 (by kernel_rfl) rfl #[.agg #[.slice Ao9 t803.length co9, .slice Ao11 t806.length co11], .string t809, .string x7_5] rfl ln_ ?_; (with_reducible refine (impl_ShortestSteps.calls kj5 _ _ t803 _ _ t806 t809 x7_5 t832 t835 _ ?side1 ?side2 ?side3 ?side4 A64.out).mono ?_); (case side1 => repeat (first | exact (Kd.R_reads' HO_811000.out).2.2 | (with_reducible refine Kd.C_alloc ?_ _) | (with_reducible refine Kd.C_drewN ?_ _) | (with_reducible refine Kd.C_drew ?_))); (case side2 => exact (Kd.R_reads' HO_811000.out).2.1); (case side3 => repeat (first | exact (Kd.S_reads' HO_811001.out).2.2 | (with_reducible refine Kd.C_alloc ?_ _) | (with_reducible refine Kd.C_drewN ?_ _) | (with_reducible refine Kd.C_drew ?_))); (case side4 => exact (Kd.S_reads' HO_811001.out).2.1); rintro e w104 ⟨v833, rfl, ho0, hb⟩; refine ⟨_, rfl, ?_⟩; have n0_ := Aside0.mk (Kd.R_elder' (kr_ HO_8) (Kd.R_base ho0) hb); have n1_ := Aside0.mk (Kd.R_elder' (kr_ HO_811000) (Kd.R_base ho0) hb); have n2_ := Aside0.mk (Kd.S_elder' (by (with_reducible repeat (first | apply Kd.S_alloc | apply Kd.S_drewN | apply Kd.S_drew)); exact HO_811001.out) (Kd.R_base ho0) hb); have n3_ := Aside0.mk (Kd.R_lower (Kd.R_new' (Kd.R_new' ho0 (Kd.R_lt (kr_ HO_8))) (Kd.R_lt (kr_ HO_811000))) (below_size (hg_ GE810))); have n4_ := Aside0.mk (blk_below (g := gb810) (o := .cells #[.slice Ao9 t803.length co9, .slice Ao11 t806.length co11] 28 (0, 0)) (bk_ BK810) hb); have n5_ := Aside0.mk (below_step (hg_ GE810) hb); clear HO_8; clear HO_811000; clear HO_811001; clear BK810; clear HB; have HO_8 := n0_; have HO_811000 := n1_; have HO_811001 := n2_; have HO834 := n3_; have BK810 := n4_; have HB := n5_; clear n0_ n1_ n2_ n3_ n4_ n5_; (try clear hb); (try clear hb2); (try clear hk); (try clear hi); (try clear ho0)))
       go_ret
       exact ⟨ew_, (hg_ GE810)⟩
     ·rw [if_neg c66] at H
      have c66b0 : (t830.toList == x7_5.toList) = false := beq_eq_false_iff_ne.mpr c66
      have c66b1 : (t830.toList != x7_5.toList) = true := bne_iff_ne.mpr c66
      obtain rfl := Option.some.inj H
      have hcz105_0 : wc.cell? ⟨gb810, 0, none⟩ = some (.slice Ao9 t803.length co9) := (blk_cell BK810.out 0).trans rfl
      have hcz105_1 : wc.cell? ⟨gb810, 1, none⟩ = some (.slice Ao11 t806.length co11) := (blk_cell BK810.out 1).trans rfl
      have hfz105_0 := blk_frozen BK810.out 0
      have hfz105_1 := blk_frozen BK810.out 1
      obtain ⟨Ao106, co106, eo106⟩ := Kd.R_slice HO_8.out
      subst eo106
      go_wp2_with (first | ((with_reducible refine gate_callee (f := 34) rfl ?_); refine goesL_ (some 103) rfl rfl Try.func34 (by kernel_rfl) rfl #[.agg #[.slice Ao9 t803.length co9, .slice Ao11 t806.length co11], .string t809, .slice Ao106 x8_5.length co106] rfl ln_ ?_; (with_reducible refine (impl_RunSteps.calls kj5 _ _ t803 _ _ t806 t809 _ _ x8_5 t830 t831 _ ?side1 ?side2 ?side3 ?side4 ?side5 ?side6 A63.out).mono ?_); (case side1 => repeat (first | exact (Kd.R_reads' HO_811000.out).2.2 | (with_reducible refine Kd.C_alloc ?_ _) | (with_reducible refine Kd.C_drewN ?_ _) | (with_reducible refine Kd.C_drew ?_))); (case side2 => exact (Kd.R_reads' HO_811000.out).2.1); (case side3 => repeat (first | exact (Kd.S_reads' HO_811001.out).2.2 | (with_reducible refine Kd.C_alloc ?_ _) | (with_reducible refine Kd.C_drewN ?_ _) | (with_reducible refine Kd.C_drew ?_))); (case side4 => exact (Kd.S_reads' HO_811001.out).2.1); (case side5 => repeat (first | exact (Kd.R_reads' HO_8.out).2.2 | (with_reducible refine Kd.C_alloc ?_ _) | (with_reducible refine Kd.C_drewN ?_ _) | (with_reducible refine Kd.C_drew ?_))); (case side6 => exact (Kd.R_reads' HO_8.out).2.1); rintro e w107 ⟨rfl, hb⟩; refine ⟨_, rfl, ?_⟩; have n0_ := Aside0.mk (Kd.R_below (kr_ HO_8) hb); have n1_ := Aside0.mk (Kd.R_below (kr_ HO_811000) hb); have n2_ := Aside0.mk (Kd.S_below (by (with_reducible repeat (first | apply Kd.S_alloc | apply Kd.S_drewN | apply Kd.S_drew)); exact HO_811001.out) hb); have n3_ := Aside0.mk (blk_below (g := gb810) (o := .cells #[.slice Ao9 t803.length co9, .slice Ao11 t806.length co11] 28 (0, 0)) (bk_ BK810) hb); have n4_ := Aside0.mk (below_step (hg_ GE810) hb); clear HO_8; clear HO_811000; clear HO_811001; clear BK810; clear HB; have HO_8 := n0_; have HO_811000 := n1_; have HO_811001 := n2_; have BK810 := n3_; have HB := n4_; clear n0_ n1_ n2_ n3_ n4_; (try clear hb); (try clear hb2); (try clear hk); (try clear hi); have hcz108_0 : w107.cell? ⟨gb810, 0, none⟩ = some (.slice Ao9 t803.length co9) := (blk_cell BK810.out 0).trans rfl; have hcz108_1 : w107.cell? ⟨gb810, 1, none⟩ = some (.slice Ao11 t806.length co11) := (blk_cell BK810.out 1).trans rfl; have hfz108_0 := blk_frozen BK810.out 0; have hfz108_1 := blk_frozen BK810.out 1) | ((with_reducible refine gate_callee (f := 40) rfl ?_); refine goesL_ (some 110) rfl rfl Try.func40 (by kernel_rfl) rfl #[.agg #[.slice Ao9 t803.length co9, .slice Ao11 t806.length co11], .string t809, .string x7_5] rfl ln_ ?_; (with_reducible refine (impl_ShortestSteps.calls kj5 _ _ t803 _ _ t806 t809 x7_5 t832 t835 _ ?side1 ?side2 ?side3 ?side4 A64.out).mono ?_); (case side1 => repeat (first | exact (Kd.R_reads' HO_811000.out).2.2 | (with_reducible refine Kd.C_alloc ?_ _) | (with_reducible refine Kd.C_drewN ?_ _) | (with_reducible refine Kd.C_drew ?_))); (case side2 => exact (Kd.R_reads' HO_811000.out).2.1); (case side3 => repeat (first | exact (Kd.S_reads' HO_811001.out).2.2 | (with_reducible refine Kd.C_alloc ?_ _) | (with_reducible refine Kd.C_drewN ?_ _) | (with_reducible refine Kd.C_drew ?_))); (case side4 => exact (Kd.S_reads' HO_811001.out).2.1); rintro e w109 ⟨v833, rfl, ho0, hb⟩; refine ⟨_, rfl, ?_⟩; have n0_ := Aside0.mk (Kd.R_elder' (kr_ HO_8) (Kd.R_base ho0) hb); have n1_ := Aside0.mk (Kd.R_elder' (kr_ HO_811000) (Kd.R_base ho0) hb); have n2_ := Aside0.mk (Kd.S_elder' (by (with_reducible repeat (first | apply Kd.S_alloc | apply Kd.S_drewN | apply Kd.S_drew)); exact HO_811001.out) (Kd.R_base ho0) hb); have n3_ := Aside0.mk (Kd.R_lower (Kd.R_new' (Kd.R_new' ho0 (Kd.R_lt (kr_ HO_8))) (Kd.R_lt (kr_ HO_811000))) (below_size (hg_ GE810))); have n4_ := Aside0.mk (blk_below (g := gb810) (o := .cells #[.slice Ao9 t803.length co9, .slice Ao11 t806.length co11] 28 (0, 0)) (bk_ BK810) hb); have n5_ := Aside0.mk (below_step (hg_ GE810) hb); clear HO_8; clear HO_811000; clear HO_811001; clear BK810; clear HB; have HO_8 := n0_; have HO_811000 := n1_; have HO_811001 := n2_; have HO834 := n3_; have BK810 := n4_; have HB := n5_; clear n0_ n1_ n2_ n3_ n4_ n5_; (try clear hb); (try clear hb2); (try clear hk); (try clear hi); (try clear ho0)))
      go_ret
      exact ⟨ew_, (hg_ GE810)⟩
    ·rw [if_neg c65] at H
     have c65b0 : (t831 == 0) = false := beq_eq_false_iff_ne.mpr c65
     have c65b1 : (t831 != 0) = true := bne_iff_ne.mpr c65
     obtain rfl := Option.some.inj H
     have hcz110_0 : wc.cell? ⟨gb810, 0, none⟩ = some (.slice Ao9 t803.length co9) := (blk_cell BK810.out 0).trans rfl
     have hcz110_1 : wc.cell? ⟨gb810, 1, none⟩ = some (.slice Ao11 t806.length co11) := (blk_cell BK810.out 1).trans rfl
     have hfz110_0 := blk_frozen BK810.out 0
     have hfz110_1 := blk_frozen BK810.out 1
     obtain ⟨Ao111, co111, eo111⟩ := Kd.R_slice HO_8.out
     subst eo111
     go_wp2_with (first | ((with_reducible refine gate_callee (f := 34) rfl ?_); refine goesL_ (some 103) rfl rfl Try.func34 (by kernel_rfl) rfl #[.agg #[.slice Ao9 t803.length co9, .slice Ao11 t806.length co11], .string t809, .slice Ao111 x8_5.length co111] rfl ln_ ?_; (with_reducible refine (impl_RunSteps.calls kj5 _ _ t803 _ _ t806 t809 _ _ x8_5 t830 t831 _ ?side1 ?side2 ?side3 ?side4 ?side5 ?side6 A63.out).mono ?_); (case side1 => repeat (first | exact (Kd.R_reads' HO_811000.out).2.2 | (with_reducible refine Kd.C_alloc ?_ _) | (with_reducible refine Kd.C_drewN ?_ _) | (with_reducible refine Kd.C_drew ?_))); (case side2 => exact (Kd.R_reads' HO_811000.out).2.1); (case side3 => repeat (first | exact (Kd.S_reads' HO_811001.out).2.2 | (with_reducible refine Kd.C_alloc ?_ _) | (with_reducible refine Kd.C_drewN ?_ _) | (with_reducible refine Kd.C_drew ?_))); (case side4 => exact (Kd.S_reads' HO_811001.out).2.1); (case side5 => repeat (first | exact (Kd.R_reads' HO_8.out).2.2 | (with_reducible refine Kd.C_alloc ?_ _) | (with_reducible refine Kd.C_drewN ?_ _) | (with_reducible refine Kd.C_drew ?_))); (case side6 => exact (Kd.R_reads' HO_8.out).2.1); rintro e w112 ⟨rfl, hb⟩; refine ⟨_, rfl, ?_⟩; have n0_ := Aside0.mk (Kd.R_below (kr_ HO_8) hb); have n1_ := Aside0.mk (Kd.R_below (kr_ HO_811000) hb); have n2_ := Aside0.mk (Kd.S_below (by (with_reducible repeat (first | apply Kd.S_alloc | apply Kd.S_drewN | apply Kd.S_drew)); exact HO_811001.out) hb); have n3_ := Aside0.mk (blk_below (g := gb810) (o := .cells #[.slice Ao9 t803.length co9, .slice Ao11 t806.length co11] 28 (0, 0)) (bk_ BK810) hb); have n4_ := Aside0.mk (below_step (hg_ GE810) hb); clear HO_8; clear HO_811000; clear HO_811001; clear BK810; clear HB; have HO_8 := n0_; have HO_811000 := n1_; have HO_811001 := n2_; have BK810 := n3_; have HB := n4_; clear n0_ n1_ n2_ n3_ n4_; (try clear hb); (try clear hb2); (try clear hk); (try clear hi); have hcz113_0 : w112.cell? ⟨gb810, 0, none⟩ = some (.slice Ao9 t803.length co9) := (blk_cell BK810.out 0).trans rfl; have hcz113_1 : w112.cell? ⟨gb810, 1, none⟩ = some (.slice Ao11 t806.length co11) := (blk_cell BK810.out 1).trans rfl; have hfz113_0 := blk_frozen BK810.out 0; have hfz113_1 := blk_frozen BK810.out 1) | ((with_reducible refine gate_callee (f := 40) rfl ?_); refine goesL_ (some 110) rfl rfl Try.func40 (by kernel_rfl) rfl #[.agg #[.slice Ao9 t803.length co9, .slice Ao11 t806.length co11], .string t809, .string x7_5] rfl ln_ ?_; (with_reducible refine (impl_ShortestSteps.calls kj5 _ _ t803 _ _ t806 t809 x7_5 t832 t835 _ ?side1 ?side2 ?side3 ?side4 A64.out).mono ?_); (case side1 => repeat (first | exact (Kd.R_reads' HO_811000.out).2.2 | (with_reducible refine Kd.C_alloc ?_ _) | (with_reducible refine Kd.C_drewN ?_ _) | (with_reducible refine Kd.C_drew ?_))); (case side2 => exact (Kd.R_reads' HO_811000.out).2.1); (case side3 => repeat (first | exact (Kd.S_reads' HO_811001.out).2.2 | (with_reducible refine Kd.C_alloc ?_ _) | (with_reducible refine Kd.C_drewN ?_ _) | (with_reducible refine Kd.C_drew ?_))); (case side4 => exact (Kd.S_reads' HO_811001.out).2.1); rintro e w114 ⟨v833, rfl, ho0, hb⟩; refine ⟨_, rfl, ?_⟩; have n0_ := Aside0.mk (Kd.R_elder' (kr_ HO_8) (Kd.R_base ho0) hb); have n1_ := Aside0.mk (Kd.R_elder' (kr_ HO_811000) (Kd.R_base ho0) hb); have n2_ := Aside0.mk (Kd.S_elder' (by (with_reducible repeat (first | apply Kd.S_alloc | apply Kd.S_drewN | apply Kd.S_drew)); exact HO_811001.out) (Kd.R_base ho0) hb); have n3_ := Aside0.mk (Kd.R_lower (Kd.R_new' (Kd.R_new' ho0 (Kd.R_lt (kr_ HO_8))) (Kd.R_lt (kr_ HO_811000))) (below_size (hg_ GE810))); have n4_ := Aside0.mk (blk_below (g := gb810) (o := .cells #[.slice Ao9 t803.length co9, .slice Ao11 t806.length co11] 28 (0, 0)) (bk_ BK810) hb); have n5_ := Aside0.mk (below_step (hg_ GE810) hb); clear HO_8; clear HO_811000; clear HO_811001; clear BK810; clear HB; have HO_8 := n0_; have HO_811000 := n1_; have HO_811001 := n2_; have HO834 := n3_; have BK810 := n4_; have HB := n5_; clear n0_ n1_ n2_ n3_ n4_ n5_; (try clear hb); (try clear hb2); (try clear hk); (try clear hi); (try clear ho0)))
     go_ret
     exact ⟨ew_, (hg_ GE810)⟩

/-- THE ONE PURE STATEMENT of laws_FnManoeuvres: yours. -/
def laws_FnManoeuvres.Pure : Prop := ∀ (l0 : List Int) (l1 : List Int), l0.length ≤ maxLen → l0.length * 1 ≤ 140737488351232 → (∀ x ∈ l0, (Lit.int .u8 x).wf = true) → l1.length ≤ maxLen → l1.length * 1 ≤ 140737488351232 → (∀ x ∈ l1, (Lit.int .u8 x).wf = true) → ∃ k, laws_FnManoeuvres.f k l0 l1 = some true
theorem laws_FnManoeuvres.walk (P : laws_FnManoeuvres.Pure) (a0 : Option Addr) (len0 cap0 : Nat) (z0 : List Int) (a1 : Option Addr) (len1 cap1 : Nat) (z1 : List Int) (w : World) (w0 : (a0 = none ∧ len0 = 0 ∧ cap0 = 0 ∧ z0 = []) ∨ ∃ x, a0 = some x ∧ len0 ≤ cap0 ∧ cap0 ≤ maxLen ∧ z0.length = cap0 ∧ (∀ i, i < z0.length → w.cell? (x.add i) = some (.int .u8 (z0.getD i 0))) ∧ ∀ n ∈ z0, (Lit.int .u8 n).wf = true) (y0 : len0 * 1 ≤ 140737488351232) (w1 : (a1 = none ∧ len1 = 0 ∧ cap1 = 0 ∧ z1 = []) ∨ ∃ x, a1 = some x ∧ len1 ≤ cap1 ∧ cap1 ≤ maxLen ∧ z1.length = cap1 ∧ (∀ i, i < z1.length → w.cell? (x.add i) = some (.int .u8 (z1.getD i 0))) ∧ ∀ n ∈ z1, (Lit.int .u8 n).wf = true) (y1 : len1 * 1 ≤ 140737488351232) :
  Calls Try.prog 13 #[.slice a0 len0 cap0, .slice a1 len1 cap1] w fun e w' => e = .returned (.bool true) ∧ Below w.heap.size w w' := by
 obtain ⟨l0, rfl, hr0, hm0, hw0, hc0⟩ := ReadsInt.ofRowC w0
 obtain ⟨l1, rfl, hr1, hm1, hw1, hc1⟩ := ReadsInt.ofRowC w1
 obtain ⟨k, h⟩ := P l0 l1 hm0 y0 hw0 hm1 y1 hw1
 refine (laws_FnManoeuvres.calls k _ _ l0 _ _ l1 true w (Kd.C_of_reads (d := (0 : Int)) (h1 := fun _ => rfl) hr0) hc0 (Kd.C_of_reads (d := (0 : Int)) (h1 := fun _ => rfl) hr1) hc1 h).mono ?_
 rintro e w' ⟨rfl, hd⟩
 exact ⟨rfl, hd⟩

end Go.Proofs.Ytfkiamccipoioaa.P
end
