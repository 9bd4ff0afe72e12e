/- Texts of this claim, packed: Px5. -/
import Derived.Test.YtcenjcgfdghfnaaZFnExactCastOff4
section
-- Written by gprint.py (own program, over the printer of the kit) out of the translation. Lean checks it.
namespace Go.Proofs.Ytcenjcgfdghfnaa.P
open Go.RowKit Go.Proofs.YtcenjcgfdghfnaaW.PrintWords Go.Proofs.YtcenjcgfdghfnaaW.PrintLast Go.Proofs.YtcenjcgfdghfnaaW.PrintMore Go.Proofs.YtcenjcgfdghfnaaW.Pk
open Bool renaming true → T_, false → F_
open List renaming setIfInBounds_toArray → sT_, set_cons_zero → s0_, set_cons_succ → sS_
attribute [local go_sem] max2_int min2_int max_two min_two max_three min_three max_four min_four   -- for this text's walks alone
set_option linter.unusedVariables false
set_option linter.unusedSimpArgs false

/-! ### laws_FnExactCastOff: function 3 -/
mutual
def laws_FnExactCastOff.j0 : Nat → ByteArray → Int → Int → Bool → List (S99) → List ByteArray → List (S101) → List (S91) → List ByteArray → List (S41) → List (S91) → List ByteArray → List (S41) → List (S91) → List ByteArray → List (S41) → Option (Bool)
 | 0, _, _, _, _, _, _, _, _, _, _, _, _, _, _, _, _ => none
 | k + 1, x1, x7, x10, x47, x280000, x280001, x280002, x301000, x301001, x301002, x311000, x311001, x311002, x322000, x322001, x322002 => if x47 = true then (some false) else ((laws_toRig.f k x280000 x280001 x280002).bind fun bt323 => ((laws_eqRig.f k x311000 x311001 x311002 bt323.1 bt323.2.1 bt323.2.2).bind fun t332 => (if t332 = true then ((laws_markRig.f k x311000 x311001 x311002 1).bind fun bt333 => (if bt333.1 < 0 then (laws_FnExactCastOff.j1 k x1 x7 true x280000 x280001 x280002 x301000 x301001 x301002 x322000 x322001 x322002) else ((laws_eqRig.f k x322000 x322001 x322002 x301000 x301001 x301002).bind fun t337 => (if t337 = true then (laws_FnExactCastOff.j1 k x1 x7 (x10 != x7) x280000 x280001 x280002 x301000 x301001 x301002 x322000 x322001 x322002) else (laws_FnExactCastOff.j1 k x1 x7 true x280000 x280001 x280002 x301000 x301001 x301002 x322000 x322001 x322002))))) else (some false))))
def laws_FnExactCastOff.j1 : Nat → ByteArray → Int → Bool → List (S99) → List ByteArray → List (S101) → List (S91) → List ByteArray → List (S41) → List (S91) → List ByteArray → List (S41) → Option (Bool)
 | 0, _, _, _, _, _, _, _, _, _, _, _, _ => none
 | k + 1, x1, x7, x68, x280000, x280001, x280002, x301000, x301001, x301002, x322000, x322001, x322002 => if x68 = true then (some false) else ((laws_markRig.f k x322000 x322001 x322002 1).bind fun bt338 => ((laws_heldRig.f k bt338.2.1 bt338.2.2.1 bt338.2.2.2 1).bind fun t342 => (if t342 < 0 then (some false) else (if t342 = bt338.1 then ((laws_toRig.f k x280000 x280001 x280002).bind fun bt343 => ((impl_CastOff.f k bt343.1 bt343.2.1 bt343.2.2 x1).bind fun bt352 => ((laws_eqRig.f k bt352.1 bt352.2.1 bt352.2.2.1 x301000 x301001 x301002).bind fun t363 => (if t363 = true then (laws_FnExactCastOff.j2 k bt338.1 (bt352.2.2.2 != x7) bt338.2.1 bt338.2.2.1 bt338.2.2.2) else (laws_FnExactCastOff.j2 k bt338.1 true bt338.2.1 bt338.2.2.1 bt338.2.2.2))))) else (some false)))))
def laws_FnExactCastOff.j2 : Nat → Int → Bool → List (S91) → List ByteArray → List (S41) → Option (Bool)
 | 0, _, _, _, _, _ => none
 | k + 1, x12, x95, x322000, x322001, x322002 => if x95 = true then (some false) else ((laws_heldRig.f k x322000 x322001 x322002 1).bind fun t364 => (if t364 < 0 then (some false) else (if t364 = x12 then (some true) else (some false))))
end
def laws_FnExactCastOff.f (k : Nat) (l0_0 : List (S99)) (l0_1 : List ByteArray) (l0_2 : List (S101)) (a1 : ByteArray) : Option (Bool) := if (a1.size : Int) > 1048576 then (some true) else ((laws_szRig.f k l0_0 l0_1 l0_2 1048576).bind fun t280 => (if t280 < 0 then (some true) else ((laws_toRig.f k l0_0 l0_1 l0_2).bind fun bt281 => ((spec_CastOff.f k bt281.1 bt281.2.1 bt281.2.2 a1).bind fun bt290 => ((laws_toRig.f k l0_0 l0_1 l0_2).bind fun bt301 => ((impl_CastOff.f k bt301.1 bt301.2.1 bt301.2.2 a1).bind fun bt311 => ((laws_eqRig.f k bt311.1 bt311.2.1 bt311.2.2.1 bt290.1 bt290.2.1 bt290.2.2.1).bind fun t322 => (if t322 = true then (laws_FnExactCastOff.j0 k a1 bt290.2.2.2 bt311.2.2.2 (bt311.2.2.2 != bt290.2.2.2) l0_0 l0_1 l0_2 bt290.1 bt290.2.1 bt290.2.2.1 bt301.1 bt301.2.1 bt301.2.2 bt311.1 bt311.2.1 bt311.2.2.1) else (laws_FnExactCastOff.j0 k a1 bt290.2.2.2 bt311.2.2.2 true l0_0 l0_1 l0_2 bt290.1 bt290.2.1 bt290.2.2.1 bt301.1 bt301.2.1 bt301.2.2 bt311.1 bt311.2.1 bt311.2.2.1)))))))))
set_option maxHeartbeats 8000000 in
set_option maxRecDepth 100000 in
theorem laws_FnExactCastOff.calls (k : Nat) (A0_0 : Option Addr) (c0_0 : Nat) (l0_0 : List (S99)) (A0_1 : Option Addr) (c0_1 : Nat) (l0_1 : List ByteArray) (A0_2 : Option Addr) (c0_2 : Nat) (l0_2 : List (S101)) (a1 : ByteArray) (r : Bool) (w : World) (hr0_0 : Kd.C k99 w A0_0 l0_0.length l0_0) (hc0_0 : l0_0.length ≤ c0_0) (hr0_1 : Kd.C Kd.string w A0_1 l0_1.length l0_1) (hc0_1 : l0_1.length ≤ c0_1) (hr0_2 : Kd.C k101 w A0_2 l0_2.length l0_2) (hc0_2 : l0_2.length ≤ c0_2) (h : laws_FnExactCastOff.f k l0_0 l0_1 l0_2 a1 = some r) :
  Calls Try.prog 3 #[.agg #[.slice A0_0 l0_0.length c0_0, .slice A0_1 l0_1.length c0_1, .slice A0_2 l0_2.length c0_2], .string a1] w fun e w' => e = .returned (.bool r) ∧ Below w.heap.size w w' := by
 have hu26 := Try.underlying26
 have hu31 := Try.underlying31
 have HR0_0 := ak_ hr0_0
 have HC0_0 := ak_ hc0_0
 clear hr0_0 hc0_0
 have HR0_1 := ak_ hr0_1
 have HC0_1 := ak_ hc0_1
 clear hr0_1 hc0_1
 have HR0_2 := ak_ hr0_2
 have HC0_2 := ak_ hc0_2
 clear hr0_2 hc0_2
 have HB := ak_ (Below.refl w.heap.size w)
 have H : (if (a1.size : Int) > 1048576 then (some true) else ((laws_szRig.f k l0_0 l0_1 l0_2 1048576).bind fun t280 => (if t280 < 0 then (some true) else ((laws_toRig.f k l0_0 l0_1 l0_2).bind fun bt281 => ((spec_CastOff.f k bt281.1 bt281.2.1 bt281.2.2 a1).bind fun bt290 => ((laws_toRig.f k l0_0 l0_1 l0_2).bind fun bt301 => ((impl_CastOff.f k bt301.1 bt301.2.1 bt301.2.2 a1).bind fun bt311 => ((laws_eqRig.f k bt311.1 bt311.2.1 bt311.2.2.1 bt290.1 bt290.2.1 bt290.2.2.1).bind fun t322 => (if t322 = true then (laws_FnExactCastOff.j0 k a1 bt290.2.2.2 bt311.2.2.2 (bt311.2.2.2 != bt290.2.2.2) l0_0 l0_1 l0_2 bt290.1 bt290.2.1 bt290.2.2.1 bt301.1 bt301.2.1 bt301.2.2 bt311.1 bt311.2.1 bt311.2.2.1) else (laws_FnExactCastOff.j0 k a1 bt290.2.2.2 bt311.2.2.2 true l0_0 l0_1 l0_2 bt290.1 bt290.2.1 bt290.2.2.1 bt301.1 bt301.2.1 bt301.2.2 bt311.1 bt311.2.1 bt311.2.2.1)))))))))) = some r := h
 clear h
 by_cases c3 : (a1.size : Int) > 1048576
 ·rw [if_pos c3] at H
  have c3b0 : decide (1048576 < (a1.size : Int)) = true := dt_ c3
  have c3b1 : decide (1048576 < a1.size) = true := dt_ (by omega)
  clear c3
  obtain rfl := Option.some.inj H
  go_enter Try.func3, Try.ntmps3
  go_wp2_with (first | ((with_reducible refine gate_dst (N := 2) rfl ?_); refine box_event ?hg (N := 2) ?hd (cs := #[.slice A0_0 l0_0.length c0_0, .slice A0_1 l0_1.length c0_1, .slice A0_2 l0_2.length c0_2]) (t := 26) ?hr ?_; (case hd => rfl); (case hg => rfl); (case hr => first | (go_simp; done) | (go_simp; rfl)); intro gb279 hg w4 hbox hb; have BK279 := ak_ (hbox); have GW279 := ak_ ((by rw [hg]; exact (below_size hb_) : w.heap.size ≤ gb279)); have GE279 := ak_ ((by rw [hg]; exact (below_size hb_) : w.heap.size ≤ gb279)); replace HB := ak_ (below_step hb_ hb); skip; clear hb hbox hg))
  go_ret
  exact ⟨ew_, (hg_ GE279)⟩
 rw [if_neg c3] at H
 have c3b0 : decide (1048576 < (a1.size : Int)) = false := decide_eq_false c3
 have c3b1 : decide (1048576 < a1.size) = false := decide_eq_false (by omega)
 clear c3
 replace H := ob_ H
 obtain ⟨t280, A50, H⟩ := H
 (try dsimp only at H)
 have A5 := ak_ A50
 clear A50
 by_cases c6 : t280 < 0
 ·rw [if_pos c6] at H
  have c6b0 : decide (t280 < 0) = true := dt_ c6
  clear c6
  obtain rfl := Option.some.inj H
  go_enter Try.func3, Try.ntmps3
  go_wp2_with (first | ((with_reducible refine gate_dst (N := 2) rfl ?_); refine box_event ?hg (N := 2) ?hd (cs := #[.slice A0_0 l0_0.length c0_0, .slice A0_1 l0_1.length c0_1, .slice A0_2 l0_2.length c0_2]) (t := 26) ?hr ?_; (case hd => rfl); (case hg => rfl); (case hr => first | (go_simp; done) | (go_simp; rfl)); intro gb279 hg w7 hbox hb; have BK279 := ak_ (hbox); have GW279 := ak_ ((by rw [hg]; exact (below_size hb_) : w.heap.size ≤ gb279)); have GE279 := ak_ ((by rw [hg]; exact (below_size hb_) : w.heap.size ≤ gb279)); replace HB := ak_ (below_step hb_ hb); skip; clear hb hbox hg; have hcz8_0 : w7.cell? ⟨gb279, 0, none⟩ = some (.slice A0_0 l0_0.length c0_0) := (blk_cell BK279.out 0).trans rfl; have hcz8_1 : w7.cell? ⟨gb279, 1, none⟩ = some (.slice A0_1 l0_1.length c0_1) := (blk_cell BK279.out 1).trans rfl; have hcz8_2 : w7.cell? ⟨gb279, 2, none⟩ = some (.slice A0_2 l0_2.length c0_2) := (blk_cell BK279.out 2).trans rfl; have hfz8_0 := blk_frozen BK279.out 0; have hfz8_1 := blk_frozen BK279.out 1; have hfz8_2 := blk_frozen BK279.out 2) | ((with_reducible refine gate_callee (f := 5) rfl ?_); refine goesL_ (some 21) rfl rfl Try.func5 (by kernel_rfl) rfl #[.agg #[.slice A0_0 l0_0.length c0_0, .slice A0_1 l0_1.length c0_1, .slice A0_2 l0_2.length c0_2], .int .i64 1048576] rfl ln_ ?_; (with_reducible refine (laws_szRig.calls k _ _ l0_0 _ _ l0_1 _ _ l0_2 1048576 t280 _ (kc_ (Kd.C_below HR0_0.out HB.out)) HC0_0.out (kc_ (Kd.C_below HR0_1.out HB.out)) HC0_1.out (kc_ (Kd.C_below HR0_2.out HB.out)) HC0_2.out A5.out).mono ?_); rintro e w9 ⟨rfl, hb⟩; refine ⟨_, rfl, ?_⟩; replace BK279 := ak_ (blk_below (g := gb279) (o := .cells #[.slice A0_0 l0_0.length c0_0, .slice A0_1 l0_1.length c0_1, .slice A0_2 l0_2.length c0_2] 26 (0, 0)) (bk_ BK279) hb); replace HB := ak_ (below_step (hg_ GE279) hb); skip; clear hb))
  go_ret
  exact ⟨ew_, (hg_ GE279)⟩
 rw [if_neg c6] at H
 have c6b0 : decide (t280 < 0) = false := decide_eq_false c6
 clear c6
 replace H := ob_ H
 obtain ⟨⟨t281, t284, t287⟩, A100, H⟩ := H
 (try dsimp only at H)
 have A10 := ak_ A100
 clear A100
 replace H := ob_ H
 obtain ⟨⟨t290, t293, t296, t299⟩, A110, H⟩ := H
 (try dsimp only at H)
 have A11 := ak_ A110
 clear A110
 replace H := ob_ H
 obtain ⟨⟨t301, t304, t307⟩, A120, H⟩ := H
 (try dsimp only at H)
 have A12 := ak_ A120
 clear A120
 replace H := ob_ H
 obtain ⟨⟨t311, t314, t317, t320⟩, A130, H⟩ := H
 (try dsimp only at H)
 have A13 := ak_ A130
 clear A130
 have HC14 := ak_ H
 clear H
 go_enter Try.func3, Try.ntmps3
 go_upto_region 10 with (first | ((with_reducible refine gate_dst (N := 2) rfl ?_); refine box_event ?hg (N := 2) ?hd (cs := #[.slice A0_0 l0_0.length c0_0, .slice A0_1 l0_1.length c0_1, .slice A0_2 l0_2.length c0_2]) (t := 26) ?hr ?_; (case hd => rfl); (case hg => rfl); (case hr => first | (go_simp; done) | (go_simp; rfl)); intro gb279 hg w15 hbox hb; have BK279 := ak_ (hbox); have GW279 := ak_ ((by rw [hg]; exact (below_size hb_) : w.heap.size ≤ gb279)); have GE279 := ak_ ((by rw [hg]; exact (below_size hb_) : w.heap.size ≤ gb279)); replace HB := ak_ (below_step hb_ hb); skip; clear hb hbox hg; have hcz16_0 : w15.cell? ⟨gb279, 0, none⟩ = some (.slice A0_0 l0_0.length c0_0) := (blk_cell BK279.out 0).trans rfl; have hcz16_1 : w15.cell? ⟨gb279, 1, none⟩ = some (.slice A0_1 l0_1.length c0_1) := (blk_cell BK279.out 1).trans rfl; have hcz16_2 : w15.cell? ⟨gb279, 2, none⟩ = some (.slice A0_2 l0_2.length c0_2) := (blk_cell BK279.out 2).trans rfl; have hfz16_0 := blk_frozen BK279.out 0; have hfz16_1 := blk_frozen BK279.out 1; have hfz16_2 := blk_frozen BK279.out 2) | ((with_reducible refine gate_callee (f := 5) rfl ?_); refine goesL_ (some 21) rfl rfl Try.func5 (by kernel_rfl) rfl #[.agg #[.slice A0_0 l0_0.length c0_0, .slice A0_1 l0_1.length c0_1, .slice A0_2 l0_2.length c0_2], .int .i64 1048576] rfl ln_ ?_; (with_reducible refine (laws_szRig.calls k _ _ l0_0 _ _ l0_1 _ _ l0_2 1048576 t280 _ (kc_ (Kd.C_below HR0_0.out HB.out)) HC0_0.out (kc_ (Kd.C_below HR0_1.out HB.out)) HC0_1.out (kc_ (Kd.C_below HR0_2.out HB.out)) HC0_2.out A5.out).mono ?_); rintro e w17 ⟨rfl, hb⟩; refine ⟨_, rfl, ?_⟩; replace BK279 := ak_ (blk_below (g := gb279) (o := .cells #[.slice A0_0 l0_0.length c0_0, .slice A0_1 l0_1.length c0_1, .slice A0_2 l0_2.length c0_2] 26 (0, 0)) (bk_ BK279) hb); replace HB := ak_ (below_step (hg_ GE279) hb); skip; (try clear hb); (try clear hb2); (try clear hk); (try clear hi); have hcz18_0 : w17.cell? ⟨gb279, 0, none⟩ = some (.slice A0_0 l0_0.length c0_0) := (blk_cell BK279.out 0).trans rfl; have hcz18_1 : w17.cell? ⟨gb279, 1, none⟩ = some (.slice A0_1 l0_1.length c0_1) := (blk_cell BK279.out 1).trans rfl; have hcz18_2 : w17.cell? ⟨gb279, 2, none⟩ = some (.slice A0_2 l0_2.length c0_2) := (blk_cell BK279.out 2).trans rfl; have hfz18_0 := blk_frozen BK279.out 0; have hfz18_1 := blk_frozen BK279.out 1; have hfz18_2 := blk_frozen BK279.out 2) | ((with_reducible refine gate_callee (f := 7) rfl ?_); refine goesL_ (some 26) rfl rfl Try.func7 (by kernel_rfl) rfl #[.agg #[.slice A0_0 l0_0.length c0_0, .slice A0_1 l0_1.length c0_1, .slice A0_2 l0_2.length c0_2]] rfl ln_ ?_; (with_reducible refine (laws_toRig.calls k _ _ l0_0 _ _ l0_1 _ _ l0_2 t281 t284 t287 _ (kc_ (Kd.C_below HR0_0.out HB.out)) HC0_0.out (kc_ (Kd.C_below HR0_1.out HB.out)) HC0_1.out (kc_ (Kd.C_below HR0_2.out HB.out)) HC0_2.out A10.out).mono ?_); rintro e w19 ⟨v282, v285, v288, rfl, ho0, ho1, ho2, hb⟩; refine ⟨_, rfl, ?_⟩; have HO283 := ak_ (Kd.R_lower ho0 (below_size (hg_ GE279))); have HO286 := ak_ (Kd.R_lower ho1 (below_size (hg_ GE279))); have HO289 := ak_ (Kd.R_lower ho2 (below_size (hg_ GE279))); replace BK279 := ak_ (blk_below (g := gb279) (o := .cells #[.slice A0_0 l0_0.length c0_0, .slice A0_1 l0_1.length c0_1, .slice A0_2 l0_2.length c0_2] 26 (0, 0)) (bk_ BK279) hb); replace HB := ak_ (below_step (hg_ GE279) hb); skip; (try clear hb); (try clear hb2); (try clear hk); (try clear hi); (try clear ho0); (try clear ho1); (try clear ho2); obtain ⟨Ao20, co20, eo20⟩ := Kd.R_slice HO283.out; subst eo20; obtain ⟨Ao21, co21, eo21⟩ := Kd.R_slice HO286.out; subst eo21; obtain ⟨Ao22, co22, eo22⟩ := Kd.R_slice HO289.out; subst eo22) | ((with_reducible refine gate_callee (f := 6) rfl ?_); refine goesL_ (some 28) rfl rfl Try.func6 (by kernel_rfl) rfl #[.agg #[.slice Ao20 t281.length co20, .slice Ao21 t284.length co21, .slice Ao22 t287.length co22], .string a1] rfl ln_ ?_; (with_reducible refine (spec_CastOff.calls k _ _ t281 _ _ t284 _ _ t287 a1 t290 t293 t296 t299 _ ?side1 ((Kd.R_reads' HO283.out).2.1) ?side3 ((Kd.R_reads' HO286.out).2.1) ?side5 ((Kd.R_reads' HO289.out).2.1) A11.out).mono ?_); (case side1 => repeat (first | exact (Kd.R_reads' HO283.out).2.2 | (with_reducible refine Kd.C_alloc ?_ _) | (with_reducible refine Kd.C_drewN ?_ _) | (with_reducible refine Kd.C_drew ?_))); (case side3 => repeat (first | exact (Kd.R_reads' HO286.out).2.2 | (with_reducible refine Kd.C_alloc ?_ _) | (with_reducible refine Kd.C_drewN ?_ _) | (with_reducible refine Kd.C_drew ?_))); (case side5 => repeat (first | exact (Kd.R_reads' HO289.out).2.2 | (with_reducible refine Kd.C_alloc ?_ _) | (with_reducible refine Kd.C_drewN ?_ _) | (with_reducible refine Kd.C_drew ?_))); rintro e w23 ⟨v291, v294, v297, rfl, ho0, ho1, ho2, hb⟩; refine ⟨_, rfl, ?_⟩; have HO292 := ak_ (Kd.R_lower (Kd.R_new' ho0 (Kd.R_lt (kr_ HO283))) (below_size (hg_ GE279))); replace HO283 := ak_ (Kd.R_elder' (kr_ HO283) (Kd.R_base ho0) hb); have HO295 := ak_ (Kd.R_lower (Kd.R_new' ho1 (Kd.R_lt (kr_ HO286))) (below_size (hg_ GE279))); replace HO286 := ak_ (Kd.R_elder' (kr_ HO286) (Kd.R_base ho1) hb); have HO298 := ak_ (Kd.R_lower (Kd.R_new' ho2 (Kd.R_lt (kr_ HO289))) (below_size (hg_ GE279))); replace HO289 := ak_ (Kd.R_elder' (kr_ HO289) (Kd.R_base ho2) hb); replace BK279 := ak_ (blk_below (g := gb279) (o := .cells #[.slice A0_0 l0_0.length c0_0, .slice A0_1 l0_1.length c0_1, .slice A0_2 l0_2.length c0_2] 26 (0, 0)) (bk_ BK279) hb); replace HB := ak_ (below_step (hg_ GE279) hb); skip; clear hb ho0 ho1 ho2) | ((with_reducible refine gate_dst (N := 6) rfl ?_); refine box_event ?hg (N := 6) ?hd (cs := #[.slice none 0 0, .slice none 0 0, .slice none 0 0]) (t := 31) ?hr ?_; (case hd => rfl); (case hg => rfl); (case hr => first | (go_simp; done) | (go_simp; rfl)); intro gb300 hg w24 hbox hb; replace HO283 := ak_ (Kd.R_below (kr_ HO283) hb); replace HO286 := ak_ (Kd.R_below (kr_ HO286) hb); replace HO289 := ak_ (Kd.R_below (kr_ HO289) hb); replace HO292 := ak_ (Kd.R_below (kr_ HO292) hb); replace HO295 := ak_ (Kd.R_below (kr_ HO295) hb); replace HO298 := ak_ (Kd.R_below (kr_ HO298) hb); have BK300 := ak_ (hbox); have GW300 := ak_ ((by rw [hg]; exact (below_size (hg_ GE279)) : w.heap.size ≤ gb300)); have GE300 := ak_ ((by rw [hg]; exact (below_size (hg_ GE279)) : w.heap.size ≤ gb300)); replace HB := ak_ (below_step (hg_ GE279) hb); have NB279_300 := ak_ ((by rw [hg]; exact Nat.ne_of_lt (blk_lt (g := gb279) (o := .cells #[.slice A0_0 l0_0.length c0_0, .slice A0_1 l0_1.length c0_1, .slice A0_2 l0_2.length c0_2] 26 (0, 0)) (bk_ BK279)) : gb279 ≠ gb300)); have NB300_279 := ak_ ((by rw [hg]; exact Nat.ne_of_gt (blk_lt (g := gb279) (o := .cells #[.slice A0_0 l0_0.length c0_0, .slice A0_1 l0_1.length c0_1, .slice A0_2 l0_2.length c0_2] 26 (0, 0)) (bk_ BK279)) : gb300 ≠ gb279)); replace BK279 := ak_ (blk_below (g := gb279) (o := .cells #[.slice A0_0 l0_0.length c0_0, .slice A0_1 l0_1.length c0_1, .slice A0_2 l0_2.length c0_2] 26 (0, 0)) (bk_ BK279) hb); skip; clear hb hbox hg; obtain ⟨Ao25, co25, eo25⟩ := Kd.R_slice HO292.out; subst eo25; have hnb26 := NB300_279.out; have hnc26 := NB279_300.out; have hcz27_0 : w24.cell? ⟨gb300, 0, none⟩ = some (.slice none 0 0) := (blk_cell BK300.out 0).trans rfl; have hcz27_1 : w24.cell? ⟨gb300, 1, none⟩ = some (.slice none 0 0) := (blk_cell BK300.out 1).trans rfl; have hcz27_2 : w24.cell? ⟨gb300, 2, none⟩ = some (.slice none 0 0) := (blk_cell BK300.out 2).trans rfl; have hfz27_0 := blk_frozen BK300.out 0; have hfz27_1 := blk_frozen BK300.out 1; have hfz27_2 := blk_frozen BK300.out 2; obtain ⟨Ao28, co28, eo28⟩ := Kd.R_slice HO295.out; subst eo28; obtain ⟨Ao29, co29, eo29⟩ := Kd.R_slice HO298.out; subst eo29; have hcz30_0 : w24.cell? ⟨gb279, 0, none⟩ = some (.slice A0_0 l0_0.length c0_0) := (blk_cell BK279.out 0).trans rfl; have hcz30_1 : w24.cell? ⟨gb279, 1, none⟩ = some (.slice A0_1 l0_1.length c0_1) := (blk_cell BK279.out 1).trans rfl; have hcz30_2 : w24.cell? ⟨gb279, 2, none⟩ = some (.slice A0_2 l0_2.length c0_2) := (blk_cell BK279.out 2).trans rfl; have hfz30_0 := blk_frozen BK279.out 0; have hfz30_1 := blk_frozen BK279.out 1; have hfz30_2 := blk_frozen BK279.out 2) | ((with_reducible refine gate_callee (f := 7) rfl ?_); refine goesL_ (some 32) rfl rfl Try.func7 (by kernel_rfl) rfl #[.agg #[.slice A0_0 l0_0.length c0_0, .slice A0_1 l0_1.length c0_1, .slice A0_2 l0_2.length c0_2]] rfl ln_ ?_; (with_reducible refine (laws_toRig.calls k _ _ l0_0 _ _ l0_1 _ _ l0_2 t301 t304 t307 _ ?side1 ?side2 ?side3 ?side4 ?side5 ?side6 A12.out).mono ?_); (case side1 => exact Kd.C_below HR0_0.out (hg2_ GE279 GE300)); (case side2 => exact HC0_0.out); (case side3 => exact Kd.C_below HR0_1.out (hg2_ GE279 GE300)); (case side4 => exact HC0_1.out); (case side5 => exact Kd.C_below HR0_2.out (hg2_ GE279 GE300)); (case side6 => exact HC0_2.out); rintro e w31 ⟨v302, v305, v308, rfl, ho0, ho1, ho2, hb⟩; refine ⟨_, rfl, ?_⟩; have HO303 := ak_ (Kd.R_lower (Kd.R_new' (Kd.R_new' ho0 (Kd.R_lt (by (with_reducible repeat (first | apply Kd.R_alloc | apply Kd.R_drewN | apply Kd.R_drew)); exact (Kd.R_mono (Kd.R_far (p := ⟨gb300, 2, none⟩) (Kd.R_far (p := ⟨gb300, 1, none⟩) (Kd.R_far (p := ⟨gb300, 0, none⟩) (Kd.R_types HO283.out BK300.out (by decide)) (fun _ hk => hk.2) (.slice Ao25 t290.length co25)) (fun _ hk => hk.2) (.slice Ao28 t293.length co28)) (fun _ hk => hk.2) (.slice Ao29 t296.length co29)) (fun _ h_ => h_.1))))) (Kd.R_lt (by (with_reducible repeat (first | apply Kd.R_alloc | apply Kd.R_drewN | apply Kd.R_drew)); exact (Kd.R_mono (Kd.R_far (p := ⟨gb300, 2, none⟩) (Kd.R_far (p := ⟨gb300, 1, none⟩) (Kd.R_far (p := ⟨gb300, 0, none⟩) (Kd.R_types HO292.out BK300.out (by decide)) (fun _ hk => hk.2) (.slice Ao25 t290.length co25)) (fun _ hk => hk.2) (.slice Ao28 t293.length co28)) (fun _ hk => hk.2) (.slice Ao29 t296.length co29)) (fun _ h_ => h_.1))))) (below_size (hg2_ GE279 GE300))); replace HO283 := ak_ (Kd.R_elder' (by (with_reducible repeat (first | apply Kd.R_alloc | apply Kd.R_drewN | apply Kd.R_drew)); exact (Kd.R_mono (Kd.R_far (p := ⟨gb300, 2, none⟩) (Kd.R_far (p := ⟨gb300, 1, none⟩) (Kd.R_far (p := ⟨gb300, 0, none⟩) (Kd.R_types HO283.out BK300.out (by decide)) (fun _ hk => hk.2) (.slice Ao25 t290.length co25)) (fun _ hk => hk.2) (.slice Ao28 t293.length co28)) (fun _ hk => hk.2) (.slice Ao29 t296.length co29)) (fun _ h_ => h_.1))) (Kd.R_base ho0) hb); replace HO292 := ak_ (Kd.R_elder' (by (with_reducible repeat (first | apply Kd.R_alloc | apply Kd.R_drewN | apply Kd.R_drew)); exact (Kd.R_mono (Kd.R_far (p := ⟨gb300, 2, none⟩) (Kd.R_far (p := ⟨gb300, 1, none⟩) (Kd.R_far (p := ⟨gb300, 0, none⟩) (Kd.R_types HO292.out BK300.out (by decide)) (fun _ hk => hk.2) (.slice Ao25 t290.length co25)) (fun _ hk => hk.2) (.slice Ao28 t293.length co28)) (fun _ hk => hk.2) (.slice Ao29 t296.length co29)) (fun _ h_ => h_.1))) (Kd.R_base ho0) hb); have HO306 := ak_ (Kd.R_lower (Kd.R_new' (Kd.R_new' ho1 (Kd.R_lt (by (with_reducible repeat (first | apply Kd.R_alloc | apply Kd.R_drewN | apply Kd.R_drew)); exact (Kd.R_mono (Kd.R_far (p := ⟨gb300, 2, none⟩) (Kd.R_far (p := ⟨gb300, 1, none⟩) (Kd.R_far (p := ⟨gb300, 0, none⟩) (Kd.R_types HO286.out BK300.out (by decide)) (fun _ hk => hk.2) (.slice Ao25 t290.length co25)) (fun _ hk => hk.2) (.slice Ao28 t293.length co28)) (fun _ hk => hk.2) (.slice Ao29 t296.length co29)) (fun _ h_ => h_.1))))) (Kd.R_lt (by (with_reducible repeat (first | apply Kd.R_alloc | apply Kd.R_drewN | apply Kd.R_drew)); exact (Kd.R_mono (Kd.R_far (p := ⟨gb300, 2, none⟩) (Kd.R_far (p := ⟨gb300, 1, none⟩) (Kd.R_far (p := ⟨gb300, 0, none⟩) (Kd.R_types HO295.out BK300.out (by decide)) (fun _ hk => hk.2) (.slice Ao25 t290.length co25)) (fun _ hk => hk.2) (.slice Ao28 t293.length co28)) (fun _ hk => hk.2) (.slice Ao29 t296.length co29)) (fun _ h_ => h_.1))))) (below_size (hg2_ GE279 GE300))); replace HO286 := ak_ (Kd.R_elder' (by (with_reducible repeat (first | apply Kd.R_alloc | apply Kd.R_drewN | apply Kd.R_drew)); exact (Kd.R_mono (Kd.R_far (p := ⟨gb300, 2, none⟩) (Kd.R_far (p := ⟨gb300, 1, none⟩) (Kd.R_far (p := ⟨gb300, 0, none⟩) (Kd.R_types HO286.out BK300.out (by decide)) (fun _ hk => hk.2) (.slice Ao25 t290.length co25)) (fun _ hk => hk.2) (.slice Ao28 t293.length co28)) (fun _ hk => hk.2) (.slice Ao29 t296.length co29)) (fun _ h_ => h_.1))) (Kd.R_base ho1) hb); replace HO295 := ak_ (Kd.R_elder' (by (with_reducible repeat (first | apply Kd.R_alloc | apply Kd.R_drewN | apply Kd.R_drew)); exact (Kd.R_mono (Kd.R_far (p := ⟨gb300, 2, none⟩) (Kd.R_far (p := ⟨gb300, 1, none⟩) (Kd.R_far (p := ⟨gb300, 0, none⟩) (Kd.R_types HO295.out BK300.out (by decide)) (fun _ hk => hk.2) (.slice Ao25 t290.length co25)) (fun _ hk => hk.2) (.slice Ao28 t293.length co28)) (fun _ hk => hk.2) (.slice Ao29 t296.length co29)) (fun _ h_ => h_.1))) (Kd.R_base ho1) hb); have HO309 := ak_ (Kd.R_lower (Kd.R_new' (Kd.R_new' ho2 (Kd.R_lt (by (with_reducible repeat (first | apply Kd.R_alloc | apply Kd.R_drewN | apply Kd.R_drew)); exact (Kd.R_mono (Kd.R_far (p := ⟨gb300, 2, none⟩) (Kd.R_far (p := ⟨gb300, 1, none⟩) (Kd.R_far (p := ⟨gb300, 0, none⟩) (Kd.R_types HO289.out BK300.out (by decide)) (fun _ hk => hk.2) (.slice Ao25 t290.length co25)) (fun _ hk => hk.2) (.slice Ao28 t293.length co28)) (fun _ hk => hk.2) (.slice Ao29 t296.length co29)) (fun _ h_ => h_.1))))) (Kd.R_lt (by (with_reducible repeat (first | apply Kd.R_alloc | apply Kd.R_drewN | apply Kd.R_drew)); exact (Kd.R_mono (Kd.R_far (p := ⟨gb300, 2, none⟩) (Kd.R_far (p := ⟨gb300, 1, none⟩) (Kd.R_far (p := ⟨gb300, 0, none⟩) (Kd.R_types HO298.out BK300.out (by decide)) (fun _ hk => hk.2) (.slice Ao25 t290.length co25)) (fun _ hk => hk.2) (.slice Ao28 t293.length co28)) (fun _ hk => hk.2) (.slice Ao29 t296.length co29)) (fun _ h_ => h_.1))))) (below_size (hg2_ GE279 GE300))); replace HO289 := ak_ (Kd.R_elder' (by (with_reducible repeat (first | apply Kd.R_alloc | apply Kd.R_drewN | apply Kd.R_drew)); exact (Kd.R_mono (Kd.R_far (p := ⟨gb300, 2, none⟩) (Kd.R_far (p := ⟨gb300, 1, none⟩) (Kd.R_far (p := ⟨gb300, 0, none⟩) (Kd.R_types HO289.out BK300.out (by decide)) (fun _ hk => hk.2) (.slice Ao25 t290.length co25)) (fun _ hk => hk.2) (.slice Ao28 t293.length co28)) (fun _ hk => hk.2) (.slice Ao29 t296.length co29)) (fun _ h_ => h_.1))) (Kd.R_base ho2) hb); replace HO298 := ak_ (Kd.R_elder' (by (with_reducible repeat (first | apply Kd.R_alloc | apply Kd.R_drewN | apply Kd.R_drew)); exact (Kd.R_mono (Kd.R_far (p := ⟨gb300, 2, none⟩) (Kd.R_far (p := ⟨gb300, 1, none⟩) (Kd.R_far (p := ⟨gb300, 0, none⟩) (Kd.R_types HO298.out BK300.out (by decide)) (fun _ hk => hk.2) (.slice Ao25 t290.length co25)) (fun _ hk => hk.2) (.slice Ao28 t293.length co28)) (fun _ hk => hk.2) (.slice Ao29 t296.length co29)) (fun _ h_ => h_.1))) (Kd.R_base ho2) hb); replace BK279 := ak_ (blk_below (g := gb279) (o := .cells #[.slice A0_0 l0_0.length c0_0, .slice A0_1 l0_1.length c0_1, .slice A0_2 l0_2.length c0_2] 26 (0, 0)) (by (with_reducible repeat (first | refine blk_drewN ?_ _ | refine blk_drew ?_ | refine blk_alloc ?_ _)); refine blk_far ?_ NB279_300.out _; (with_reducible repeat (first | refine blk_drewN ?_ _ | refine blk_drew ?_ | refine blk_alloc ?_ _)); refine blk_far ?_ NB279_300.out _; (with_reducible repeat (first | refine blk_drewN ?_ _ | refine blk_drew ?_ | refine blk_alloc ?_ _)); refine blk_far ?_ NB279_300.out _; (with_reducible repeat (first | refine blk_drewN ?_ _ | refine blk_drew ?_ | refine blk_alloc ?_ _)); exact BK279.out) hb); replace BK300 := ak_ (blk_below (g := gb300) (o := .cells #[.slice Ao25 t290.length co25, .slice Ao28 t293.length co28, .slice Ao29 t296.length co29] 31 (0, 0)) (by (with_reducible repeat (first | refine blk_drewN ?_ _ | refine blk_drew ?_ | refine blk_alloc ?_ _)); refine blk_put (cs := #[.slice Ao25 t290.length co25, .slice Ao28 t293.length co28, .slice none 0 0]) ?_ 2 _ rfl; (with_reducible repeat (first | refine blk_drewN ?_ _ | refine blk_drew ?_ | refine blk_alloc ?_ _)); refine blk_put (cs := #[.slice Ao25 t290.length co25, .slice none 0 0, .slice none 0 0]) ?_ 1 _ rfl; (with_reducible repeat (first | refine blk_drewN ?_ _ | refine blk_drew ?_ | refine blk_alloc ?_ _)); refine blk_put (cs := #[.slice none 0 0, .slice none 0 0, .slice none 0 0]) ?_ 0 _ rfl; (with_reducible repeat (first | refine blk_drewN ?_ _ | refine blk_drew ?_ | refine blk_alloc ?_ _)); exact BK300.out) hb); replace HB := ak_ (below_step (hg2_ GE279 GE300) hb); skip; clear hb ho0 ho1 ho2) | ((with_reducible refine gate_dst (N := 8) rfl ?_); refine box_event ?hg (N := 8) ?hd (cs := #[.slice none 0 0, .slice none 0 0, .slice none 0 0]) (t := 31) ?hr ?_; (case hd => rfl); (case hg => rfl); (case hr => first | (go_simp; done) | (go_simp; rfl)); intro gb310 hg w32 hbox hb; replace HO283 := ak_ (Kd.R_below (kr_ HO283) hb); replace HO286 := ak_ (Kd.R_below (kr_ HO286) hb); replace HO289 := ak_ (Kd.R_below (kr_ HO289) hb); replace HO292 := ak_ (Kd.R_below (kr_ HO292) hb); replace HO295 := ak_ (Kd.R_below (kr_ HO295) hb); replace HO298 := ak_ (Kd.R_below (kr_ HO298) hb); replace HO303 := ak_ (Kd.R_below (kr_ HO303) hb); replace HO306 := ak_ (Kd.R_below (kr_ HO306) hb); replace HO309 := ak_ (Kd.R_below (kr_ HO309) hb); have BK310 := ak_ (hbox); have GW310 := ak_ ((by rw [hg]; exact (below_size (hg2_ GE279 GE300)) : w.heap.size ≤ gb310)); have GE310 := ak_ ((by rw [hg]; exact (below_size (hg2_ GE279 GE300)) : w.heap.size ≤ gb310)); replace HB := ak_ (below_step (hg2_ GE279 GE300) hb); have NB279_310 := ak_ ((by rw [hg]; exact Nat.ne_of_lt (blk_lt (g := gb279) (o := .cells #[.slice A0_0 l0_0.length c0_0, .slice A0_1 l0_1.length c0_1, .slice A0_2 l0_2.length c0_2] 26 (0, 0)) (bk_ BK279)) : gb279 ≠ gb310)); have NB310_279 := ak_ ((by rw [hg]; exact Nat.ne_of_gt (blk_lt (g := gb279) (o := .cells #[.slice A0_0 l0_0.length c0_0, .slice A0_1 l0_1.length c0_1, .slice A0_2 l0_2.length c0_2] 26 (0, 0)) (bk_ BK279)) : gb310 ≠ gb279)); replace BK279 := ak_ (blk_below (g := gb279) (o := .cells #[.slice A0_0 l0_0.length c0_0, .slice A0_1 l0_1.length c0_1, .slice A0_2 l0_2.length c0_2] 26 (0, 0)) (bk_ BK279) hb); have NB300_310 := ak_ ((by rw [hg]; exact Nat.ne_of_lt (blk_lt (g := gb300) (o := .cells #[.slice Ao25 t290.length co25, .slice Ao28 t293.length co28, .slice Ao29 t296.length co29] 31 (0, 0)) (bk_ BK300)) : gb300 ≠ gb310)); have NB310_300 := ak_ ((by rw [hg]; exact Nat.ne_of_gt (blk_lt (g := gb300) (o := .cells #[.slice Ao25 t290.length co25, .slice Ao28 t293.length co28, .slice Ao29 t296.length co29] 31 (0, 0)) (bk_ BK300)) : gb310 ≠ gb300)); replace BK300 := ak_ (blk_below (g := gb300) (o := .cells #[.slice Ao25 t290.length co25, .slice Ao28 t293.length co28, .slice Ao29 t296.length co29] 31 (0, 0)) (bk_ BK300) hb); skip; clear hb hbox hg; obtain ⟨Ao33, co33, eo33⟩ := Kd.R_slice HO303.out; subst eo33; have hnb34 := NB310_279.out; have hnc34 := NB279_310.out; have hnb35 := NB310_300.out; have hnc35 := NB300_310.out; have hcz36_0 : w32.cell? ⟨gb310, 0, none⟩ = some (.slice none 0 0) := (blk_cell BK310.out 0).trans rfl; have hcz36_1 : w32.cell? ⟨gb310, 1, none⟩ = some (.slice none 0 0) := (blk_cell BK310.out 1).trans rfl; have hcz36_2 : w32.cell? ⟨gb310, 2, none⟩ = some (.slice none 0 0) := (blk_cell BK310.out 2).trans rfl; have hfz36_0 := blk_frozen BK310.out 0; have hfz36_1 := blk_frozen BK310.out 1; have hfz36_2 := blk_frozen BK310.out 2; obtain ⟨Ao37, co37, eo37⟩ := Kd.R_slice HO306.out; subst eo37; obtain ⟨Ao38, co38, eo38⟩ := Kd.R_slice HO309.out; subst eo38) | ((with_reducible refine gate_callee (f := 8) rfl ?_); refine goesL_ (some 36) rfl rfl Try.func8 (by kernel_rfl) rfl #[.agg #[.slice Ao33 t301.length co33, .slice Ao37 t304.length co37, .slice Ao38 t307.length co38], .string a1] rfl ln_ ?_; (with_reducible refine (impl_CastOff.calls k _ _ t301 _ _ t304 _ _ t307 a1 t311 t314 t317 t320 _ ?side1 ?side2 ?side3 ?side4 ?side5 ?side6 A13.out).mono ?_); (case side1 => refine (Kd.R_reads' (e := 91) (base := w.heap.size) (ok := fun k_ => ((True ∧ some k_ ≠ (.slice Ao20 t281.length co20 : Value).ownBlock) ∧ some k_ ≠ (.slice Ao25 t290.length co25 : Value).ownBlock)) (n := t301.length) (c := co33) ?_).2.2; exact (by (with_reducible repeat (first | apply Kd.R_alloc | apply Kd.R_drewN | apply Kd.R_drew)); exact (Kd.R_mono (Kd.R_far (p := ⟨gb310, 2, none⟩) (Kd.R_far (p := ⟨gb310, 1, none⟩) (Kd.R_far (p := ⟨gb310, 0, none⟩) (Kd.R_types HO303.out BK310.out (by decide)) (fun _ hk => hk.2) (.slice Ao33 t301.length co33)) (fun _ hk => hk.2) (.slice Ao37 t304.length co37)) (fun _ hk => hk.2) (.slice Ao38 t307.length co38)) (fun _ h_ => h_.1)))); (case side2 => exact (Kd.R_reads' HO303.out).2.1); (case side3 => refine (Kd.R_reads' (e := 9) (base := w.heap.size) (ok := fun k_ => ((True ∧ some k_ ≠ (.slice Ao21 t284.length co21 : Value).ownBlock) ∧ some k_ ≠ (.slice Ao28 t293.length co28 : Value).ownBlock)) (n := t304.length) (c := co37) ?_).2.2; exact (by (with_reducible repeat (first | apply Kd.R_alloc | apply Kd.R_drewN | apply Kd.R_drew)); exact (Kd.R_mono (Kd.R_far (p := ⟨gb310, 2, none⟩) (Kd.R_far (p := ⟨gb310, 1, none⟩) (Kd.R_far (p := ⟨gb310, 0, none⟩) (Kd.R_types HO306.out BK310.out (by decide)) (fun _ hk => hk.2) (.slice Ao33 t301.length co33)) (fun _ hk => hk.2) (.slice Ao37 t304.length co37)) (fun _ hk => hk.2) (.slice Ao38 t307.length co38)) (fun _ h_ => h_.1)))); (case side4 => exact (Kd.R_reads' HO306.out).2.1); (case side5 => refine (Kd.R_reads' (e := 41) (base := w.heap.size) (ok := fun k_ => ((True ∧ some k_ ≠ (.slice Ao22 t287.length co22 : Value).ownBlock) ∧ some k_ ≠ (.slice Ao29 t296.length co29 : Value).ownBlock)) (n := t307.length) (c := co38) ?_).2.2; exact (by (with_reducible repeat (first | apply Kd.R_alloc | apply Kd.R_drewN | apply Kd.R_drew)); exact (Kd.R_mono (Kd.R_far (p := ⟨gb310, 2, none⟩) (Kd.R_far (p := ⟨gb310, 1, none⟩) (Kd.R_far (p := ⟨gb310, 0, none⟩) (Kd.R_types HO309.out BK310.out (by decide)) (fun _ hk => hk.2) (.slice Ao33 t301.length co33)) (fun _ hk => hk.2) (.slice Ao37 t304.length co37)) (fun _ hk => hk.2) (.slice Ao38 t307.length co38)) (fun _ h_ => h_.1)))); (case side6 => exact (Kd.R_reads' HO309.out).2.1); rintro e w39 ⟨v312, v315, v318, rfl, ho0, ho1, ho2, hb⟩; refine ⟨_, rfl, ?_⟩; have HO313 := ak_ (Kd.R_lower (Kd.R_new' (Kd.R_new' (Kd.R_new' ho0 (Kd.R_lt (by (with_reducible repeat (first | apply Kd.R_alloc | apply Kd.R_drewN | apply Kd.R_drew)); exact (Kd.R_mono (Kd.R_far (p := ⟨gb310, 2, none⟩) (Kd.R_far (p := ⟨gb310, 1, none⟩) (Kd.R_far (p := ⟨gb310, 0, none⟩) (Kd.R_types HO283.out BK310.out (by decide)) (fun _ hk => hk.2) (.slice Ao33 t301.length co33)) (fun _ hk => hk.2) (.slice Ao37 t304.length co37)) (fun _ hk => hk.2) (.slice Ao38 t307.length co38)) (fun _ h_ => h_.1))))) (Kd.R_lt (by (with_reducible repeat (first | apply Kd.R_alloc | apply Kd.R_drewN | apply Kd.R_drew)); exact (Kd.R_mono (Kd.R_far (p := ⟨gb310, 2, none⟩) (Kd.R_far (p := ⟨gb310, 1, none⟩) (Kd.R_far (p := ⟨gb310, 0, none⟩) (Kd.R_types HO292.out BK310.out (by decide)) (fun _ hk => hk.2) (.slice Ao33 t301.length co33)) (fun _ hk => hk.2) (.slice Ao37 t304.length co37)) (fun _ hk => hk.2) (.slice Ao38 t307.length co38)) (fun _ h_ => h_.1))))) (Kd.R_lt (by (with_reducible repeat (first | apply Kd.R_alloc | apply Kd.R_drewN | apply Kd.R_drew)); exact (Kd.R_mono (Kd.R_far (p := ⟨gb310, 2, none⟩) (Kd.R_far (p := ⟨gb310, 1, none⟩) (Kd.R_far (p := ⟨gb310, 0, none⟩) (Kd.R_types HO303.out BK310.out (by decide)) (fun _ hk => hk.2) (.slice Ao33 t301.length co33)) (fun _ hk => hk.2) (.slice Ao37 t304.length co37)) (fun _ hk => hk.2) (.slice Ao38 t307.length co38)) (fun _ h_ => h_.1))))) (below_size (by repeat (first | (with_reducible first | exact HB.out | apply below_alloc | apply pw_below_drewN | apply below_drew1 | refine below_set ?_ GE279.out | refine below_set ?_ GE300.out | refine below_set ?_ GE310.out) | exact HB.out)))); replace HO283 := ak_ (Kd.R_elder' (by (with_reducible repeat (first | apply Kd.R_alloc | apply Kd.R_drewN | apply Kd.R_drew)); exact (Kd.R_mono (Kd.R_far (p := ⟨gb310, 2, none⟩) (Kd.R_far (p := ⟨gb310, 1, none⟩) (Kd.R_far (p := ⟨gb310, 0, none⟩) (Kd.R_types HO283.out BK310.out (by decide)) (fun _ hk => hk.2) (.slice Ao33 t301.length co33)) (fun _ hk => hk.2) (.slice Ao37 t304.length co37)) (fun _ hk => hk.2) (.slice Ao38 t307.length co38)) (fun _ h_ => h_.1))) (Kd.R_base ho0) hb); replace HO292 := ak_ (Kd.R_elder' (by (with_reducible repeat (first | apply Kd.R_alloc | apply Kd.R_drewN | apply Kd.R_drew)); exact (Kd.R_mono (Kd.R_far (p := ⟨gb310, 2, none⟩) (Kd.R_far (p := ⟨gb310, 1, none⟩) (Kd.R_far (p := ⟨gb310, 0, none⟩) (Kd.R_types HO292.out BK310.out (by decide)) (fun _ hk => hk.2) (.slice Ao33 t301.length co33)) (fun _ hk => hk.2) (.slice Ao37 t304.length co37)) (fun _ hk => hk.2) (.slice Ao38 t307.length co38)) (fun _ h_ => h_.1))) (Kd.R_base ho0) hb); replace HO303 := ak_ (Kd.R_elder' (by (with_reducible repeat (first | apply Kd.R_alloc | apply Kd.R_drewN | apply Kd.R_drew)); exact (Kd.R_mono (Kd.R_far (p := ⟨gb310, 2, none⟩) (Kd.R_far (p := ⟨gb310, 1, none⟩) (Kd.R_far (p := ⟨gb310, 0, none⟩) (Kd.R_types HO303.out BK310.out (by decide)) (fun _ hk => hk.2) (.slice Ao33 t301.length co33)) (fun _ hk => hk.2) (.slice Ao37 t304.length co37)) (fun _ hk => hk.2) (.slice Ao38 t307.length co38)) (fun _ h_ => h_.1))) (Kd.R_base ho0) hb); have HO316 := ak_ (Kd.R_lower (Kd.R_new' (Kd.R_new' (Kd.R_new' ho1 (Kd.R_lt (by (with_reducible repeat (first | apply Kd.R_alloc | apply Kd.R_drewN | apply Kd.R_drew)); exact (Kd.R_mono (Kd.R_far (p := ⟨gb310, 2, none⟩) (Kd.R_far (p := ⟨gb310, 1, none⟩) (Kd.R_far (p := ⟨gb310, 0, none⟩) (Kd.R_types HO286.out BK310.out (by decide)) (fun _ hk => hk.2) (.slice Ao33 t301.length co33)) (fun _ hk => hk.2) (.slice Ao37 t304.length co37)) (fun _ hk => hk.2) (.slice Ao38 t307.length co38)) (fun _ h_ => h_.1))))) (Kd.R_lt (by (with_reducible repeat (first | apply Kd.R_alloc | apply Kd.R_drewN | apply Kd.R_drew)); exact (Kd.R_mono (Kd.R_far (p := ⟨gb310, 2, none⟩) (Kd.R_far (p := ⟨gb310, 1, none⟩) (Kd.R_far (p := ⟨gb310, 0, none⟩) (Kd.R_types HO295.out BK310.out (by decide)) (fun _ hk => hk.2) (.slice Ao33 t301.length co33)) (fun _ hk => hk.2) (.slice Ao37 t304.length co37)) (fun _ hk => hk.2) (.slice Ao38 t307.length co38)) (fun _ h_ => h_.1))))) (Kd.R_lt (by (with_reducible repeat (first | apply Kd.R_alloc | apply Kd.R_drewN | apply Kd.R_drew)); exact (Kd.R_mono (Kd.R_far (p := ⟨gb310, 2, none⟩) (Kd.R_far (p := ⟨gb310, 1, none⟩) (Kd.R_far (p := ⟨gb310, 0, none⟩) (Kd.R_types HO306.out BK310.out (by decide)) (fun _ hk => hk.2) (.slice Ao33 t301.length co33)) (fun _ hk => hk.2) (.slice Ao37 t304.length co37)) (fun _ hk => hk.2) (.slice Ao38 t307.length co38)) (fun _ h_ => h_.1))))) (below_size (by repeat (first | (with_reducible first | exact HB.out | apply below_alloc | apply pw_below_drewN | apply below_drew1 | refine below_set ?_ GE279.out | refine below_set ?_ GE300.out | refine below_set ?_ GE310.out) | exact HB.out)))); replace HO286 := ak_ (Kd.R_elder' (by (with_reducible repeat (first | apply Kd.R_alloc | apply Kd.R_drewN | apply Kd.R_drew)); exact (Kd.R_mono (Kd.R_far (p := ⟨gb310, 2, none⟩) (Kd.R_far (p := ⟨gb310, 1, none⟩) (Kd.R_far (p := ⟨gb310, 0, none⟩) (Kd.R_types HO286.out BK310.out (by decide)) (fun _ hk => hk.2) (.slice Ao33 t301.length co33)) (fun _ hk => hk.2) (.slice Ao37 t304.length co37)) (fun _ hk => hk.2) (.slice Ao38 t307.length co38)) (fun _ h_ => h_.1))) (Kd.R_base ho1) hb); replace HO295 := ak_ (Kd.R_elder' (by (with_reducible repeat (first | apply Kd.R_alloc | apply Kd.R_drewN | apply Kd.R_drew)); exact (Kd.R_mono (Kd.R_far (p := ⟨gb310, 2, none⟩) (Kd.R_far (p := ⟨gb310, 1, none⟩) (Kd.R_far (p := ⟨gb310, 0, none⟩) (Kd.R_types HO295.out BK310.out (by decide)) (fun _ hk => hk.2) (.slice Ao33 t301.length co33)) (fun _ hk => hk.2) (.slice Ao37 t304.length co37)) (fun _ hk => hk.2) (.slice Ao38 t307.length co38)) (fun _ h_ => h_.1))) (Kd.R_base ho1) hb); replace HO306 := ak_ (Kd.R_elder' (by (with_reducible repeat (first | apply Kd.R_alloc | apply Kd.R_drewN | apply Kd.R_drew)); exact (Kd.R_mono (Kd.R_far (p := ⟨gb310, 2, none⟩) (Kd.R_far (p := ⟨gb310, 1, none⟩) (Kd.R_far (p := ⟨gb310, 0, none⟩) (Kd.R_types HO306.out BK310.out (by decide)) (fun _ hk => hk.2) (.slice Ao33 t301.length co33)) (fun _ hk => hk.2) (.slice Ao37 t304.length co37)) (fun _ hk => hk.2) (.slice Ao38 t307.length co38)) (fun _ h_ => h_.1))) (Kd.R_base ho1) hb); have HO319 := ak_ (Kd.R_lower (Kd.R_new' (Kd.R_new' (Kd.R_new' ho2 (Kd.R_lt (by (with_reducible repeat (first | apply Kd.R_alloc | apply Kd.R_drewN | apply Kd.R_drew)); exact (Kd.R_mono (Kd.R_far (p := ⟨gb310, 2, none⟩) (Kd.R_far (p := ⟨gb310, 1, none⟩) (Kd.R_far (p := ⟨gb310, 0, none⟩) (Kd.R_types HO289.out BK310.out (by decide)) (fun _ hk => hk.2) (.slice Ao33 t301.length co33)) (fun _ hk => hk.2) (.slice Ao37 t304.length co37)) (fun _ hk => hk.2) (.slice Ao38 t307.length co38)) (fun _ h_ => h_.1))))) (Kd.R_lt (by (with_reducible repeat (first | apply Kd.R_alloc | apply Kd.R_drewN | apply Kd.R_drew)); exact (Kd.R_mono (Kd.R_far (p := ⟨gb310, 2, none⟩) (Kd.R_far (p := ⟨gb310, 1, none⟩) (Kd.R_far (p := ⟨gb310, 0, none⟩) (Kd.R_types HO298.out BK310.out (by decide)) (fun _ hk => hk.2) (.slice Ao33 t301.length co33)) (fun _ hk => hk.2) (.slice Ao37 t304.length co37)) (fun _ hk => hk.2) (.slice Ao38 t307.length co38)) (fun _ h_ => h_.1))))) (Kd.R_lt (by (with_reducible repeat (first | apply Kd.R_alloc | apply Kd.R_drewN | apply Kd.R_drew)); exact (Kd.R_mono (Kd.R_far (p := ⟨gb310, 2, none⟩) (Kd.R_far (p := ⟨gb310, 1, none⟩) (Kd.R_far (p := ⟨gb310, 0, none⟩) (Kd.R_types HO309.out BK310.out (by decide)) (fun _ hk => hk.2) (.slice Ao33 t301.length co33)) (fun _ hk => hk.2) (.slice Ao37 t304.length co37)) (fun _ hk => hk.2) (.slice Ao38 t307.length co38)) (fun _ h_ => h_.1))))) (below_size (by repeat (first | (with_reducible first | exact HB.out | apply below_alloc | apply pw_below_drewN | apply below_drew1 | refine below_set ?_ GE279.out | refine below_set ?_ GE300.out | refine below_set ?_ GE310.out) | exact HB.out)))); replace HO289 := ak_ (Kd.R_elder' (by (with_reducible repeat (first | apply Kd.R_alloc | apply Kd.R_drewN | apply Kd.R_drew)); exact (Kd.R_mono (Kd.R_far (p := ⟨gb310, 2, none⟩) (Kd.R_far (p := ⟨gb310, 1, none⟩) (Kd.R_far (p := ⟨gb310, 0, none⟩) (Kd.R_types HO289.out BK310.out (by decide)) (fun _ hk => hk.2) (.slice Ao33 t301.length co33)) (fun _ hk => hk.2) (.slice Ao37 t304.length co37)) (fun _ hk => hk.2) (.slice Ao38 t307.length co38)) (fun _ h_ => h_.1))) (Kd.R_base ho2) hb); replace HO298 := ak_ (Kd.R_elder' (by (with_reducible repeat (first | apply Kd.R_alloc | apply Kd.R_drewN | apply Kd.R_drew)); exact (Kd.R_mono (Kd.R_far (p := ⟨gb310, 2, none⟩) (Kd.R_far (p := ⟨gb310, 1, none⟩) (Kd.R_far (p := ⟨gb310, 0, none⟩) (Kd.R_types HO298.out BK310.out (by decide)) (fun _ hk => hk.2) (.slice Ao33 t301.length co33)) (fun _ hk => hk.2) (.slice Ao37 t304.length co37)) (fun _ hk => hk.2) (.slice Ao38 t307.length co38)) (fun _ h_ => h_.1))) (Kd.R_base ho2) hb); replace HO309 := ak_ (Kd.R_elder' (by (with_reducible repeat (first | apply Kd.R_alloc | apply Kd.R_drewN | apply Kd.R_drew)); exact (Kd.R_mono (Kd.R_far (p := ⟨gb310, 2, none⟩) (Kd.R_far (p := ⟨gb310, 1, none⟩) (Kd.R_far (p := ⟨gb310, 0, none⟩) (Kd.R_types HO309.out BK310.out (by decide)) (fun _ hk => hk.2) (.slice Ao33 t301.length co33)) (fun _ hk => hk.2) (.slice Ao37 t304.length co37)) (fun _ hk => hk.2) (.slice Ao38 t307.length co38)) (fun _ h_ => h_.1))) (Kd.R_base ho2) hb); replace BK279 := ak_ (blk_below (g := gb279) (o := .cells #[.slice A0_0 l0_0.length c0_0, .slice A0_1 l0_1.length c0_1, .slice A0_2 l0_2.length c0_2] 26 (0, 0)) (by (with_reducible repeat (first | refine blk_drewN ?_ _ | refine blk_drew ?_ | refine blk_alloc ?_ _)); refine blk_far ?_ NB279_310.out _; (with_reducible repeat (first | refine blk_drewN ?_ _ | refine blk_drew ?_ | refine blk_alloc ?_ _)); refine blk_far ?_ NB279_310.out _; (with_reducible repeat (first | refine blk_drewN ?_ _ | refine blk_drew ?_ | refine blk_alloc ?_ _)); refine blk_far ?_ NB279_310.out _; (with_reducible repeat (first | refine blk_drewN ?_ _ | refine blk_drew ?_ | refine blk_alloc ?_ _)); exact BK279.out) hb); replace BK300 := ak_ (blk_below (g := gb300) (o := .cells #[.slice Ao25 t290.length co25, .slice Ao28 t293.length co28, .slice Ao29 t296.length co29] 31 (0, 0)) (by (with_reducible repeat (first | refine blk_drewN ?_ _ | refine blk_drew ?_ | refine blk_alloc ?_ _)); refine blk_far ?_ NB300_310.out _; (with_reducible repeat (first | refine blk_drewN ?_ _ | refine blk_drew ?_ | refine blk_alloc ?_ _)); refine blk_far ?_ NB300_310.out _; (with_reducible repeat (first | refine blk_drewN ?_ _ | refine blk_drew ?_ | refine blk_alloc ?_ _)); refine blk_far ?_ NB300_310.out _; (with_reducible repeat (first | refine blk_drewN ?_ _ | refine blk_drew ?_ | refine blk_alloc ?_ _)); exact BK300.out) hb); replace BK310 := ak_ (blk_below (g := gb310) (o := .cells #[.slice Ao33 t301.length co33, .slice Ao37 t304.length co37, .slice Ao38 t307.length co38] 31 (0, 0)) (by (with_reducible repeat (first | refine blk_drewN ?_ _ | refine blk_drew ?_ | refine blk_alloc ?_ _)); refine blk_put (cs := #[.slice Ao33 t301.length co33, .slice Ao37 t304.length co37, .slice none 0 0]) ?_ 2 _ rfl; (with_reducible repeat (first | refine blk_drewN ?_ _ | refine blk_drew ?_ | refine blk_alloc ?_ _)); refine blk_put (cs := #[.slice Ao33 t301.length co33, .slice none 0 0, .slice none 0 0]) ?_ 1 _ rfl; (with_reducible repeat (first | refine blk_drewN ?_ _ | refine blk_drew ?_ | refine blk_alloc ?_ _)); refine blk_put (cs := #[.slice none 0 0, .slice none 0 0, .slice none 0 0]) ?_ 0 _ rfl; (with_reducible repeat (first | refine blk_drewN ?_ _ | refine blk_drew ?_ | refine blk_alloc ?_ _)); exact BK310.out) hb); replace HB := ak_ (below_step (by repeat (first | (with_reducible first | exact HB.out | apply below_alloc | apply pw_below_drewN | apply below_drew1 | refine below_set ?_ GE279.out | refine below_set ?_ GE300.out | refine below_set ?_ GE310.out) | exact HB.out)) hb); skip; clear hb ho0 ho1 ho2) | ((with_reducible refine gate_dst (N := 9) rfl ?_); refine box_event ?hg (N := 9) ?hd (cs := #[.slice none 0 0, .slice none 0 0, .slice none 0 0]) (t := 31) ?hr ?_; (case hd => rfl); (case hg => rfl); (case hr => first | (go_simp; done) | (go_simp; rfl)); intro gb321 hg w40 hbox hb; replace HO283 := ak_ (Kd.R_below (kr_ HO283) hb); replace HO286 := ak_ (Kd.R_below (kr_ HO286) hb); replace HO289 := ak_ (Kd.R_below (kr_ HO289) hb); replace HO292 := ak_ (Kd.R_below (kr_ HO292) hb); replace HO295 := ak_ (Kd.R_below (kr_ HO295) hb); replace HO298 := ak_ (Kd.R_below (kr_ HO298) hb); replace HO303 := ak_ (Kd.R_below (kr_ HO303) hb); replace HO306 := ak_ (Kd.R_below (kr_ HO306) hb); replace HO309 := ak_ (Kd.R_below (kr_ HO309) hb); replace HO313 := ak_ (Kd.R_below (kr_ HO313) hb); replace HO316 := ak_ (Kd.R_below (kr_ HO316) hb); replace HO319 := ak_ (Kd.R_below (kr_ HO319) hb); have BK321 := ak_ (hbox); have GW321 := ak_ ((by rw [hg]; exact (below_size (by repeat (first | (with_reducible first | exact HB.out | apply below_alloc | apply pw_below_drewN | apply below_drew1 | refine below_set ?_ GE279.out | refine below_set ?_ GE300.out | refine below_set ?_ GE310.out) | exact HB.out))) : w.heap.size ≤ gb321)); have GE321 := ak_ ((by rw [hg]; exact (below_size (by repeat (first | (with_reducible first | exact HB.out | apply below_alloc | apply pw_below_drewN | apply below_drew1 | refine below_set ?_ GE279.out | refine below_set ?_ GE300.out | refine below_set ?_ GE310.out) | exact HB.out))) : w.heap.size ≤ gb321)); replace HB := ak_ (below_step (by repeat (first | (with_reducible first | exact HB.out | apply below_alloc | apply pw_below_drewN | apply below_drew1 | refine below_set ?_ GE279.out | refine below_set ?_ GE300.out | refine below_set ?_ GE310.out) | exact HB.out)) hb); have NB279_321 := ak_ ((by rw [hg]; exact Nat.ne_of_lt (blk_lt (g := gb279) (o := .cells #[.slice A0_0 l0_0.length c0_0, .slice A0_1 l0_1.length c0_1, .slice A0_2 l0_2.length c0_2] 26 (0, 0)) (bk_ BK279)) : gb279 ≠ gb321)); have NB321_279 := ak_ ((by rw [hg]; exact Nat.ne_of_gt (blk_lt (g := gb279) (o := .cells #[.slice A0_0 l0_0.length c0_0, .slice A0_1 l0_1.length c0_1, .slice A0_2 l0_2.length c0_2] 26 (0, 0)) (bk_ BK279)) : gb321 ≠ gb279)); replace BK279 := ak_ (blk_below (g := gb279) (o := .cells #[.slice A0_0 l0_0.length c0_0, .slice A0_1 l0_1.length c0_1, .slice A0_2 l0_2.length c0_2] 26 (0, 0)) (bk_ BK279) hb); have NB300_321 := ak_ ((by rw [hg]; exact Nat.ne_of_lt (blk_lt (g := gb300) (o := .cells #[.slice Ao25 t290.length co25, .slice Ao28 t293.length co28, .slice Ao29 t296.length co29] 31 (0, 0)) (bk_ BK300)) : gb300 ≠ gb321)); have NB321_300 := ak_ ((by rw [hg]; exact Nat.ne_of_gt (blk_lt (g := gb300) (o := .cells #[.slice Ao25 t290.length co25, .slice Ao28 t293.length co28, .slice Ao29 t296.length co29] 31 (0, 0)) (bk_ BK300)) : gb321 ≠ gb300)); replace BK300 := ak_ (blk_below (g := gb300) (o := .cells #[.slice Ao25 t290.length co25, .slice Ao28 t293.length co28, .slice Ao29 t296.length co29] 31 (0, 0)) (bk_ BK300) hb); have NB310_321 := ak_ ((by rw [hg]; exact Nat.ne_of_lt (blk_lt (g := gb310) (o := .cells #[.slice Ao33 t301.length co33, .slice Ao37 t304.length co37, .slice Ao38 t307.length co38] 31 (0, 0)) (bk_ BK310)) : gb310 ≠ gb321)); have NB321_310 := ak_ ((by rw [hg]; exact Nat.ne_of_gt (blk_lt (g := gb310) (o := .cells #[.slice Ao33 t301.length co33, .slice Ao37 t304.length co37, .slice Ao38 t307.length co38] 31 (0, 0)) (bk_ BK310)) : gb321 ≠ gb310)); replace BK310 := ak_ (blk_below (g := gb310) (o := .cells #[.slice Ao33 t301.length co33, .slice Ao37 t304.length co37, .slice Ao38 t307.length co38] 31 (0, 0)) (bk_ BK310) hb); skip; clear hb hbox hg; obtain ⟨Ao41, co41, eo41⟩ := Kd.R_slice HO313.out; subst eo41; have hnb42 := NB321_279.out; have hnc42 := NB279_321.out; have hnb43 := NB321_300.out; have hnc43 := NB300_321.out; have hnb44 := NB321_310.out; have hnc44 := NB310_321.out; have hcz45_0 : w40.cell? ⟨gb321, 0, none⟩ = some (.slice none 0 0) := (blk_cell BK321.out 0).trans rfl; have hcz45_1 : w40.cell? ⟨gb321, 1, none⟩ = some (.slice none 0 0) := (blk_cell BK321.out 1).trans rfl; have hcz45_2 : w40.cell? ⟨gb321, 2, none⟩ = some (.slice none 0 0) := (blk_cell BK321.out 2).trans rfl; have hfz45_0 := blk_frozen BK321.out 0; have hfz45_1 := blk_frozen BK321.out 1; have hfz45_2 := blk_frozen BK321.out 2; obtain ⟨Ao46, co46, eo46⟩ := Kd.R_slice HO316.out; subst eo46; obtain ⟨Ao47, co47, eo47⟩ := Kd.R_slice HO319.out; subst eo47))
 (try simp only [Act.put, List.setIfInBounds_toArray, List.set_cons_zero, List.set_cons_succ])
 go_cut [47] (fun v47 wc => ∃ (kq : Nat) (x47_13 : Bool), v47 = .bool x47_13 ∧ Aside0 (laws_FnExactCastOff.j0 kq a1 t299 t320 x47_13 l0_0 l0_1 l0_2 t290 t293 t296 t301 t304 t307 t311 t314 t317 = some r) ∧ Aside0 (kq ≤ k) ∧ Aside0 (Kd.R k91 91 wc w.heap.size (fun k_ => some k_ ≠ ((.slice Ao33 t301.length co33) : Value).ownBlock ∧ some k_ ≠ ((.slice Ao41 t311.length co41) : Value).ownBlock) (.slice Ao25 t290.length co25) t290) ∧ Aside0 (Kd.R Kd.string 9 wc w.heap.size (fun k_ => some k_ ≠ ((.slice Ao37 t304.length co37) : Value).ownBlock ∧ some k_ ≠ ((.slice Ao46 t314.length co46) : Value).ownBlock) (.slice Ao28 t293.length co28) t293) ∧ Aside0 (Kd.R k41 41 wc w.heap.size (fun k_ => some k_ ≠ ((.slice Ao38 t307.length co38) : Value).ownBlock ∧ some k_ ≠ ((.slice Ao47 t317.length co47) : Value).ownBlock) (.slice Ao29 t296.length co29) t296) ∧ Aside0 (Kd.R k91 91 wc w.heap.size (fun k_ => some k_ ≠ ((.slice Ao25 t290.length co25) : Value).ownBlock ∧ some k_ ≠ ((.slice Ao41 t311.length co41) : Value).ownBlock) (.slice Ao33 t301.length co33) t301) ∧ Aside0 (Kd.R Kd.string 9 wc w.heap.size (fun k_ => some k_ ≠ ((.slice Ao28 t293.length co28) : Value).ownBlock ∧ some k_ ≠ ((.slice Ao46 t314.length co46) : Value).ownBlock) (.slice Ao37 t304.length co37) t304) ∧ Aside0 (Kd.R k41 41 wc w.heap.size (fun k_ => some k_ ≠ ((.slice Ao29 t296.length co29) : Value).ownBlock ∧ some k_ ≠ ((.slice Ao47 t317.length co47) : Value).ownBlock) (.slice Ao38 t307.length co38) t307) ∧ Aside0 (Kd.R k91 91 wc w.heap.size (fun k_ => some k_ ≠ ((.slice Ao25 t290.length co25) : Value).ownBlock ∧ some k_ ≠ ((.slice Ao33 t301.length co33) : Value).ownBlock) (.slice Ao41 t311.length co41) t311) ∧ Aside0 (Kd.R Kd.string 9 wc w.heap.size (fun k_ => some k_ ≠ ((.slice Ao28 t293.length co28) : Value).ownBlock ∧ some k_ ≠ ((.slice Ao37 t304.length co37) : Value).ownBlock) (.slice Ao46 t314.length co46) t314) ∧ Aside0 (Kd.R k41 41 wc w.heap.size (fun k_ => some k_ ≠ ((.slice Ao29 t296.length co29) : Value).ownBlock ∧ some k_ ≠ ((.slice Ao38 t307.length co38) : Value).ownBlock) (.slice Ao47 t317.length co47) t317) ∧ Aside0 (wc.heap[gb279]? = some (.cells #[(.slice A0_0 l0_0.length c0_0), (.slice A0_1 l0_1.length c0_1), (.slice A0_2 l0_2.length c0_2)] 26 (0, 0))) ∧ Aside0 (wc.heap[gb300]? = some (.cells #[(.slice Ao25 t290.length co25), (.slice Ao28 t293.length co28), (.slice Ao29 t296.length co29)] 31 (0, 0))) ∧ Aside0 (wc.heap[gb310]? = some (.cells #[(.slice Ao33 t301.length co33), (.slice Ao37 t304.length co37), (.slice Ao38 t307.length co38)] 31 (0, 0))) ∧ Aside0 (wc.heap[gb321]? = some (.cells #[(.slice Ao41 t311.length co41), (.slice Ao46 t314.length co46), (.slice Ao47 t317.length co47)] 31 (0, 0))) ∧ Aside0 (Below w.heap.size w wc))
 case first =>
  have H := HC14.out
  clear HC14
  replace H := ob_ H
  obtain ⟨t322, A480, H⟩ := H
  (try dsimp only at H)
  have A48 := ak_ A480
  clear A480
  by_cases c49 : t322 = true
  ·subst c49
   have H1 : (laws_FnExactCastOff.j0 k a1 t299 t320 (t320 != t299) l0_0 l0_1 l0_2 t290 t293 t296 t301 t304 t307 t311 t314 t317) = some r := by rw [if_pos rfl] at H; exact H
   clear H
   have H := H1
   clear H1
   have H' := ak_ H
   clear H
   have hnb50 := NB321_279.out
   have hnc50 := NB279_321.out
   have hnb51 := NB321_300.out
   have hnc51 := NB300_321.out
   have hnb52 := NB321_310.out
   have hnc52 := NB310_321.out
   have hcz53_0 : w40.cell? ⟨gb321, 0, none⟩ = some (.slice none 0 0) := (blk_cell BK321.out 0).trans rfl
   have hcz53_1 : w40.cell? ⟨gb321, 1, none⟩ = some (.slice none 0 0) := (blk_cell BK321.out 1).trans rfl
   have hcz53_2 : w40.cell? ⟨gb321, 2, none⟩ = some (.slice none 0 0) := (blk_cell BK321.out 2).trans rfl
   have hfz53_0 := blk_frozen BK321.out 0
   have hfz53_1 := blk_frozen BK321.out 1
   have hfz53_2 := blk_frozen BK321.out 2
   have hnb54 := NB300_279.out
   have hnc54 := NB279_300.out
   have hnb55 := NB300_310.out
   have hnc55 := NB310_300.out
   have hcz56_0 : w40.cell? ⟨gb300, 0, none⟩ = some (.slice Ao25 t290.length co25) := (blk_cell BK300.out 0).trans rfl
   have hcz56_1 : w40.cell? ⟨gb300, 1, none⟩ = some (.slice Ao28 t293.length co28) := (blk_cell BK300.out 1).trans rfl
   have hcz56_2 : w40.cell? ⟨gb300, 2, none⟩ = some (.slice Ao29 t296.length co29) := (blk_cell BK300.out 2).trans rfl
   have hfz56_0 := blk_frozen BK300.out 0
   have hfz56_1 := blk_frozen BK300.out 1
   have hfz56_2 := blk_frozen BK300.out 2
   go_wp2_with (first | ((with_reducible refine gate_callee (f := 9) rfl ?_); refine goesL_ (some 41) rfl rfl Try.func9 (by kernel_rfl) rfl #[.agg #[.slice Ao41 t311.length co41, .slice Ao46 t314.length co46, .slice Ao47 t317.length co47], .agg #[.slice Ao25 t290.length co25, .slice Ao28 t293.length co28, .slice Ao29 t296.length co29]] rfl ln_ ?_; (with_reducible refine (laws_eqRig.calls k _ _ t311 _ _ t314 _ _ t317 _ _ t290 _ _ t293 _ _ t296 true _ ?side1 ?side2 ?side3 ?side4 ?side5 ?side6 ?side7 ?side8 ?side9 ?side10 ?side11 ?side12 A48.out).mono ?_); (case side1 => refine (Kd.R_reads' (e := 91) (base := w.heap.size) (ok := fun k_ => (((True ∧ some k_ ≠ (.slice Ao20 t281.length co20 : Value).ownBlock) ∧ some k_ ≠ (.slice Ao25 t290.length co25 : Value).ownBlock) ∧ some k_ ≠ (.slice Ao33 t301.length co33 : Value).ownBlock)) (n := t311.length) (c := co41) ?_).2.2; exact (by (with_reducible repeat (first | apply Kd.R_alloc | apply Kd.R_drewN | apply Kd.R_drew)); exact (Kd.R_mono (Kd.R_far (p := ⟨gb321, 2, none⟩) (Kd.R_far (p := ⟨gb321, 1, none⟩) (Kd.R_far (p := ⟨gb321, 0, none⟩) (Kd.R_types HO313.out BK321.out (by decide)) (fun _ hk => hk.2) (.slice Ao41 t311.length co41)) (fun _ hk => hk.2) (.slice Ao46 t314.length co46)) (fun _ hk => hk.2) (.slice Ao47 t317.length co47)) (fun _ h_ => h_.1)))); (case side2 => exact (Kd.R_reads' HO313.out).2.1); (case side3 => refine (Kd.R_reads' (e := 9) (base := w.heap.size) (ok := fun k_ => (((True ∧ some k_ ≠ (.slice Ao21 t284.length co21 : Value).ownBlock) ∧ some k_ ≠ (.slice Ao28 t293.length co28 : Value).ownBlock) ∧ some k_ ≠ (.slice Ao37 t304.length co37 : Value).ownBlock)) (n := t314.length) (c := co46) ?_).2.2; exact (by (with_reducible repeat (first | apply Kd.R_alloc | apply Kd.R_drewN | apply Kd.R_drew)); exact (Kd.R_mono (Kd.R_far (p := ⟨gb321, 2, none⟩) (Kd.R_far (p := ⟨gb321, 1, none⟩) (Kd.R_far (p := ⟨gb321, 0, none⟩) (Kd.R_types HO316.out BK321.out (by decide)) (fun _ hk => hk.2) (.slice Ao41 t311.length co41)) (fun _ hk => hk.2) (.slice Ao46 t314.length co46)) (fun _ hk => hk.2) (.slice Ao47 t317.length co47)) (fun _ h_ => h_.1)))); (case side4 => exact (Kd.R_reads' HO316.out).2.1); (case side5 => refine (Kd.R_reads' (e := 41) (base := w.heap.size) (ok := fun k_ => (((True ∧ some k_ ≠ (.slice Ao22 t287.length co22 : Value).ownBlock) ∧ some k_ ≠ (.slice Ao29 t296.length co29 : Value).ownBlock) ∧ some k_ ≠ (.slice Ao38 t307.length co38 : Value).ownBlock)) (n := t317.length) (c := co47) ?_).2.2; exact (by (with_reducible repeat (first | apply Kd.R_alloc | apply Kd.R_drewN | apply Kd.R_drew)); exact (Kd.R_mono (Kd.R_far (p := ⟨gb321, 2, none⟩) (Kd.R_far (p := ⟨gb321, 1, none⟩) (Kd.R_far (p := ⟨gb321, 0, none⟩) (Kd.R_types HO319.out BK321.out (by decide)) (fun _ hk => hk.2) (.slice Ao41 t311.length co41)) (fun _ hk => hk.2) (.slice Ao46 t314.length co46)) (fun _ hk => hk.2) (.slice Ao47 t317.length co47)) (fun _ h_ => h_.1)))); (case side6 => exact (Kd.R_reads' HO319.out).2.1); (case side7 => refine (Kd.R_reads' (e := 91) (base := w.heap.size) (ok := fun k_ => (((True ∧ some k_ ≠ (.slice Ao20 t281.length co20 : Value).ownBlock) ∧ some k_ ≠ (.slice Ao33 t301.length co33 : Value).ownBlock) ∧ some k_ ≠ (.slice Ao41 t311.length co41 : Value).ownBlock)) (n := t290.length) (c := co25) ?_).2.2; exact (by (with_reducible repeat (first | apply Kd.R_alloc | apply Kd.R_drewN | apply Kd.R_drew)); exact (Kd.R_mono (Kd.R_far (p := ⟨gb321, 2, none⟩) (Kd.R_far (p := ⟨gb321, 1, none⟩) (Kd.R_far (p := ⟨gb321, 0, none⟩) (Kd.R_types HO292.out BK321.out (by decide)) (fun _ hk => hk.2) (.slice Ao41 t311.length co41)) (fun _ hk => hk.2) (.slice Ao46 t314.length co46)) (fun _ hk => hk.2) (.slice Ao47 t317.length co47)) (fun _ h_ => h_.1)))); (case side8 => exact (Kd.R_reads' HO292.out).2.1); (case side9 => refine (Kd.R_reads' (e := 9) (base := w.heap.size) (ok := fun k_ => (((True ∧ some k_ ≠ (.slice Ao21 t284.length co21 : Value).ownBlock) ∧ some k_ ≠ (.slice Ao37 t304.length co37 : Value).ownBlock) ∧ some k_ ≠ (.slice Ao46 t314.length co46 : Value).ownBlock)) (n := t293.length) (c := co28) ?_).2.2; exact (by (with_reducible repeat (first | apply Kd.R_alloc | apply Kd.R_drewN | apply Kd.R_drew)); exact (Kd.R_mono (Kd.R_far (p := ⟨gb321, 2, none⟩) (Kd.R_far (p := ⟨gb321, 1, none⟩) (Kd.R_far (p := ⟨gb321, 0, none⟩) (Kd.R_types HO295.out BK321.out (by decide)) (fun _ hk => hk.2) (.slice Ao41 t311.length co41)) (fun _ hk => hk.2) (.slice Ao46 t314.length co46)) (fun _ hk => hk.2) (.slice Ao47 t317.length co47)) (fun _ h_ => h_.1)))); (case side10 => exact (Kd.R_reads' HO295.out).2.1); (case side11 => refine (Kd.R_reads' (e := 41) (base := w.heap.size) (ok := fun k_ => (((True ∧ some k_ ≠ (.slice Ao22 t287.length co22 : Value).ownBlock) ∧ some k_ ≠ (.slice Ao38 t307.length co38 : Value).ownBlock) ∧ some k_ ≠ (.slice Ao47 t317.length co47 : Value).ownBlock)) (n := t296.length) (c := co29) ?_).2.2; exact (by (with_reducible repeat (first | apply Kd.R_alloc | apply Kd.R_drewN | apply Kd.R_drew)); exact (Kd.R_mono (Kd.R_far (p := ⟨gb321, 2, none⟩) (Kd.R_far (p := ⟨gb321, 1, none⟩) (Kd.R_far (p := ⟨gb321, 0, none⟩) (Kd.R_types HO298.out BK321.out (by decide)) (fun _ hk => hk.2) (.slice Ao41 t311.length co41)) (fun _ hk => hk.2) (.slice Ao46 t314.length co46)) (fun _ hk => hk.2) (.slice Ao47 t317.length co47)) (fun _ h_ => h_.1)))); (case side12 => exact (Kd.R_reads' HO298.out).2.1); rintro e w57 ⟨rfl, hb⟩; refine ⟨_, rfl, ?_⟩; replace HO283 := ak_ (Kd.R_below (by (with_reducible repeat (first | apply Kd.R_alloc | apply Kd.R_drewN | apply Kd.R_drew)); exact (Kd.R_mono (Kd.R_far (p := ⟨gb321, 2, none⟩) (Kd.R_far (p := ⟨gb321, 1, none⟩) (Kd.R_far (p := ⟨gb321, 0, none⟩) (Kd.R_types HO283.out BK321.out (by decide)) (fun _ hk => hk.2) (.slice Ao41 t311.length co41)) (fun _ hk => hk.2) (.slice Ao46 t314.length co46)) (fun _ hk => hk.2) (.slice Ao47 t317.length co47)) (fun _ h_ => h_.1))) hb); replace HO286 := ak_ (Kd.R_below (by (with_reducible repeat (first | apply Kd.R_alloc | apply Kd.R_drewN | apply Kd.R_drew)); exact (Kd.R_mono (Kd.R_far (p := ⟨gb321, 2, none⟩) (Kd.R_far (p := ⟨gb321, 1, none⟩) (Kd.R_far (p := ⟨gb321, 0, none⟩) (Kd.R_types HO286.out BK321.out (by decide)) (fun _ hk => hk.2) (.slice Ao41 t311.length co41)) (fun _ hk => hk.2) (.slice Ao46 t314.length co46)) (fun _ hk => hk.2) (.slice Ao47 t317.length co47)) (fun _ h_ => h_.1))) hb); replace HO289 := ak_ (Kd.R_below (by (with_reducible repeat (first | apply Kd.R_alloc | apply Kd.R_drewN | apply Kd.R_drew)); exact (Kd.R_mono (Kd.R_far (p := ⟨gb321, 2, none⟩) (Kd.R_far (p := ⟨gb321, 1, none⟩) (Kd.R_far (p := ⟨gb321, 0, none⟩) (Kd.R_types HO289.out BK321.out (by decide)) (fun _ hk => hk.2) (.slice Ao41 t311.length co41)) (fun _ hk => hk.2) (.slice Ao46 t314.length co46)) (fun _ hk => hk.2) (.slice Ao47 t317.length co47)) (fun _ h_ => h_.1))) hb); replace HO292 := ak_ (Kd.R_below (by (with_reducible repeat (first | apply Kd.R_alloc | apply Kd.R_drewN | apply Kd.R_drew)); exact (Kd.R_mono (Kd.R_far (p := ⟨gb321, 2, none⟩) (Kd.R_far (p := ⟨gb321, 1, none⟩) (Kd.R_far (p := ⟨gb321, 0, none⟩) (Kd.R_types HO292.out BK321.out (by decide)) (fun _ hk => hk.2) (.slice Ao41 t311.length co41)) (fun _ hk => hk.2) (.slice Ao46 t314.length co46)) (fun _ hk => hk.2) (.slice Ao47 t317.length co47)) (fun _ h_ => h_.1))) hb); replace HO295 := ak_ (Kd.R_below (by (with_reducible repeat (first | apply Kd.R_alloc | apply Kd.R_drewN | apply Kd.R_drew)); exact (Kd.R_mono (Kd.R_far (p := ⟨gb321, 2, none⟩) (Kd.R_far (p := ⟨gb321, 1, none⟩) (Kd.R_far (p := ⟨gb321, 0, none⟩) (Kd.R_types HO295.out BK321.out (by decide)) (fun _ hk => hk.2) (.slice Ao41 t311.length co41)) (fun _ hk => hk.2) (.slice Ao46 t314.length co46)) (fun _ hk => hk.2) (.slice Ao47 t317.length co47)) (fun _ h_ => h_.1))) hb); replace HO298 := ak_ (Kd.R_below (by (with_reducible repeat (first | apply Kd.R_alloc | apply Kd.R_drewN | apply Kd.R_drew)); exact (Kd.R_mono (Kd.R_far (p := ⟨gb321, 2, none⟩) (Kd.R_far (p := ⟨gb321, 1, none⟩) (Kd.R_far (p := ⟨gb321, 0, none⟩) (Kd.R_types HO298.out BK321.out (by decide)) (fun _ hk => hk.2) (.slice Ao41 t311.length co41)) (fun _ hk => hk.2) (.slice Ao46 t314.length co46)) (fun _ hk => hk.2) (.slice Ao47 t317.length co47)) (fun _ h_ => h_.1))) hb); replace HO303 := ak_ (Kd.R_below (by (with_reducible repeat (first | apply Kd.R_alloc | apply Kd.R_drewN | apply Kd.R_drew)); exact (Kd.R_mono (Kd.R_far (p := ⟨gb321, 2, none⟩) (Kd.R_far (p := ⟨gb321, 1, none⟩) (Kd.R_far (p := ⟨gb321, 0, none⟩) (Kd.R_types HO303.out BK321.out (by decide)) (fun _ hk => hk.2) (.slice Ao41 t311.length co41)) (fun _ hk => hk.2) (.slice Ao46 t314.length co46)) (fun _ hk => hk.2) (.slice Ao47 t317.length co47)) (fun _ h_ => h_.1))) hb); replace HO306 := ak_ (Kd.R_below (by (with_reducible repeat (first | apply Kd.R_alloc | apply Kd.R_drewN | apply Kd.R_drew)); exact (Kd.R_mono (Kd.R_far (p := ⟨gb321, 2, none⟩) (Kd.R_far (p := ⟨gb321, 1, none⟩) (Kd.R_far (p := ⟨gb321, 0, none⟩) (Kd.R_types HO306.out BK321.out (by decide)) (fun _ hk => hk.2) (.slice Ao41 t311.length co41)) (fun _ hk => hk.2) (.slice Ao46 t314.length co46)) (fun _ hk => hk.2) (.slice Ao47 t317.length co47)) (fun _ h_ => h_.1))) hb); replace HO309 := ak_ (Kd.R_below (by (with_reducible repeat (first | apply Kd.R_alloc | apply Kd.R_drewN | apply Kd.R_drew)); exact (Kd.R_mono (Kd.R_far (p := ⟨gb321, 2, none⟩) (Kd.R_far (p := ⟨gb321, 1, none⟩) (Kd.R_far (p := ⟨gb321, 0, none⟩) (Kd.R_types HO309.out BK321.out (by decide)) (fun _ hk => hk.2) (.slice Ao41 t311.length co41)) (fun _ hk => hk.2) (.slice Ao46 t314.length co46)) (fun _ hk => hk.2) (.slice Ao47 t317.length co47)) (fun _ h_ => h_.1))) hb); replace HO313 := ak_ (Kd.R_below (by (with_reducible repeat (first | apply Kd.R_alloc | apply Kd.R_drewN | apply Kd.R_drew)); exact (Kd.R_mono (Kd.R_far (p := ⟨gb321, 2, none⟩) (Kd.R_far (p := ⟨gb321, 1, none⟩) (Kd.R_far (p := ⟨gb321, 0, none⟩) (Kd.R_types HO313.out BK321.out (by decide)) (fun _ hk => hk.2) (.slice Ao41 t311.length co41)) (fun _ hk => hk.2) (.slice Ao46 t314.length co46)) (fun _ hk => hk.2) (.slice Ao47 t317.length co47)) (fun _ h_ => h_.1))) hb); replace HO316 := ak_ (Kd.R_below (by (with_reducible repeat (first | apply Kd.R_alloc | apply Kd.R_drewN | apply Kd.R_drew)); exact (Kd.R_mono (Kd.R_far (p := ⟨gb321, 2, none⟩) (Kd.R_far (p := ⟨gb321, 1, none⟩) (Kd.R_far (p := ⟨gb321, 0, none⟩) (Kd.R_types HO316.out BK321.out (by decide)) (fun _ hk => hk.2) (.slice Ao41 t311.length co41)) (fun _ hk => hk.2) (.slice Ao46 t314.length co46)) (fun _ hk => hk.2) (.slice Ao47 t317.length co47)) (fun _ h_ => h_.1))) hb); replace HO319 := ak_ (Kd.R_below (by (with_reducible repeat (first | apply Kd.R_alloc | apply Kd.R_drewN | apply Kd.R_drew)); exact (Kd.R_mono (Kd.R_far (p := ⟨gb321, 2, none⟩) (Kd.R_far (p := ⟨gb321, 1, none⟩) (Kd.R_far (p := ⟨gb321, 0, none⟩) (Kd.R_types HO319.out BK321.out (by decide)) (fun _ hk => hk.2) (.slice Ao41 t311.length co41)) (fun _ hk => hk.2) (.slice Ao46 t314.length co46)) (fun _ hk => hk.2) (.slice Ao47 t317.length co47)) (fun _ h_ => h_.1))) hb); replace BK279 := ak_ (blk_below (g := gb279) (o := .cells #[.slice A0_0 l0_0.length c0_0, .slice A0_1 l0_1.length c0_1, .slice A0_2 l0_2.length c0_2] 26 (0, 0)) (by (with_reducible repeat (first | refine blk_drewN ?_ _ | refine blk_drew ?_ | refine blk_alloc ?_ _)); refine blk_far ?_ NB279_321.out _; (with_reducible repeat (first | refine blk_drewN ?_ _ | refine blk_drew ?_ | refine blk_alloc ?_ _)); refine blk_far ?_ NB279_321.out _; (with_reducible repeat (first | refine blk_drewN ?_ _ | refine blk_drew ?_ | refine blk_alloc ?_ _)); refine blk_far ?_ NB279_321.out _; (with_reducible repeat (first | refine blk_drewN ?_ _ | refine blk_drew ?_ | refine blk_alloc ?_ _)); exact BK279.out) hb); replace BK300 := ak_ (blk_below (g := gb300) (o := .cells #[.slice Ao25 t290.length co25, .slice Ao28 t293.length co28, .slice Ao29 t296.length co29] 31 (0, 0)) (by (with_reducible repeat (first | refine blk_drewN ?_ _ | refine blk_drew ?_ | refine blk_alloc ?_ _)); refine blk_far ?_ NB300_321.out _; (with_reducible repeat (first | refine blk_drewN ?_ _ | refine blk_drew ?_ | refine blk_alloc ?_ _)); refine blk_far ?_ NB300_321.out _; (with_reducible repeat (first | refine blk_drewN ?_ _ | refine blk_drew ?_ | refine blk_alloc ?_ _)); refine blk_far ?_ NB300_321.out _; (with_reducible repeat (first | refine blk_drewN ?_ _ | refine blk_drew ?_ | refine blk_alloc ?_ _)); exact BK300.out) hb); replace BK310 := ak_ (blk_below (g := gb310) (o := .cells #[.slice Ao33 t301.length co33, .slice Ao37 t304.length co37, .slice Ao38 t307.length co38] 31 (0, 0)) (by (with_reducible repeat (first | refine blk_drewN ?_ _ | refine blk_drew ?_ | refine blk_alloc ?_ _)); refine blk_far ?_ NB310_321.out _; (with_reducible repeat (first | refine blk_drewN ?_ _ | refine blk_drew ?_ | refine blk_alloc ?_ _)); refine blk_far ?_ NB310_321.out _; (with_reducible repeat (first | refine blk_drewN ?_ _ | refine blk_drew ?_ | refine blk_alloc ?_ _)); refine blk_far ?_ NB310_321.out _; (with_reducible repeat (first | refine blk_drewN ?_ _ | refine blk_drew ?_ | refine blk_alloc ?_ _)); exact BK310.out) hb); replace BK321 := ak_ (blk_below (g := gb321) (o := .cells #[.slice Ao41 t311.length co41, .slice Ao46 t314.length co46, .slice Ao47 t317.length co47] 31 (0, 0)) (by (with_reducible repeat (first | refine blk_drewN ?_ _ | refine blk_drew ?_ | refine blk_alloc ?_ _)); refine blk_put (cs := #[.slice Ao41 t311.length co41, .slice Ao46 t314.length co46, .slice none 0 0]) ?_ 2 _ rfl; (with_reducible repeat (first | refine blk_drewN ?_ _ | refine blk_drew ?_ | refine blk_alloc ?_ _)); refine blk_put (cs := #[.slice Ao41 t311.length co41, .slice none 0 0, .slice none 0 0]) ?_ 1 _ rfl; (with_reducible repeat (first | refine blk_drewN ?_ _ | refine blk_drew ?_ | refine blk_alloc ?_ _)); refine blk_put (cs := #[.slice none 0 0, .slice none 0 0, .slice none 0 0]) ?_ 0 _ rfl; (with_reducible repeat (first | refine blk_drewN ?_ _ | refine blk_drew ?_ | refine blk_alloc ?_ _)); exact BK321.out) hb); replace HB := ak_ (below_step (by repeat (first | (with_reducible first | exact HB.out | apply below_alloc | apply pw_below_drewN | apply below_drew1 | refine below_set ?_ GE279.out | refine below_set ?_ GE300.out | refine below_set ?_ GE310.out | refine below_set ?_ GE321.out) | exact HB.out)) hb); skip; clear hb))
   go_meet
   case rel => exact ⟨_, ((t320 != t299)), fr_, H', ⟨by first | omega | exact Nat.le_refl _⟩, ⟨by (with_reducible repeat (first | apply Kd.R_alloc | apply Kd.R_drewN | apply Kd.R_drew)); exact Kd.R_mono HO292.out (fun _ hk => ⟨hk.1.2, hk.2⟩)⟩, ⟨by (with_reducible repeat (first | apply Kd.R_alloc | apply Kd.R_drewN | apply Kd.R_drew)); exact Kd.R_mono HO295.out (fun _ hk => ⟨hk.1.2, hk.2⟩)⟩, ⟨by (with_reducible repeat (first | apply Kd.R_alloc | apply Kd.R_drewN | apply Kd.R_drew)); exact Kd.R_mono HO298.out (fun _ hk => ⟨hk.1.2, hk.2⟩)⟩, ⟨by (with_reducible repeat (first | apply Kd.R_alloc | apply Kd.R_drewN | apply Kd.R_drew)); exact Kd.R_mono HO303.out (fun _ hk => ⟨hk.1.2, hk.2⟩)⟩, ⟨by (with_reducible repeat (first | apply Kd.R_alloc | apply Kd.R_drewN | apply Kd.R_drew)); exact Kd.R_mono HO306.out (fun _ hk => ⟨hk.1.2, hk.2⟩)⟩, ⟨by (with_reducible repeat (first | apply Kd.R_alloc | apply Kd.R_drewN | apply Kd.R_drew)); exact Kd.R_mono HO309.out (fun _ hk => ⟨hk.1.2, hk.2⟩)⟩, ⟨by (with_reducible repeat (first | apply Kd.R_alloc | apply Kd.R_drewN | apply Kd.R_drew)); exact Kd.R_mono HO313.out (fun _ hk => ⟨hk.1.2, hk.2⟩)⟩, ⟨by (with_reducible repeat (first | apply Kd.R_alloc | apply Kd.R_drewN | apply Kd.R_drew)); exact Kd.R_mono HO316.out (fun _ hk => ⟨hk.1.2, hk.2⟩)⟩, ⟨by (with_reducible repeat (first | apply Kd.R_alloc | apply Kd.R_drewN | apply Kd.R_drew)); exact Kd.R_mono HO319.out (fun _ hk => ⟨hk.1.2, hk.2⟩)⟩, ⟨by (with_reducible repeat (first | refine blk_drewN ?_ _ | refine blk_drew ?_ | refine blk_alloc ?_ _)); exact BK279.out⟩, ⟨by (with_reducible repeat (first | refine blk_drewN ?_ _ | refine blk_drew ?_ | refine blk_alloc ?_ _)); exact BK300.out⟩, ⟨by (with_reducible repeat (first | refine blk_drewN ?_ _ | refine blk_drew ?_ | refine blk_alloc ?_ _)); exact BK310.out⟩, ⟨by (with_reducible repeat (first | refine blk_drewN ?_ _ | refine blk_drew ?_ | refine blk_alloc ?_ _)); exact BK321.out⟩, ⟨by repeat (first | (with_reducible first | exact HB.out | apply below_alloc | apply pw_below_drewN | apply below_drew1 | refine below_set ?_ GE279.out | refine below_set ?_ GE300.out | refine below_set ?_ GE310.out | refine below_set ?_ GE321.out) | exact HB.out)⟩⟩
  replace c49 := Bool.eq_false_iff.mpr c49
  subst c49
  have H1 : (laws_FnExactCastOff.j0 k a1 t299 t320 true l0_0 l0_1 l0_2 t290 t293 t296 t301 t304 t307 t311 t314 t317) = some r := by rw [if_neg (show ¬ (false = true) by decide)] at H; exact H
  clear H
  have H := H1
  clear H1
  have H' := ak_ H
  clear H
  have hnb58 := NB321_279.out
  have hnc58 := NB279_321.out
  have hnb59 := NB321_300.out
  have hnc59 := NB300_321.out
  have hnb60 := NB321_310.out
  have hnc60 := NB310_321.out
  have hcz61_0 : w40.cell? ⟨gb321, 0, none⟩ = some (.slice none 0 0) := (blk_cell BK321.out 0).trans rfl
  have hcz61_1 : w40.cell? ⟨gb321, 1, none⟩ = some (.slice none 0 0) := (blk_cell BK321.out 1).trans rfl
  have hcz61_2 : w40.cell? ⟨gb321, 2, none⟩ = some (.slice none 0 0) := (blk_cell BK321.out 2).trans rfl
  have hfz61_0 := blk_frozen BK321.out 0
  have hfz61_1 := blk_frozen BK321.out 1
  have hfz61_2 := blk_frozen BK321.out 2
  have hnb62 := NB300_279.out
  have hnc62 := NB279_300.out
  have hnb63 := NB300_310.out
  have hnc63 := NB310_300.out
  have hcz64_0 : w40.cell? ⟨gb300, 0, none⟩ = some (.slice Ao25 t290.length co25) := (blk_cell BK300.out 0).trans rfl
  have hcz64_1 : w40.cell? ⟨gb300, 1, none⟩ = some (.slice Ao28 t293.length co28) := (blk_cell BK300.out 1).trans rfl
  have hcz64_2 : w40.cell? ⟨gb300, 2, none⟩ = some (.slice Ao29 t296.length co29) := (blk_cell BK300.out 2).trans rfl
  have hfz64_0 := blk_frozen BK300.out 0
  have hfz64_1 := blk_frozen BK300.out 1
  have hfz64_2 := blk_frozen BK300.out 2
  go_wp2_with (first | ((with_reducible refine gate_callee (f := 9) rfl ?_); refine goesL_ (some 41) rfl rfl Try.func9 (by kernel_rfl) rfl #[.agg #[.slice Ao41 t311.length co41, .slice Ao46 t314.length co46, .slice Ao47 t317.length co47], .agg #[.slice Ao25 t290.length co25, .slice Ao28 t293.length co28, .slice Ao29 t296.length co29]] rfl ln_ ?_; (with_reducible refine (laws_eqRig.calls k _ _ t311 _ _ t314 _ _ t317 _ _ t290 _ _ t293 _ _ t296 false _ ?side1 ?side2 ?side3 ?side4 ?side5 ?side6 ?side7 ?side8 ?side9 ?side10 ?side11 ?side12 A48.out).mono ?_); (case side1 => refine (Kd.R_reads' (e := 91) (base := w.heap.size) (ok := fun k_ => (((True ∧ some k_ ≠ (.slice Ao20 t281.length co20 : Value).ownBlock) ∧ some k_ ≠ (.slice Ao25 t290.length co25 : Value).ownBlock) ∧ some k_ ≠ (.slice Ao33 t301.length co33 : Value).ownBlock)) (n := t311.length) (c := co41) ?_).2.2; exact (by (with_reducible repeat (first | apply Kd.R_alloc | apply Kd.R_drewN | apply Kd.R_drew)); exact (Kd.R_mono (Kd.R_far (p := ⟨gb321, 2, none⟩) (Kd.R_far (p := ⟨gb321, 1, none⟩) (Kd.R_far (p := ⟨gb321, 0, none⟩) (Kd.R_types HO313.out BK321.out (by decide)) (fun _ hk => hk.2) (.slice Ao41 t311.length co41)) (fun _ hk => hk.2) (.slice Ao46 t314.length co46)) (fun _ hk => hk.2) (.slice Ao47 t317.length co47)) (fun _ h_ => h_.1)))); (case side2 => exact (Kd.R_reads' HO313.out).2.1); (case side3 => refine (Kd.R_reads' (e := 9) (base := w.heap.size) (ok := fun k_ => (((True ∧ some k_ ≠ (.slice Ao21 t284.length co21 : Value).ownBlock) ∧ some k_ ≠ (.slice Ao28 t293.length co28 : Value).ownBlock) ∧ some k_ ≠ (.slice Ao37 t304.length co37 : Value).ownBlock)) (n := t314.length) (c := co46) ?_).2.2; exact (by (with_reducible repeat (first | apply Kd.R_alloc | apply Kd.R_drewN | apply Kd.R_drew)); exact (Kd.R_mono (Kd.R_far (p := ⟨gb321, 2, none⟩) (Kd.R_far (p := ⟨gb321, 1, none⟩) (Kd.R_far (p := ⟨gb321, 0, none⟩) (Kd.R_types HO316.out BK321.out (by decide)) (fun _ hk => hk.2) (.slice Ao41 t311.length co41)) (fun _ hk => hk.2) (.slice Ao46 t314.length co46)) (fun _ hk => hk.2) (.slice Ao47 t317.length co47)) (fun _ h_ => h_.1)))); (case side4 => exact (Kd.R_reads' HO316.out).2.1); (case side5 => refine (Kd.R_reads' (e := 41) (base := w.heap.size) (ok := fun k_ => (((True ∧ some k_ ≠ (.slice Ao22 t287.length co22 : Value).ownBlock) ∧ some k_ ≠ (.slice Ao29 t296.length co29 : Value).ownBlock) ∧ some k_ ≠ (.slice Ao38 t307.length co38 : Value).ownBlock)) (n := t317.length) (c := co47) ?_).2.2; exact (by (with_reducible repeat (first | apply Kd.R_alloc | apply Kd.R_drewN | apply Kd.R_drew)); exact (Kd.R_mono (Kd.R_far (p := ⟨gb321, 2, none⟩) (Kd.R_far (p := ⟨gb321, 1, none⟩) (Kd.R_far (p := ⟨gb321, 0, none⟩) (Kd.R_types HO319.out BK321.out (by decide)) (fun _ hk => hk.2) (.slice Ao41 t311.length co41)) (fun _ hk => hk.2) (.slice Ao46 t314.length co46)) (fun _ hk => hk.2) (.slice Ao47 t317.length co47)) (fun _ h_ => h_.1)))); (case side6 => exact (Kd.R_reads' HO319.out).2.1); (case side7 => refine (Kd.R_reads' (e := 91) (base := w.heap.size) (ok := fun k_ => (((True ∧ some k_ ≠ (.slice Ao20 t281.length co20 : Value).ownBlock) ∧ some k_ ≠ (.slice Ao33 t301.length co33 : Value).ownBlock) ∧ some k_ ≠ (.slice Ao41 t311.length co41 : Value).ownBlock)) (n := t290.length) (c := co25) ?_).2.2; exact (by (with_reducible repeat (first | apply Kd.R_alloc | apply Kd.R_drewN | apply Kd.R_drew)); exact (Kd.R_mono (Kd.R_far (p := ⟨gb321, 2, none⟩) (Kd.R_far (p := ⟨gb321, 1, none⟩) (Kd.R_far (p := ⟨gb321, 0, none⟩) (Kd.R_types HO292.out BK321.out (by decide)) (fun _ hk => hk.2) (.slice Ao41 t311.length co41)) (fun _ hk => hk.2) (.slice Ao46 t314.length co46)) (fun _ hk => hk.2) (.slice Ao47 t317.length co47)) (fun _ h_ => h_.1)))); (case side8 => exact (Kd.R_reads' HO292.out).2.1); (case side9 => refine (Kd.R_reads' (e := 9) (base := w.heap.size) (ok := fun k_ => (((True ∧ some k_ ≠ (.slice Ao21 t284.length co21 : Value).ownBlock) ∧ some k_ ≠ (.slice Ao37 t304.length co37 : Value).ownBlock) ∧ some k_ ≠ (.slice Ao46 t314.length co46 : Value).ownBlock)) (n := t293.length) (c := co28) ?_).2.2; exact (by (with_reducible repeat (first | apply Kd.R_alloc | apply Kd.R_drewN | apply Kd.R_drew)); exact (Kd.R_mono (Kd.R_far (p := ⟨gb321, 2, none⟩) (Kd.R_far (p := ⟨gb321, 1, none⟩) (Kd.R_far (p := ⟨gb321, 0, none⟩) (Kd.R_types HO295.out BK321.out (by decide)) (fun _ hk => hk.2) (.slice Ao41 t311.length co41)) (fun _ hk => hk.2) (.slice Ao46 t314.length co46)) (fun _ hk => hk.2) (.slice Ao47 t317.length co47)) (fun _ h_ => h_.1)))); (case side10 => exact (Kd.R_reads' HO295.out).2.1); (case side11 => refine (Kd.R_reads' (e := 41) (base := w.heap.size) (ok := fun k_ => (((True ∧ some k_ ≠ (.slice Ao22 t287.length co22 : Value).ownBlock) ∧ some k_ ≠ (.slice Ao38 t307.length co38 : Value).ownBlock) ∧ some k_ ≠ (.slice Ao47 t317.length co47 : Value).ownBlock)) (n := t296.length) (c := co29) ?_).2.2; exact (by (with_reducible repeat (first | apply Kd.R_alloc | apply Kd.R_drewN | apply Kd.R_drew)); exact (Kd.R_mono (Kd.R_far (p := ⟨gb321, 2, none⟩) (Kd.R_far (p := ⟨gb321, 1, none⟩) (Kd.R_far (p := ⟨gb321, 0, none⟩) (Kd.R_types HO298.out BK321.out (by decide)) (fun _ hk => hk.2) (.slice Ao41 t311.length co41)) (fun _ hk => hk.2) (.slice Ao46 t314.length co46)) (fun _ hk => hk.2) (.slice Ao47 t317.length co47)) (fun _ h_ => h_.1)))); (case side12 => exact (Kd.R_reads' HO298.out).2.1); rintro e w65 ⟨rfl, hb⟩; refine ⟨_, rfl, ?_⟩; replace HO283 := ak_ (Kd.R_below (by (with_reducible repeat (first | apply Kd.R_alloc | apply Kd.R_drewN | apply Kd.R_drew)); exact (Kd.R_mono (Kd.R_far (p := ⟨gb321, 2, none⟩) (Kd.R_far (p := ⟨gb321, 1, none⟩) (Kd.R_far (p := ⟨gb321, 0, none⟩) (Kd.R_types HO283.out BK321.out (by decide)) (fun _ hk => hk.2) (.slice Ao41 t311.length co41)) (fun _ hk => hk.2) (.slice Ao46 t314.length co46)) (fun _ hk => hk.2) (.slice Ao47 t317.length co47)) (fun _ h_ => h_.1))) hb); replace HO286 := ak_ (Kd.R_below (by (with_reducible repeat (first | apply Kd.R_alloc | apply Kd.R_drewN | apply Kd.R_drew)); exact (Kd.R_mono (Kd.R_far (p := ⟨gb321, 2, none⟩) (Kd.R_far (p := ⟨gb321, 1, none⟩) (Kd.R_far (p := ⟨gb321, 0, none⟩) (Kd.R_types HO286.out BK321.out (by decide)) (fun _ hk => hk.2) (.slice Ao41 t311.length co41)) (fun _ hk => hk.2) (.slice Ao46 t314.length co46)) (fun _ hk => hk.2) (.slice Ao47 t317.length co47)) (fun _ h_ => h_.1))) hb); replace HO289 := ak_ (Kd.R_below (by (with_reducible repeat (first | apply Kd.R_alloc | apply Kd.R_drewN | apply Kd.R_drew)); exact (Kd.R_mono (Kd.R_far (p := ⟨gb321, 2, none⟩) (Kd.R_far (p := ⟨gb321, 1, none⟩) (Kd.R_far (p := ⟨gb321, 0, none⟩) (Kd.R_types HO289.out BK321.out (by decide)) (fun _ hk => hk.2) (.slice Ao41 t311.length co41)) (fun _ hk => hk.2) (.slice Ao46 t314.length co46)) (fun _ hk => hk.2) (.slice Ao47 t317.length co47)) (fun _ h_ => h_.1))) hb); replace HO292 := ak_ (Kd.R_below (by (with_reducible repeat (first | apply Kd.R_alloc | apply Kd.R_drewN | apply Kd.R_drew)); exact (Kd.R_mono (Kd.R_far (p := ⟨gb321, 2, none⟩) (Kd.R_far (p := ⟨gb321, 1, none⟩) (Kd.R_far (p := ⟨gb321, 0, none⟩) (Kd.R_types HO292.out BK321.out (by decide)) (fun _ hk => hk.2) (.slice Ao41 t311.length co41)) (fun _ hk => hk.2) (.slice Ao46 t314.length co46)) (fun _ hk => hk.2) (.slice Ao47 t317.length co47)) (fun _ h_ => h_.1))) hb); replace HO295 := ak_ (Kd.R_below (by (with_reducible repeat (first | apply Kd.R_alloc | apply Kd.R_drewN | apply Kd.R_drew)); exact (Kd.R_mono (Kd.R_far (p := ⟨gb321, 2, none⟩) (Kd.R_far (p := ⟨gb321, 1, none⟩) (Kd.R_far (p := ⟨gb321, 0, none⟩) (Kd.R_types HO295.out BK321.out (by decide)) (fun _ hk => hk.2) (.slice Ao41 t311.length co41)) (fun _ hk => hk.2) (.slice Ao46 t314.length co46)) (fun _ hk => hk.2) (.slice Ao47 t317.length co47)) (fun _ h_ => h_.1))) hb); replace HO298 := ak_ (Kd.R_below (by (with_reducible repeat (first | apply Kd.R_alloc | apply Kd.R_drewN | apply Kd.R_drew)); exact (Kd.R_mono (Kd.R_far (p := ⟨gb321, 2, none⟩) (Kd.R_far (p := ⟨gb321, 1, none⟩) (Kd.R_far (p := ⟨gb321, 0, none⟩) (Kd.R_types HO298.out BK321.out (by decide)) (fun _ hk => hk.2) (.slice Ao41 t311.length co41)) (fun _ hk => hk.2) (.slice Ao46 t314.length co46)) (fun _ hk => hk.2) (.slice Ao47 t317.length co47)) (fun _ h_ => h_.1))) hb); replace HO303 := ak_ (Kd.R_below (by (with_reducible repeat (first | apply Kd.R_alloc | apply Kd.R_drewN | apply Kd.R_drew)); exact (Kd.R_mono (Kd.R_far (p := ⟨gb321, 2, none⟩) (Kd.R_far (p := ⟨gb321, 1, none⟩) (Kd.R_far (p := ⟨gb321, 0, none⟩) (Kd.R_types HO303.out BK321.out (by decide)) (fun _ hk => hk.2) (.slice Ao41 t311.length co41)) (fun _ hk => hk.2) (.slice Ao46 t314.length co46)) (fun _ hk => hk.2) (.slice Ao47 t317.length co47)) (fun _ h_ => h_.1))) hb); replace HO306 := ak_ (Kd.R_below (by (with_reducible repeat (first | apply Kd.R_alloc | apply Kd.R_drewN | apply Kd.R_drew)); exact (Kd.R_mono (Kd.R_far (p := ⟨gb321, 2, none⟩) (Kd.R_far (p := ⟨gb321, 1, none⟩) (Kd.R_far (p := ⟨gb321, 0, none⟩) (Kd.R_types HO306.out BK321.out (by decide)) (fun _ hk => hk.2) (.slice Ao41 t311.length co41)) (fun _ hk => hk.2) (.slice Ao46 t314.length co46)) (fun _ hk => hk.2) (.slice Ao47 t317.length co47)) (fun _ h_ => h_.1))) hb); replace HO309 := ak_ (Kd.R_below (by (with_reducible repeat (first | apply Kd.R_alloc | apply Kd.R_drewN | apply Kd.R_drew)); exact (Kd.R_mono (Kd.R_far (p := ⟨gb321, 2, none⟩) (Kd.R_far (p := ⟨gb321, 1, none⟩) (Kd.R_far (p := ⟨gb321, 0, none⟩) (Kd.R_types HO309.out BK321.out (by decide)) (fun _ hk => hk.2) (.slice Ao41 t311.length co41)) (fun _ hk => hk.2) (.slice Ao46 t314.length co46)) (fun _ hk => hk.2) (.slice Ao47 t317.length co47)) (fun _ h_ => h_.1))) hb); replace HO313 := ak_ (Kd.R_below (by (with_reducible repeat (first | apply Kd.R_alloc | apply Kd.R_drewN | apply Kd.R_drew)); exact (Kd.R_mono (Kd.R_far (p := ⟨gb321, 2, none⟩) (Kd.R_far (p := ⟨gb321, 1, none⟩) (Kd.R_far (p := ⟨gb321, 0, none⟩) (Kd.R_types HO313.out BK321.out (by decide)) (fun _ hk => hk.2) (.slice Ao41 t311.length co41)) (fun _ hk => hk.2) (.slice Ao46 t314.length co46)) (fun _ hk => hk.2) (.slice Ao47 t317.length co47)) (fun _ h_ => h_.1))) hb); replace HO316 := ak_ (Kd.R_below (by (with_reducible repeat (first | apply Kd.R_alloc | apply Kd.R_drewN | apply Kd.R_drew)); exact (Kd.R_mono (Kd.R_far (p := ⟨gb321, 2, none⟩) (Kd.R_far (p := ⟨gb321, 1, none⟩) (Kd.R_far (p := ⟨gb321, 0, none⟩) (Kd.R_types HO316.out BK321.out (by decide)) (fun _ hk => hk.2) (.slice Ao41 t311.length co41)) (fun _ hk => hk.2) (.slice Ao46 t314.length co46)) (fun _ hk => hk.2) (.slice Ao47 t317.length co47)) (fun _ h_ => h_.1))) hb); replace HO319 := ak_ (Kd.R_below (by (with_reducible repeat (first | apply Kd.R_alloc | apply Kd.R_drewN | apply Kd.R_drew)); exact (Kd.R_mono (Kd.R_far (p := ⟨gb321, 2, none⟩) (Kd.R_far (p := ⟨gb321, 1, none⟩) (Kd.R_far (p := ⟨gb321, 0, none⟩) (Kd.R_types HO319.out BK321.out (by decide)) (fun _ hk => hk.2) (.slice Ao41 t311.length co41)) (fun _ hk => hk.2) (.slice Ao46 t314.length co46)) (fun _ hk => hk.2) (.slice Ao47 t317.length co47)) (fun _ h_ => h_.1))) hb); replace BK279 := ak_ (blk_below (g := gb279) (o := .cells #[.slice A0_0 l0_0.length c0_0, .slice A0_1 l0_1.length c0_1, .slice A0_2 l0_2.length c0_2] 26 (0, 0)) (by (with_reducible repeat (first | refine blk_drewN ?_ _ | refine blk_drew ?_ | refine blk_alloc ?_ _)); refine blk_far ?_ NB279_321.out _; (with_reducible repeat (first | refine blk_drewN ?_ _ | refine blk_drew ?_ | refine blk_alloc ?_ _)); refine blk_far ?_ NB279_321.out _; (with_reducible repeat (first | refine blk_drewN ?_ _ | refine blk_drew ?_ | refine blk_alloc ?_ _)); refine blk_far ?_ NB279_321.out _; (with_reducible repeat (first | refine blk_drewN ?_ _ | refine blk_drew ?_ | refine blk_alloc ?_ _)); exact BK279.out) hb); replace BK300 := ak_ (blk_below (g := gb300) (o := .cells #[.slice Ao25 t290.length co25, .slice Ao28 t293.length co28, .slice Ao29 t296.length co29] 31 (0, 0)) (by (with_reducible repeat (first | refine blk_drewN ?_ _ | refine blk_drew ?_ | refine blk_alloc ?_ _)); refine blk_far ?_ NB300_321.out _; (with_reducible repeat (first | refine blk_drewN ?_ _ | refine blk_drew ?_ | refine blk_alloc ?_ _)); refine blk_far ?_ NB300_321.out _; (with_reducible repeat (first | refine blk_drewN ?_ _ | refine blk_drew ?_ | refine blk_alloc ?_ _)); refine blk_far ?_ NB300_321.out _; (with_reducible repeat (first | refine blk_drewN ?_ _ | refine blk_drew ?_ | refine blk_alloc ?_ _)); exact BK300.out) hb); replace BK310 := ak_ (blk_below (g := gb310) (o := .cells #[.slice Ao33 t301.length co33, .slice Ao37 t304.length co37, .slice Ao38 t307.length co38] 31 (0, 0)) (by (with_reducible repeat (first | refine blk_drewN ?_ _ | refine blk_drew ?_ | refine blk_alloc ?_ _)); refine blk_far ?_ NB310_321.out _; (with_reducible repeat (first | refine blk_drewN ?_ _ | refine blk_drew ?_ | refine blk_alloc ?_ _)); refine blk_far ?_ NB310_321.out _; (with_reducible repeat (first | refine blk_drewN ?_ _ | refine blk_drew ?_ | refine blk_alloc ?_ _)); refine blk_far ?_ NB310_321.out _; (with_reducible repeat (first | refine blk_drewN ?_ _ | refine blk_drew ?_ | refine blk_alloc ?_ _)); exact BK310.out) hb); replace BK321 := ak_ (blk_below (g := gb321) (o := .cells #[.slice Ao41 t311.length co41, .slice Ao46 t314.length co46, .slice Ao47 t317.length co47] 31 (0, 0)) (by (with_reducible repeat (first | refine blk_drewN ?_ _ | refine blk_drew ?_ | refine blk_alloc ?_ _)); refine blk_put (cs := #[.slice Ao41 t311.length co41, .slice Ao46 t314.length co46, .slice none 0 0]) ?_ 2 _ rfl; (with_reducible repeat (first | refine blk_drewN ?_ _ | refine blk_drew ?_ | refine blk_alloc ?_ _)); refine blk_put (cs := #[.slice Ao41 t311.length co41, .slice none 0 0, .slice none 0 0]) ?_ 1 _ rfl; (with_reducible repeat (first | refine blk_drewN ?_ _ | refine blk_drew ?_ | refine blk_alloc ?_ _)); refine blk_put (cs := #[.slice none 0 0, .slice none 0 0, .slice none 0 0]) ?_ 0 _ rfl; (with_reducible repeat (first | refine blk_drewN ?_ _ | refine blk_drew ?_ | refine blk_alloc ?_ _)); exact BK321.out) hb); replace HB := ak_ (below_step (by repeat (first | (with_reducible first | exact HB.out | apply below_alloc | apply pw_below_drewN | apply below_drew1 | refine below_set ?_ GE279.out | refine below_set ?_ GE300.out | refine below_set ?_ GE310.out | refine below_set ?_ GE321.out) | exact HB.out)) hb); skip; clear hb))
  go_meet
  case rel => exact ⟨_, (true), fr_, H', ⟨by first | omega | exact Nat.le_refl _⟩, ⟨by (with_reducible repeat (first | apply Kd.R_alloc | apply Kd.R_drewN | apply Kd.R_drew)); exact Kd.R_mono HO292.out (fun _ hk => ⟨hk.1.2, hk.2⟩)⟩, ⟨by (with_reducible repeat (first | apply Kd.R_alloc | apply Kd.R_drewN | apply Kd.R_drew)); exact Kd.R_mono HO295.out (fun _ hk => ⟨hk.1.2, hk.2⟩)⟩, ⟨by (with_reducible repeat (first | apply Kd.R_alloc | apply Kd.R_drewN | apply Kd.R_drew)); exact Kd.R_mono HO298.out (fun _ hk => ⟨hk.1.2, hk.2⟩)⟩, ⟨by (with_reducible repeat (first | apply Kd.R_alloc | apply Kd.R_drewN | apply Kd.R_drew)); exact Kd.R_mono HO303.out (fun _ hk => ⟨hk.1.2, hk.2⟩)⟩, ⟨by (with_reducible repeat (first | apply Kd.R_alloc | apply Kd.R_drewN | apply Kd.R_drew)); exact Kd.R_mono HO306.out (fun _ hk => ⟨hk.1.2, hk.2⟩)⟩, ⟨by (with_reducible repeat (first | apply Kd.R_alloc | apply Kd.R_drewN | apply Kd.R_drew)); exact Kd.R_mono HO309.out (fun _ hk => ⟨hk.1.2, hk.2⟩)⟩, ⟨by (with_reducible repeat (first | apply Kd.R_alloc | apply Kd.R_drewN | apply Kd.R_drew)); exact Kd.R_mono HO313.out (fun _ hk => ⟨hk.1.2, hk.2⟩)⟩, ⟨by (with_reducible repeat (first | apply Kd.R_alloc | apply Kd.R_drewN | apply Kd.R_drew)); exact Kd.R_mono HO316.out (fun _ hk => ⟨hk.1.2, hk.2⟩)⟩, ⟨by (with_reducible repeat (first | apply Kd.R_alloc | apply Kd.R_drewN | apply Kd.R_drew)); exact Kd.R_mono HO319.out (fun _ hk => ⟨hk.1.2, hk.2⟩)⟩, ⟨by (with_reducible repeat (first | refine blk_drewN ?_ _ | refine blk_drew ?_ | refine blk_alloc ?_ _)); exact BK279.out⟩, ⟨by (with_reducible repeat (first | refine blk_drewN ?_ _ | refine blk_drew ?_ | refine blk_alloc ?_ _)); exact BK300.out⟩, ⟨by (with_reducible repeat (first | refine blk_drewN ?_ _ | refine blk_drew ?_ | refine blk_alloc ?_ _)); exact BK310.out⟩, ⟨by (with_reducible repeat (first | refine blk_drewN ?_ _ | refine blk_drew ?_ | refine blk_alloc ?_ _)); exact BK321.out⟩, ⟨by repeat (first | (with_reducible first | exact HB.out | apply below_alloc | apply pw_below_drewN | apply below_drew1 | refine below_set ?_ GE279.out | refine below_set ?_ GE300.out | refine below_set ?_ GE310.out | refine below_set ?_ GE321.out) | exact HB.out)⟩⟩
 case rest =>
  clear HC14
  try clear c2
  try clear p2
  try clear c3
  try clear c3b0
  try clear c3b1
  try clear c4
  try clear c5
  try clear c6
  try clear c6b0
  try clear c7
  try clear c8
  try clear c9
  try clear c26
  try clear c34
  try clear c35
  try clear c42
  try clear c43
  try clear c44
  try clear c49
  try clear c50
  try clear c51
  try clear c52
  try clear c54
  try clear c55
  try clear c58
  try clear c59
  try clear c60
  try clear c62
  try clear c63
  try clear hcz16_0
  try clear hcz16_1
  try clear hcz16_2
  try clear hcz18_0
  try clear hcz18_1
  try clear hcz18_2
  try clear hcz27_0
  try clear hcz27_1
  try clear hcz27_2
  try clear hcz30_0
  try clear hcz30_1
  try clear hcz30_2
  try clear hcz36_0
  try clear hcz36_1
  try clear hcz36_2
  try clear hcz45_0
  try clear hcz45_1
  try clear hcz45_2
  try clear hcz53_0
  try clear hcz53_1
  try clear hcz53_2
  try clear hcz56_0
  try clear hcz56_1
  try clear hcz56_2
  try clear hcz61_0
  try clear hcz61_1
  try clear hcz61_2
  try clear hcz64_0
  try clear hcz64_1
  try clear hcz64_2
  try clear hcz8_0
  try clear hcz8_1
  try clear hcz8_2
  try clear hfz16_0
  try clear hfz16_1
  try clear hfz16_2
  try clear hfz18_0
  try clear hfz18_1
  try clear hfz18_2
  try clear hfz27_0
  try clear hfz27_1
  try clear hfz27_2
  try clear hfz30_0
  try clear hfz30_1
  try clear hfz30_2
  try clear hfz36_0
  try clear hfz36_1
  try clear hfz36_2
  try clear hfz45_0
  try clear hfz45_1
  try clear hfz45_2
  try clear hfz53_0
  try clear hfz53_1
  try clear hfz53_2
  try clear hfz56_0
  try clear hfz56_1
  try clear hfz56_2
  try clear hfz61_0
  try clear hfz61_1
  try clear hfz61_2
  try clear hfz64_0
  try clear hfz64_1
  try clear hfz64_2
  try clear hfz8_0
  try clear hfz8_1
  try clear hfz8_2
  obtain ⟨kq, x47_13, rfl, HA, HJ13, HO_301000, HO_301001, HO_301002, HO_311000, HO_311001, HO_311002, HO_322000, HO_322001, HO_322002, BK279, BK300, BK310, BK321, HB⟩ := hcut
  cases kq with
  | zero => exact absurd HA.out (by simp [laws_FnExactCastOff.j0])
  | succ kj13 =>
   have H := HA.out
   clear HA
   simp only [laws_FnExactCastOff.j0] at H
   by_cases c66 : x47_13 = true
   ·subst c66
    have H1 : (some false) = some r := by rw [if_pos rfl] at H; exact H
    clear H
    have H := H1
    clear H1
    obtain rfl := Option.some.inj H
    go_wp2
    go_ret
    exact ⟨ew_, by repeat (first | (with_reducible first | exact HB.out | apply below_alloc | apply pw_below_drewN | apply below_drew1 | refine below_set ?_ GE279.out | refine below_set ?_ GE300.out | refine below_set ?_ GE310.out | refine below_set ?_ GE321.out) | exact HB.out)⟩
   ·replace c66 := Bool.eq_false_iff.mpr c66
    subst c66
    have H1 : ((laws_toRig.f kj13 l0_0 l0_1 l0_2).bind fun bt323 => ((laws_eqRig.f kj13 t301 t304 t307 bt323.1 bt323.2.1 bt323.2.2).bind fun t332 => (if t332 = true then ((laws_markRig.f kj13 t301 t304 t307 1).bind fun bt333 => (if bt333.1 < 0 then (laws_FnExactCastOff.j1 kj13 a1 t299 true l0_0 l0_1 l0_2 t290 t293 t296 t311 t314 t317) else ((laws_eqRig.f kj13 t311 t314 t317 t290 t293 t296).bind fun t337 => (if t337 = true then (laws_FnExactCastOff.j1 kj13 a1 t299 (t320 != t299) l0_0 l0_1 l0_2 t290 t293 t296 t311 t314 t317) else (laws_FnExactCastOff.j1 kj13 a1 t299 true l0_0 l0_1 l0_2 t290 t293 t296 t311 t314 t317))))) else (some false)))) = some r := by rw [if_neg (show ¬ (false = true) by decide)] at H; exact H
    clear H
    have H := H1
    clear H1
    replace H := ob_ H
    obtain ⟨⟨t323, t326, t329⟩, A670, H⟩ := H
    (try dsimp only at H)
    have A67 := ak_ A670
    clear A670
    replace H := ob_ H
    obtain ⟨t332, A680, H⟩ := H
    (try dsimp only at H)
    have A68 := ak_ A680
    clear A680
    by_cases c69 : t332 = true
    ·subst c69
     have H1 : ((laws_markRig.f kj13 t301 t304 t307 1).bind fun bt333 => (if bt333.1 < 0 then (laws_FnExactCastOff.j1 kj13 a1 t299 true l0_0 l0_1 l0_2 t290 t293 t296 t311 t314 t317) else ((laws_eqRig.f kj13 t311 t314 t317 t290 t293 t296).bind fun t337 => (if t337 = true then (laws_FnExactCastOff.j1 kj13 a1 t299 (t320 != t299) l0_0 l0_1 l0_2 t290 t293 t296 t311 t314 t317) else (laws_FnExactCastOff.j1 kj13 a1 t299 true l0_0 l0_1 l0_2 t290 t293 t296 t311 t314 t317))))) = some r := by rw [if_pos rfl] at H; exact H
     clear H
     have H := H1
     clear H1
     replace H := ob_ H
     obtain ⟨⟨t333, t334, t335, t336⟩, A700, H⟩ := H
     (try dsimp only at H)
     have A70 := ak_ A700
     clear A700
     have HC71 := ak_ H
     clear H
     try go_wp2
     have n0_ := ak_ (Kd.R_drew HO_301000.out)
     have n1_ := ak_ (Kd.R_drew HO_301001.out)
     have n2_ := ak_ (Kd.R_drew HO_301002.out)
     have n3_ := ak_ (Kd.R_drew HO_311000.out)
     have n4_ := ak_ (Kd.R_drew HO_311001.out)
     have n5_ := ak_ (Kd.R_drew HO_311002.out)
     have n6_ := ak_ (Kd.R_drew HO_322000.out)
     have n7_ := ak_ (Kd.R_drew HO_322001.out)
     have n8_ := ak_ (Kd.R_drew HO_322002.out)
     have n9_ := ak_ (blk_drew BK279.out)
     have n10_ := ak_ (blk_drew BK300.out)
     have n11_ := ak_ (blk_drew BK310.out)
     have n12_ := ak_ (blk_drew BK321.out)
     have n13_ := ak_ (below_drew1 HB.out)
     clear HO_301000
     clear HO_301001
     clear HO_301002
     clear HO_311000
     clear HO_311001
     clear HO_311002
     clear HO_322000
     clear HO_322001
     clear HO_322002
     clear BK279
     clear BK300
     clear BK310
     clear BK321
     clear HB
     have HO_301000 := n0_
     have HO_301001 := n1_
     have HO_301002 := n2_
     have HO_311000 := n3_
     have HO_311001 := n4_
     have HO_311002 := n5_
     have HO_322000 := n6_
     have HO_322001 := n7_
     have HO_322002 := n8_
     have BK279 := n9_
     have BK300 := n10_
     have BK310 := n11_
     have BK321 := n12_
     have HB := n13_
     clear n0_ n1_ n2_ n3_ n4_ n5_ n6_ n7_ n8_ n9_ n10_ n11_ n12_ n13_
     refine start_ (n := 5) (S := fun w' => w'.cell? ⟨gb310, 0, none⟩ = some (.slice Ao33 t301.length co33) ∧ w'.cell? ⟨gb310, 1, none⟩ = some (.slice Ao37 t304.length co37) ∧ w'.cell? ⟨gb310, 2, none⟩ = some (.slice Ao38 t307.length co38) ∧ w'.cell? ⟨gb279, 0, none⟩ = some (.slice A0_0 l0_0.length c0_0) ∧ w'.cell? ⟨gb279, 1, none⟩ = some (.slice A0_1 l0_1.length c0_1) ∧ w'.cell? ⟨gb279, 2, none⟩ = some (.slice A0_2 l0_2.length c0_2)) (ds := []) #[F_,F_,F_,F_,F_] (by kernel_rfl) rfl rfl ⟨(blk_cell BK310.out 0).trans rfl, (blk_cell BK310.out 1).trans rfl, (blk_cell BK310.out 2).trans rfl, (blk_cell BK279.out 0).trans rfl, (blk_cell BK279.out 1).trans rfl, (blk_cell BK279.out 2).trans rfl⟩ (fun hHeld => ?_)
     generalize wc.drew = w72 at HO_301000 HO_301001 HO_301002 HO_311000 HO_311001 HO_311002 HO_322000 HO_322001 HO_322002 BK279 BK300 BK310 BK321 HB hHeld ⊢
     refine take_ (i := 0) (N := some 48) (v := ?_) (a' := ?_) #[T_,F_,F_,F_,F_] rfl rfl (by kernel_rfl) (fun _ _ _ h => h) (Or.inl ⟨by rfl, ?_⟩) hHeld ?_ ?_
     rotate_left
     ·rintro w' ⟨s0, s1, s2, s3, s4, s5⟩
      go_simp
      with_reducible rfl
     rotate_left
     ·simp only [Act.put, sT_, s0_, sS_, i64_w, i32_w]
      rfl
     refine take_ (i := 1) (N := some 49) (v := ?_) (a' := ?_) #[T_,T_,F_,F_,F_] rfl rfl (by kernel_rfl) (fun _ _ _ h => h) (Or.inl ⟨by rfl, ?_⟩) hHeld ?_ ?_
     rotate_left
     ·rintro w' ⟨s0, s1, s2, s3, s4, s5⟩
      go_simp
      with_reducible rfl
     rotate_left
     ·simp only [Act.put, sT_, s0_, sS_, i64_w, i32_w]
      rfl
     refine one_ (i := 2) (N := some 50) #[T_,T_,T_,F_,F_] rfl rfl (by kernel_rfl) (by decide) (fun K hK => ?_)
     refine goes_ Try.func7 (by kernel_rfl) rfl #[.agg #[.slice A0_0 l0_0.length c0_0, .slice A0_1 l0_1.length c0_1, .slice A0_2 l0_2.length c0_2]] (by rfl) rfl rfl ln_ ?_
     with_reducible refine (laws_toRig.calls kj13 _ _ l0_0 _ _ l0_1 _ _ l0_2 t323 t326 t329 _ ?side1 ?side2 ?side3 ?side4 ?side5 ?side6 A67.out).mono ?_
     (case side1 => exact kc_ (Kd.C_below HR0_0.out HB.out))
     (case side2 => exact HC0_0.out)
     (case side3 => exact kc_ (Kd.C_below HR0_1.out HB.out))
     (case side4 => exact HC0_1.out)
     (case side5 => exact kc_ (Kd.C_below HR0_2.out HB.out))
     (case side6 => exact HC0_2.out)
     rintro e w73 ⟨v324, v327, v330, rfl, ho0, ho1, ho2, hb⟩
     refine ⟨_, rfl, ?_⟩
     have n0_ := ak_ (Kd.R_elder' (kr_ HO_301000) (Kd.R_base ho0) hb)
     have n1_ := ak_ (Kd.R_elder' (kr_ HO_301001) (Kd.R_base ho1) hb)
     have n2_ := ak_ (Kd.R_elder' (kr_ HO_301002) (Kd.R_base ho2) hb)
     have n3_ := ak_ (Kd.R_elder' (kr_ HO_311000) (Kd.R_base ho0) hb)
     have n4_ := ak_ (Kd.R_elder' (kr_ HO_311001) (Kd.R_base ho1) hb)
     have n5_ := ak_ (Kd.R_elder' (kr_ HO_311002) (Kd.R_base ho2) hb)
     have n6_ := ak_ (Kd.R_elder' (kr_ HO_322000) (Kd.R_base ho0) hb)
     have n7_ := ak_ (Kd.R_elder' (kr_ HO_322001) (Kd.R_base ho1) hb)
     have n8_ := ak_ (Kd.R_elder' (kr_ HO_322002) (Kd.R_base ho2) hb)
     have n9_ := ak_ (Kd.R_lower (Kd.R_new' (Kd.R_new' (Kd.R_new' ho0 (Kd.R_lt (kr_ HO_301000))) (Kd.R_lt (kr_ HO_311000))) (Kd.R_lt (kr_ HO_322000))) (below_size (by repeat (first | (with_reducible first | exact HB.out | apply below_alloc | apply pw_below_drewN | apply below_drew1 | refine below_set ?_ GE279.out | refine below_set ?_ GE300.out | refine below_set ?_ GE310.out | refine below_set ?_ GE321.out) | exact HB.out))))
     have n10_ := ak_ (Kd.R_lower (Kd.R_new' (Kd.R_new' (Kd.R_new' ho1 (Kd.R_lt (kr_ HO_301001))) (Kd.R_lt (kr_ HO_311001))) (Kd.R_lt (kr_ HO_322001))) (below_size (by repeat (first | (with_reducible first | exact HB.out | apply below_alloc | apply pw_below_drewN | apply below_drew1 | refine below_set ?_ GE279.out | refine below_set ?_ GE300.out | refine below_set ?_ GE310.out | refine below_set ?_ GE321.out) | exact HB.out))))
     have n11_ := ak_ (Kd.R_lower (Kd.R_new' (Kd.R_new' (Kd.R_new' ho2 (Kd.R_lt (kr_ HO_301002))) (Kd.R_lt (kr_ HO_311002))) (Kd.R_lt (kr_ HO_322002))) (below_size (by repeat (first | (with_reducible first | exact HB.out | apply below_alloc | apply pw_below_drewN | apply below_drew1 | refine below_set ?_ GE279.out | refine below_set ?_ GE300.out | refine below_set ?_ GE310.out | refine below_set ?_ GE321.out) | exact HB.out))))
     have n12_ := ak_ (blk_below (g := gb279) (o := .cells #[.slice A0_0 l0_0.length c0_0, .slice A0_1 l0_1.length c0_1, .slice A0_2 l0_2.length c0_2] 26 (0, 0)) (bk_ BK279) hb)
     have n13_ := ak_ (blk_below (g := gb300) (o := .cells #[.slice Ao25 t290.length co25, .slice Ao28 t293.length co28, .slice Ao29 t296.length co29] 31 (0, 0)) (bk_ BK300) hb)
     have n14_ := ak_ (blk_below (g := gb310) (o := .cells #[.slice Ao33 t301.length co33, .slice Ao37 t304.length co37, .slice Ao38 t307.length co38] 31 (0, 0)) (bk_ BK310) hb)
     have n15_ := ak_ (blk_below (g := gb321) (o := .cells #[.slice Ao41 t311.length co41, .slice Ao46 t314.length co46, .slice Ao47 t317.length co47] 31 (0, 0)) (bk_ BK321) hb)
     have n16_ := ak_ (below_step (by repeat (first | (with_reducible first | exact HB.out | apply below_alloc | apply pw_below_drewN | apply below_drew1 | refine below_set ?_ GE279.out | refine below_set ?_ GE300.out | refine below_set ?_ GE310.out | refine below_set ?_ GE321.out) | exact HB.out)) hb)
     clear HO_301000
     clear HO_301001
     clear HO_301002
     clear HO_311000
     clear HO_311001
     clear HO_311002
     clear HO_322000
     clear HO_322001
     clear HO_322002
     clear BK279
     clear BK300
     clear BK310
     clear BK321
     clear HB
     have HO_301000 := n0_
     have HO_301001 := n1_
     have HO_301002 := n2_
     have HO_311000 := n3_
     have HO_311001 := n4_
     have HO_311002 := n5_
     have HO_322000 := n6_
     have HO_322001 := n7_
     have HO_322002 := n8_
     have HO325 := n9_
     have HO328 := n10_
     have HO331 := n11_
     have BK279 := n12_
     have BK300 := n13_
     have BK310 := n14_
     have BK321 := n15_
     have HB := n16_
     clear n0_ n1_ n2_ n3_ n4_ n5_ n6_ n7_ n8_ n9_ n10_ n11_ n12_ n13_ n14_ n15_ n16_
     (try clear hb)
     (try clear hb2)
     (try clear hk)
     (try clear hi)
     (try clear ho0)
     (try clear ho1)
     (try clear ho2)
     obtain ⟨Ao74, co74, eo74⟩ := Kd.R_slice HO325.out
     (first | subst eo74 | (injection eo74 with f1_ f2_ f3_; have f4_ := f1_.symm; have f5_ := f3_.symm; clear f1_ f2_ f3_; subst f4_; subst f5_))
     obtain ⟨Ao75, co75, eo75⟩ := Kd.R_slice HO328.out
     (first | subst eo75 | (injection eo75 with f1_ f2_ f3_; have f4_ := f1_.symm; have f5_ := f3_.symm; clear f1_ f2_ f3_; subst f4_; subst f5_))
     obtain ⟨Ao76, co76, eo76⟩ := Kd.R_slice HO331.out
     (first | subst eo76 | (injection eo76 with f1_ f2_ f3_; have f4_ := f1_.symm; have f5_ := f3_.symm; clear f1_ f2_ f3_; subst f4_; subst f5_))
     refine hK.out _ _ ⟨(blk_cell BK310.out 0).trans rfl, (blk_cell BK310.out 1).trans rfl, (blk_cell BK310.out 2).trans rfl, (blk_cell BK279.out 0).trans rfl, (blk_cell BK279.out 1).trans rfl, (blk_cell BK279.out 2).trans rfl⟩ (fun hHeld => ?_)
     clear hK K
     refine norm_ (a' := ?_) ?_ ?_
     rotate_left
     ·show Act.put _ (some 50) _ = _
      simp only [Act.put, sT_, s0_, sS_, i64_w, i32_w]
      rfl
     refine one_ (i := 3) (N := some 51) #[T_,T_,T_,T_,F_] rfl rfl (by kernel_rfl) (by decide) (fun K hK => ?_)
     refine goes_ Try.func9 (by kernel_rfl) rfl #[.agg #[.slice Ao33 t301.length co33, .slice Ao37 t304.length co37, .slice Ao38 t307.length co38], .agg #[.slice Ao74 t323.length co74, .slice Ao75 t326.length co75, .slice Ao76 t329.length co76]] (by rfl) rfl rfl ln_ ?_
     with_reducible refine (laws_eqRig.calls kj13 _ _ t301 _ _ t304 _ _ t307 _ _ t323 _ _ t326 _ _ t329 true _ ?side1 ?side2 ?side3 ?side4 ?side5 ?side6 ?side7 ?side8 ?side9 ?side10 ?side11 ?side12 A68.out).mono ?_
     (case side1 => repeat (first | exact (Kd.R_reads' HO_311000.out).2.2 | (with_reducible refine Kd.C_alloc ?_ _) | (with_reducible refine Kd.C_drewN ?_ _) | (with_reducible refine Kd.C_drew ?_)))
     (case side2 => exact (Kd.R_reads' HO_311000.out).2.1)
     (case side3 => repeat (first | exact (Kd.R_reads' HO_311001.out).2.2 | (with_reducible refine Kd.C_alloc ?_ _) | (with_reducible refine Kd.C_drewN ?_ _) | (with_reducible refine Kd.C_drew ?_)))
     (case side4 => exact (Kd.R_reads' HO_311001.out).2.1)
     (case side5 => repeat (first | exact (Kd.R_reads' HO_311002.out).2.2 | (with_reducible refine Kd.C_alloc ?_ _) | (with_reducible refine Kd.C_drewN ?_ _) | (with_reducible refine Kd.C_drew ?_)))
     (case side6 => exact (Kd.R_reads' HO_311002.out).2.1)
     (case side7 => repeat (first | exact (Kd.R_reads' HO325.out).2.2 | (with_reducible refine Kd.C_alloc ?_ _) | (with_reducible refine Kd.C_drewN ?_ _) | (with_reducible refine Kd.C_drew ?_)))
     (case side8 => exact (Kd.R_reads' HO325.out).2.1)
     (case side9 => repeat (first | exact (Kd.R_reads' HO328.out).2.2 | (with_reducible refine Kd.C_alloc ?_ _) | (with_reducible refine Kd.C_drewN ?_ _) | (with_reducible refine Kd.C_drew ?_)))
     (case side10 => exact (Kd.R_reads' HO328.out).2.1)
     (case side11 => repeat (first | exact (Kd.R_reads' HO331.out).2.2 | (with_reducible refine Kd.C_alloc ?_ _) | (with_reducible refine Kd.C_drewN ?_ _) | (with_reducible refine Kd.C_drew ?_)))
     (case side12 => exact (Kd.R_reads' HO331.out).2.1)
     rintro e w77 ⟨rfl, hb⟩
     refine ⟨_, rfl, ?_⟩
     have n0_ := ak_ (Kd.R_below (kr_ HO_301000) hb)
     have n1_ := ak_ (Kd.R_below (kr_ HO_301001) hb)
     have n2_ := ak_ (Kd.R_below (kr_ HO_301002) hb)
     have n3_ := ak_ (Kd.R_below (kr_ HO_311000) hb)
     have n4_ := ak_ (Kd.R_below (kr_ HO_311001) hb)
     have n5_ := ak_ (Kd.R_below (kr_ HO_311002) hb)
     have n6_ := ak_ (Kd.R_below (kr_ HO_322000) hb)
     have n7_ := ak_ (Kd.R_below (kr_ HO_322001) hb)
     have n8_ := ak_ (Kd.R_below (kr_ HO_322002) hb)
     have n9_ := ak_ (Kd.R_below (kr_ HO325) hb)
     have n10_ := ak_ (Kd.R_below (kr_ HO328) hb)
     have n11_ := ak_ (Kd.R_below (kr_ HO331) hb)
     have n12_ := ak_ (blk_below (g := gb279) (o := .cells #[.slice A0_0 l0_0.length c0_0, .slice A0_1 l0_1.length c0_1, .slice A0_2 l0_2.length c0_2] 26 (0, 0)) (bk_ BK279) hb)
     have n13_ := ak_ (blk_below (g := gb300) (o := .cells #[.slice Ao25 t290.length co25, .slice Ao28 t293.length co28, .slice Ao29 t296.length co29] 31 (0, 0)) (bk_ BK300) hb)
     have n14_ := ak_ (blk_below (g := gb310) (o := .cells #[.slice Ao33 t301.length co33, .slice Ao37 t304.length co37, .slice Ao38 t307.length co38] 31 (0, 0)) (bk_ BK310) hb)
     have n15_ := ak_ (blk_below (g := gb321) (o := .cells #[.slice Ao41 t311.length co41, .slice Ao46 t314.length co46, .slice Ao47 t317.length co47] 31 (0, 0)) (bk_ BK321) hb)
     have n16_ := ak_ (below_step (by repeat (first | (with_reducible first | exact HB.out | apply below_alloc | apply pw_below_drewN | apply below_drew1 | refine below_set ?_ GE279.out | refine below_set ?_ GE300.out | refine below_set ?_ GE310.out | refine below_set ?_ GE321.out) | exact HB.out)) hb)
     clear HO_301000
     clear HO_301001
     clear HO_301002
     clear HO_311000
     clear HO_311001
     clear HO_311002
     clear HO_322000
     clear HO_322001
     clear HO_322002
     clear HO325
     clear HO328
     clear HO331
     clear BK279
     clear BK300
     clear BK310
     clear BK321
     clear HB
     have HO_301000 := n0_
     have HO_301001 := n1_
     have HO_301002 := n2_
     have HO_311000 := n3_
     have HO_311001 := n4_
     have HO_311002 := n5_
     have HO_322000 := n6_
     have HO_322001 := n7_
     have HO_322002 := n8_
     have HO325 := n9_
     have HO328 := n10_
     have HO331 := n11_
     have BK279 := n12_
     have BK300 := n13_
     have BK310 := n14_
     have BK321 := n15_
     have HB := n16_
     clear n0_ n1_ n2_ n3_ n4_ n5_ n6_ n7_ n8_ n9_ n10_ n11_ n12_ n13_ n14_ n15_ n16_
     (try clear hb)
     (try clear hb2)
     (try clear hk)
     (try clear hi)
     refine hK.out _ _ ⟨(blk_cell BK310.out 0).trans rfl, (blk_cell BK310.out 1).trans rfl, (blk_cell BK310.out 2).trans rfl, (blk_cell BK279.out 0).trans rfl, (blk_cell BK279.out 1).trans rfl, (blk_cell BK279.out 2).trans rfl⟩ (fun hHeld => ?_)
     clear hK K
     refine norm_ (a' := ?_) ?_ ?_
     rotate_left
     ·show Act.put _ (some 51) _ = _
      simp only [Act.put, sT_, s0_, sS_, i64_w, i32_w]
      rfl
     refine pure_ (i := 4) (N := some 52) (v := ?_) (a' := ?_) #[T_,T_,T_,T_,T_] rfl rfl (by kernel_rfl) (fun _ _ _ h => h) (Or.inl ⟨by rfl, ?_⟩) ?_ ?_
     rotate_left
     ·intro w'
      go_simp
      with_reducible rfl
     rotate_left
     ·simp only [Act.put, sT_, s0_, sS_, i64_w, i32_w]
      rfl
     refine done_ (by kernel_rfl) ?_
     have hnb78 := NB310_279.out
     have hnc78 := NB279_310.out
     have hnb79 := NB310_300.out
     have hnc79 := NB300_310.out
     have hnb80 := NB310_321.out
     have hnc80 := NB321_310.out
     have hcz81_0 : w77.cell? ⟨gb310, 0, none⟩ = some (.slice Ao33 t301.length co33) := (blk_cell BK310.out 0).trans rfl
     have hcz81_1 : w77.cell? ⟨gb310, 1, none⟩ = some (.slice Ao37 t304.length co37) := (blk_cell BK310.out 1).trans rfl
     have hcz81_2 : w77.cell? ⟨gb310, 2, none⟩ = some (.slice Ao38 t307.length co38) := (blk_cell BK310.out 2).trans rfl
     have hfz81_0 := blk_frozen BK310.out 0
     have hfz81_1 := blk_frozen BK310.out 1
     have hfz81_2 := blk_frozen BK310.out 2
     go_upto_region 16 with (first | ((with_reducible refine gate_callee (f := 10) rfl ?_); refine goesL_ (some 55) rfl rfl Try.func10 (by kernel_rfl) rfl #[.agg #[.slice Ao33 t301.length co33, .slice Ao37 t304.length co37, .slice Ao38 t307.length co38], .int .i64 1] rfl ln_ ?_; (with_reducible refine (laws_markRig.calls kj13 (fun k_ => some k_ = (.slice Ao33 t301.length co33 : Value).ownBlock) (.slice Ao33 t301.length co33) t301 (fun k_ => some k_ = (.slice Ao37 t304.length co37 : Value).ownBlock) (.slice Ao37 t304.length co37) t304 (fun k_ => some k_ = (.slice Ao38 t307.length co38 : Value).ownBlock) (.slice Ao38 t307.length co38) t307 1 t333 t334 t335 t336 w _ ?side1 (Kd.R_tight rfl HO_311000.out) (Kd.R_tight rfl HO_311001.out) (Kd.R_tight rfl HO_311002.out) A70.out).mono ?_); (case side1 => repeat (first | (with_reducible first | exact HB.out | apply below_alloc | apply pw_below_drewN | apply below_drew1 | refine below_set ?_ GE279.out | refine below_set ?_ GE300.out | refine below_set ?_ GE310.out | refine below_set ?_ GE321.out) | exact HB.out)); rintro e w82 ⟨rfl, hy0, hy1, hy2, hb, hkp⟩; refine ⟨_, rfl, ?_⟩; replace HO_301000 := ak_ (Kd.R_mono (ok' := fun k_ => some k_ ≠ (.slice Ao33 t301.length co33 : Value).ownBlock ∧ some k_ ≠ (.slice Ao41 t311.length co41 : Value).ownBlock ∧ some k_ ≠ (.slice Ao74 t323.length co74 : Value).ownBlock) (Kd.R_keptB ((Kd.R_apart' (Kd.R_apart' HO_301000.out (Kd.R_typed HO_311001.out) (by decide)) (Kd.R_typed HO_311002.out) (by decide))) hkp (fun k_ hk_ hs_ => Or.elim hs_ (fun e_ => (hk_.1.1.1.1) e_) (fun e_ => Or.elim e_ (fun e_ => (hk_.1.2) e_) (fun e_ => (hk_.2) e_)))) (fun k_ hk_ => ⟨hk_.1.1.1.1.1, hk_.1.1.1.1.2, hk_.1.1.1.2⟩)); replace HO_301001 := ak_ (Kd.R_mono (ok' := fun k_ => some k_ ≠ (.slice Ao37 t304.length co37 : Value).ownBlock ∧ some k_ ≠ (.slice Ao46 t314.length co46 : Value).ownBlock ∧ some k_ ≠ (.slice Ao75 t326.length co75 : Value).ownBlock) (Kd.R_keptB ((Kd.R_apart' (Kd.R_apart' HO_301001.out (Kd.R_typed HO_311000.out) (by decide)) (Kd.R_typed HO_311002.out) (by decide))) hkp (fun k_ hk_ hs_ => Or.elim hs_ (fun e_ => (hk_.1.2) e_) (fun e_ => Or.elim e_ (fun e_ => (hk_.1.1.1.1) e_) (fun e_ => (hk_.2) e_)))) (fun k_ hk_ => ⟨hk_.1.1.1.1.1, hk_.1.1.1.1.2, hk_.1.1.1.2⟩)); replace HO_301002 := ak_ (Kd.R_mono (ok' := fun k_ => some k_ ≠ (.slice Ao38 t307.length co38 : Value).ownBlock ∧ some k_ ≠ (.slice Ao47 t317.length co47 : Value).ownBlock ∧ some k_ ≠ (.slice Ao76 t329.length co76 : Value).ownBlock) (Kd.R_keptB ((Kd.R_apart' (Kd.R_apart' HO_301002.out (Kd.R_typed HO_311000.out) (by decide)) (Kd.R_typed HO_311001.out) (by decide))) hkp (fun k_ hk_ hs_ => Or.elim hs_ (fun e_ => (hk_.1.2) e_) (fun e_ => Or.elim e_ (fun e_ => (hk_.2) e_) (fun e_ => (hk_.1.1.1.1) e_)))) (fun k_ hk_ => ⟨hk_.1.1.1.1.1, hk_.1.1.1.1.2, hk_.1.1.1.2⟩)); replace HO_322000 := ak_ (Kd.R_mono (ok' := fun k_ => some k_ ≠ (.slice Ao25 t290.length co25 : Value).ownBlock ∧ some k_ ≠ (.slice Ao33 t301.length co33 : Value).ownBlock ∧ some k_ ≠ (.slice Ao74 t323.length co74 : Value).ownBlock) (Kd.R_keptB ((Kd.R_apart' (Kd.R_apart' HO_322000.out (Kd.R_typed HO_311001.out) (by decide)) (Kd.R_typed HO_311002.out) (by decide))) hkp (fun k_ hk_ hs_ => Or.elim hs_ (fun e_ => (hk_.1.1.1.2) e_) (fun e_ => Or.elim e_ (fun e_ => (hk_.1.2) e_) (fun e_ => (hk_.2) e_)))) (fun k_ hk_ => ⟨hk_.1.1.1.1.1, hk_.1.1.1.1.2, hk_.1.1.1.2⟩)); replace HO_322001 := ak_ (Kd.R_mono (ok' := fun k_ => some k_ ≠ (.slice Ao28 t293.length co28 : Value).ownBlock ∧ some k_ ≠ (.slice Ao37 t304.length co37 : Value).ownBlock ∧ some k_ ≠ (.slice Ao75 t326.length co75 : Value).ownBlock) (Kd.R_keptB ((Kd.R_apart' (Kd.R_apart' HO_322001.out (Kd.R_typed HO_311000.out) (by decide)) (Kd.R_typed HO_311002.out) (by decide))) hkp (fun k_ hk_ hs_ => Or.elim hs_ (fun e_ => (hk_.1.2) e_) (fun e_ => Or.elim e_ (fun e_ => (hk_.1.1.1.2) e_) (fun e_ => (hk_.2) e_)))) (fun k_ hk_ => ⟨hk_.1.1.1.1.1, hk_.1.1.1.1.2, hk_.1.1.1.2⟩)); replace HO_322002 := ak_ (Kd.R_mono (ok' := fun k_ => some k_ ≠ (.slice Ao29 t296.length co29 : Value).ownBlock ∧ some k_ ≠ (.slice Ao38 t307.length co38 : Value).ownBlock ∧ some k_ ≠ (.slice Ao76 t329.length co76 : Value).ownBlock) (Kd.R_keptB ((Kd.R_apart' (Kd.R_apart' HO_322002.out (Kd.R_typed HO_311000.out) (by decide)) (Kd.R_typed HO_311001.out) (by decide))) hkp (fun k_ hk_ hs_ => Or.elim hs_ (fun e_ => (hk_.1.2) e_) (fun e_ => Or.elim e_ (fun e_ => (hk_.2) e_) (fun e_ => (hk_.1.1.1.2) e_)))) (fun k_ hk_ => ⟨hk_.1.1.1.1.1, hk_.1.1.1.1.2, hk_.1.1.1.2⟩)); replace BK279 := ak_ (blk_kept (bk_ BK279) hkp (fun hs_ => Or.elim hs_ (fun e_ => (fun e_ => (Kd.R_ne HO_311000.out BK279.out (by decide)) e_) e_) (fun e_ => Or.elim e_ (fun e_ => (fun e_ => (Kd.R_ne HO_311001.out BK279.out (by decide)) e_) e_) (fun e_ => (fun e_ => (Kd.R_ne HO_311002.out BK279.out (by decide)) e_) e_)))); replace BK300 := ak_ (blk_kept (bk_ BK300) hkp (fun hs_ => Or.elim hs_ (fun e_ => (fun e_ => (Kd.R_ne HO_311000.out BK300.out (by decide)) e_) e_) (fun e_ => Or.elim e_ (fun e_ => (fun e_ => (Kd.R_ne HO_311001.out BK300.out (by decide)) e_) e_) (fun e_ => (fun e_ => (Kd.R_ne HO_311002.out BK300.out (by decide)) e_) e_)))); replace BK310 := ak_ (blk_kept (bk_ BK310) hkp (fun hs_ => Or.elim hs_ (fun e_ => (fun e_ => (Kd.R_ne HO_311000.out BK310.out (by decide)) e_) e_) (fun e_ => Or.elim e_ (fun e_ => (fun e_ => (Kd.R_ne HO_311001.out BK310.out (by decide)) e_) e_) (fun e_ => (fun e_ => (Kd.R_ne HO_311002.out BK310.out (by decide)) e_) e_)))); replace BK321 := ak_ (blk_kept (bk_ BK321) hkp (fun hs_ => Or.elim hs_ (fun e_ => (fun e_ => (Kd.R_ne HO_311000.out BK321.out (by decide)) e_) e_) (fun e_ => Or.elim e_ (fun e_ => (fun e_ => (Kd.R_ne HO_311001.out BK321.out (by decide)) e_) e_) (fun e_ => (fun e_ => (Kd.R_ne HO_311002.out BK321.out (by decide)) e_) e_)))); replace HO325 := ak_ (Kd.R_mono (ok' := fun k_ => some k_ ≠ (.slice Ao25 t290.length co25 : Value).ownBlock ∧ some k_ ≠ (.slice Ao33 t301.length co33 : Value).ownBlock ∧ some k_ ≠ (.slice Ao41 t311.length co41 : Value).ownBlock) (Kd.R_keptB ((Kd.R_apart' (Kd.R_apart' HO325.out (Kd.R_typed HO_311001.out) (by decide)) (Kd.R_typed HO_311002.out) (by decide))) hkp (fun k_ hk_ hs_ => Or.elim hs_ (fun e_ => (hk_.1.1.1.2) e_) (fun e_ => Or.elim e_ (fun e_ => (hk_.1.2) e_) (fun e_ => (hk_.2) e_)))) (fun k_ hk_ => ⟨hk_.1.1.1.1.1.2, hk_.1.1.1.1.2, hk_.1.1.1.2⟩)); replace HO328 := ak_ (Kd.R_mono (ok' := fun k_ => some k_ ≠ (.slice Ao28 t293.length co28 : Value).ownBlock ∧ some k_ ≠ (.slice Ao37 t304.length co37 : Value).ownBlock ∧ some k_ ≠ (.slice Ao46 t314.length co46 : Value).ownBlock) (Kd.R_keptB ((Kd.R_apart' (Kd.R_apart' HO328.out (Kd.R_typed HO_311000.out) (by decide)) (Kd.R_typed HO_311002.out) (by decide))) hkp (fun k_ hk_ hs_ => Or.elim hs_ (fun e_ => (hk_.1.2) e_) (fun e_ => Or.elim e_ (fun e_ => (hk_.1.1.1.2) e_) (fun e_ => (hk_.2) e_)))) (fun k_ hk_ => ⟨hk_.1.1.1.1.1.2, hk_.1.1.1.1.2, hk_.1.1.1.2⟩)); replace HO_311002 := ak_ (Kd.R_reok rfl hy2 (fun k_ e_ => HO_311002.out.1 k_ e_)); replace HO331 := ak_ (Kd.R_mono (ok' := fun k_ => some k_ ≠ (.slice Ao29 t296.length co29 : Value).ownBlock ∧ some k_ ≠ (.slice Ao38 t307.length co38 : Value).ownBlock ∧ some k_ ≠ (.slice Ao47 t317.length co47 : Value).ownBlock) (Kd.R_keptB ((Kd.R_apart' (Kd.R_apart' HO331.out (Kd.R_typed HO_311000.out) (by decide)) (Kd.R_typed HO_311001.out) (by decide))) hkp (fun k_ hk_ hs_ => Or.elim hs_ (fun e_ => (hk_.1.2) e_) (fun e_ => Or.elim e_ (fun e_ => (hk_.2) e_) (fun e_ => (hk_.1.1.1.2) e_)))) (fun k_ hk_ => ⟨hk_.1.1.1.1.1.2, hk_.1.1.1.1.2, hk_.1.1.1.2⟩)); replace HO_311000 := ak_ (Kd.R_reok rfl hy0 (fun k_ e_ => HO_311000.out.1 k_ e_)); replace HO_311001 := ak_ (Kd.R_reok rfl hy1 (fun k_ e_ => HO_311001.out.1 k_ e_)); replace HB := ak_ (hb); skip; clear hb hy0 hy1 hy2; (try clear hkp)))
     (try simp only [Act.put, List.setIfInBounds_toArray, List.set_cons_zero, List.set_cons_succ])
     go_cut [68] (fun v68 wc => ∃ (kq : Nat) (x68_70 : Bool), v68 = .bool x68_70 ∧ Aside0 (laws_FnExactCastOff.j1 kq a1 t299 x68_70 l0_0 l0_1 l0_2 t290 t293 t296 t311 t314 t317 = some r) ∧ Aside0 (kq ≤ kj13) ∧ Aside0 (Kd.R k91 91 wc w.heap.size (fun k_ => some k_ ≠ ((.slice Ao33 t301.length co33) : Value).ownBlock ∧ some k_ ≠ ((.slice Ao41 t311.length co41) : Value).ownBlock) (.slice Ao25 t290.length co25) t290) ∧ Aside0 (Kd.R Kd.string 9 wc w.heap.size (fun k_ => some k_ ≠ ((.slice Ao37 t304.length co37) : Value).ownBlock ∧ some k_ ≠ ((.slice Ao46 t314.length co46) : Value).ownBlock) (.slice Ao28 t293.length co28) t293) ∧ Aside0 (Kd.R k41 41 wc w.heap.size (fun k_ => some k_ ≠ ((.slice Ao38 t307.length co38) : Value).ownBlock ∧ some k_ ≠ ((.slice Ao47 t317.length co47) : Value).ownBlock) (.slice Ao29 t296.length co29) t296) ∧ Aside0 (Kd.R k91 91 wc w.heap.size (fun k_ => some k_ ≠ ((.slice Ao25 t290.length co25) : Value).ownBlock ∧ some k_ ≠ ((.slice Ao41 t311.length co41) : Value).ownBlock) (.slice Ao33 t301.length co33) t334) ∧ Aside0 (Kd.R Kd.string 9 wc w.heap.size (fun k_ => some k_ ≠ ((.slice Ao28 t293.length co28) : Value).ownBlock ∧ some k_ ≠ ((.slice Ao46 t314.length co46) : Value).ownBlock) (.slice Ao37 t304.length co37) t335) ∧ Aside0 (Kd.R k41 41 wc w.heap.size (fun k_ => some k_ ≠ ((.slice Ao29 t296.length co29) : Value).ownBlock ∧ some k_ ≠ ((.slice Ao47 t317.length co47) : Value).ownBlock) (.slice Ao38 t307.length co38) t336) ∧ Aside0 (Kd.R k91 91 wc w.heap.size (fun k_ => some k_ ≠ ((.slice Ao25 t290.length co25) : Value).ownBlock ∧ some k_ ≠ ((.slice Ao33 t301.length co33) : Value).ownBlock) (.slice Ao41 t311.length co41) t311) ∧ Aside0 (Kd.R Kd.string 9 wc w.heap.size (fun k_ => some k_ ≠ ((.slice Ao28 t293.length co28) : Value).ownBlock ∧ some k_ ≠ ((.slice Ao37 t304.length co37) : Value).ownBlock) (.slice Ao46 t314.length co46) t314) ∧ Aside0 (Kd.R k41 41 wc w.heap.size (fun k_ => some k_ ≠ ((.slice Ao29 t296.length co29) : Value).ownBlock ∧ some k_ ≠ ((.slice Ao38 t307.length co38) : Value).ownBlock) (.slice Ao47 t317.length co47) t317) ∧ Aside0 (wc.heap[gb279]? = some (.cells #[(.slice A0_0 l0_0.length c0_0), (.slice A0_1 l0_1.length c0_1), (.slice A0_2 l0_2.length c0_2)] 26 (0, 0))) ∧ Aside0 (wc.heap[gb300]? = some (.cells #[(.slice Ao25 t290.length co25), (.slice Ao28 t293.length co28), (.slice Ao29 t296.length co29)] 31 (0, 0))) ∧ Aside0 (wc.heap[gb310]? = some (.cells #[(.slice Ao33 t301.length co33), (.slice Ao37 t304.length co37), (.slice Ao38 t307.length co38)] 31 (0, 0))) ∧ Aside0 (wc.heap[gb321]? = some (.cells #[(.slice Ao41 t311.length co41), (.slice Ao46 t314.length co46), (.slice Ao47 t317.length co47)] 31 (0, 0))) ∧ Aside0 (Below w.heap.size w wc))
     case first =>
      have H := HC71.out
      clear HC71
      by_cases c83 : t333 < 0
      ·rw [if_pos c83] at H
       have c83b0 : decide (t333 < 0) = true := dt_ c83
       clear c83
       (first | rw [c83b0] | (simp only [i64_w, i32_w]; rw [c83b0]) | skip)
       have H' := ak_ H
       clear H
       go_wp2
       go_meet
       case rel => exact ⟨_, (true), fr_, H', ⟨by have := HJ13.out; first | omega | exact Nat.le_refl _⟩, ⟨by (with_reducible repeat (first | apply Kd.R_alloc | apply Kd.R_drewN | apply Kd.R_drew)); exact Kd.R_mono HO_301000.out (fun _ hk => ⟨hk.1, hk.2.1⟩)⟩, ⟨by (with_reducible repeat (first | apply Kd.R_alloc | apply Kd.R_drewN | apply Kd.R_drew)); exact Kd.R_mono HO_301001.out (fun _ hk => ⟨hk.1, hk.2.1⟩)⟩, ⟨by (with_reducible repeat (first | apply Kd.R_alloc | apply Kd.R_drewN | apply Kd.R_drew)); exact Kd.R_mono HO_301002.out (fun _ hk => ⟨hk.1, hk.2.1⟩)⟩, ⟨by (with_reducible repeat (first | apply Kd.R_alloc | apply Kd.R_drewN | apply Kd.R_drew)); exact Kd.R_mono HO_311000.out (fun _ hk => ⟨hk.1.1, hk.1.2⟩)⟩, ⟨by (with_reducible repeat (first | apply Kd.R_alloc | apply Kd.R_drewN | apply Kd.R_drew)); exact Kd.R_mono HO_311001.out (fun _ hk => ⟨hk.1.1, hk.1.2⟩)⟩, ⟨by (with_reducible repeat (first | apply Kd.R_alloc | apply Kd.R_drewN | apply Kd.R_drew)); exact Kd.R_mono HO_311002.out (fun _ hk => ⟨hk.1.1, hk.1.2⟩)⟩, ⟨by (with_reducible repeat (first | apply Kd.R_alloc | apply Kd.R_drewN | apply Kd.R_drew)); exact Kd.R_mono HO_322000.out (fun _ hk => ⟨hk.1, hk.2.1⟩)⟩, ⟨by (with_reducible repeat (first | apply Kd.R_alloc | apply Kd.R_drewN | apply Kd.R_drew)); exact Kd.R_mono HO_322001.out (fun _ hk => ⟨hk.1, hk.2.1⟩)⟩, ⟨by (with_reducible repeat (first | apply Kd.R_alloc | apply Kd.R_drewN | apply Kd.R_drew)); exact Kd.R_mono HO_322002.out (fun _ hk => ⟨hk.1, hk.2.1⟩)⟩, ⟨by (with_reducible repeat (first | refine blk_drewN ?_ _ | refine blk_drew ?_ | refine blk_alloc ?_ _)); exact BK279.out⟩, ⟨by (with_reducible repeat (first | refine blk_drewN ?_ _ | refine blk_drew ?_ | refine blk_alloc ?_ _)); exact BK300.out⟩, ⟨by (with_reducible repeat (first | refine blk_drewN ?_ _ | refine blk_drew ?_ | refine blk_alloc ?_ _)); exact BK310.out⟩, ⟨by (with_reducible repeat (first | refine blk_drewN ?_ _ | refine blk_drew ?_ | refine blk_alloc ?_ _)); exact BK321.out⟩, ⟨by repeat (first | (with_reducible first | exact HB.out | apply below_alloc | apply pw_below_drewN | apply below_drew1 | refine below_set ?_ GE279.out | refine below_set ?_ GE300.out | refine below_set ?_ GE310.out | refine below_set ?_ GE321.out) | exact HB.out)⟩⟩
      ·rw [if_neg c83] at H
       have c83b0 : decide (t333 < 0) = false := decide_eq_false c83
       clear c83
       (first | rw [c83b0] | (simp only [i64_w, i32_w]; rw [c83b0]) | skip)
       replace H := ob_ H
       obtain ⟨t337, A840, H⟩ := H
       (try dsimp only at H)
       have A84 := ak_ A840
       clear A840
       by_cases c85 : t337 = true
       ·subst c85
        have H1 : (laws_FnExactCastOff.j1 kj13 a1 t299 (t320 != t299) l0_0 l0_1 l0_2 t290 t293 t296 t311 t314 t317) = some r := by rw [if_pos rfl] at H; exact H
        clear H
        have H := H1
        clear H1
        have H' := ak_ H
        clear H
        have hnb86 := NB321_279.out
        have hnc86 := NB279_321.out
        have hnb87 := NB321_300.out
        have hnc87 := NB300_321.out
        have hnb88 := NB321_310.out
        have hnc88 := NB310_321.out
        have hcz89_0 : w82.cell? ⟨gb321, 0, none⟩ = some (.slice Ao41 t311.length co41) := (blk_cell BK321.out 0).trans rfl
        have hcz89_1 : w82.cell? ⟨gb321, 1, none⟩ = some (.slice Ao46 t314.length co46) := (blk_cell BK321.out 1).trans rfl
        have hcz89_2 : w82.cell? ⟨gb321, 2, none⟩ = some (.slice Ao47 t317.length co47) := (blk_cell BK321.out 2).trans rfl
        have hfz89_0 := blk_frozen BK321.out 0
        have hfz89_1 := blk_frozen BK321.out 1
        have hfz89_2 := blk_frozen BK321.out 2
        have hnb90 := NB300_279.out
        have hnc90 := NB279_300.out
        have hnb91 := NB300_310.out
        have hnc91 := NB310_300.out
        have hcz92_0 : w82.cell? ⟨gb300, 0, none⟩ = some (.slice Ao25 t290.length co25) := (blk_cell BK300.out 0).trans rfl
        have hcz92_1 : w82.cell? ⟨gb300, 1, none⟩ = some (.slice Ao28 t293.length co28) := (blk_cell BK300.out 1).trans rfl
        have hcz92_2 : w82.cell? ⟨gb300, 2, none⟩ = some (.slice Ao29 t296.length co29) := (blk_cell BK300.out 2).trans rfl
        have hfz92_0 := blk_frozen BK300.out 0
        have hfz92_1 := blk_frozen BK300.out 1
        have hfz92_2 := blk_frozen BK300.out 2
        go_wp2_with (first | (go_at_call 9; (with_reducible refine (laws_eqRig.calls kj13 _ _ t311 _ _ t314 _ _ t317 _ _ t290 _ _ t293 _ _ t296 true _ ?side1 ((Kd.R_reads' HO_322000.out).2.1) ?side3 ((Kd.R_reads' HO_322001.out).2.1) ?side5 ((Kd.R_reads' HO_322002.out).2.1) ?side7 ((Kd.R_reads' HO_301000.out).2.1) ?side9 ((Kd.R_reads' HO_301001.out).2.1) ?side11 ((Kd.R_reads' HO_301002.out).2.1) A84.out).mono ?_); (case side1 => repeat (first | exact (Kd.R_reads' HO_322000.out).2.2 | (with_reducible refine Kd.C_alloc ?_ _) | (with_reducible refine Kd.C_drewN ?_ _) | (with_reducible refine Kd.C_drew ?_))); (case side3 => repeat (first | exact (Kd.R_reads' HO_322001.out).2.2 | (with_reducible refine Kd.C_alloc ?_ _) | (with_reducible refine Kd.C_drewN ?_ _) | (with_reducible refine Kd.C_drew ?_))); (case side5 => repeat (first | exact (Kd.R_reads' HO_322002.out).2.2 | (with_reducible refine Kd.C_alloc ?_ _) | (with_reducible refine Kd.C_drewN ?_ _) | (with_reducible refine Kd.C_drew ?_))); (case side7 => repeat (first | exact (Kd.R_reads' HO_301000.out).2.2 | (with_reducible refine Kd.C_alloc ?_ _) | (with_reducible refine Kd.C_drewN ?_ _) | (with_reducible refine Kd.C_drew ?_))); (case side9 => repeat (first | exact (Kd.R_reads' HO_301001.out).2.2 | (with_reducible refine Kd.C_alloc ?_ _) | (with_reducible refine Kd.C_drewN ?_ _) | (with_reducible refine Kd.C_drew ?_))); (case side11 => repeat (first | exact (Kd.R_reads' HO_301002.out).2.2 | (with_reducible refine Kd.C_alloc ?_ _) | (with_reducible refine Kd.C_drewN ?_ _) | (with_reducible refine Kd.C_drew ?_))); rintro e w93 ⟨rfl, hb⟩; replace HO_301000 := ak_ (Kd.R_below (kr_ HO_301000) hb); replace HO_301001 := ak_ (Kd.R_below (kr_ HO_301001) hb); replace HO_301002 := ak_ (Kd.R_below (kr_ HO_301002) hb); replace HO_311000 := ak_ (Kd.R_below (kr_ HO_311000) hb); replace HO_311001 := ak_ (Kd.R_below (kr_ HO_311001) hb); replace HO_311002 := ak_ (Kd.R_below (kr_ HO_311002) hb); replace HO_322000 := ak_ (Kd.R_below (kr_ HO_322000) hb); replace HO_322001 := ak_ (Kd.R_below (kr_ HO_322001) hb); replace HO_322002 := ak_ (Kd.R_below (kr_ HO_322002) hb); replace HO325 := ak_ (Kd.R_below (kr_ HO325) hb); replace HO328 := ak_ (Kd.R_below (kr_ HO328) hb); replace HO331 := ak_ (Kd.R_below (kr_ HO331) hb); replace BK279 := ak_ (blk_below (g := gb279) (o := .cells #[.slice A0_0 l0_0.length c0_0, .slice A0_1 l0_1.length c0_1, .slice A0_2 l0_2.length c0_2] 26 (0, 0)) (bk_ BK279) hb); replace BK300 := ak_ (blk_below (g := gb300) (o := .cells #[.slice Ao25 t290.length co25, .slice Ao28 t293.length co28, .slice Ao29 t296.length co29] 31 (0, 0)) (bk_ BK300) hb); replace BK310 := ak_ (blk_below (g := gb310) (o := .cells #[.slice Ao33 t301.length co33, .slice Ao37 t304.length co37, .slice Ao38 t307.length co38] 31 (0, 0)) (bk_ BK310) hb); replace BK321 := ak_ (blk_below (g := gb321) (o := .cells #[.slice Ao41 t311.length co41, .slice Ao46 t314.length co46, .slice Ao47 t317.length co47] 31 (0, 0)) (bk_ BK321) hb); replace HB := ak_ (below_step (by repeat (first | (with_reducible first | exact HB.out | apply below_alloc | apply pw_below_drewN | apply below_drew1 | refine below_set ?_ GE279.out | refine below_set ?_ GE300.out | refine below_set ?_ GE310.out | refine below_set ?_ GE321.out) | exact HB.out)) hb); skip; clear hb))
        go_meet
        case rel => exact ⟨_, ((t320 != t299)), fr_, H', ⟨by have := HJ13.out; first | omega | exact Nat.le_refl _⟩, ⟨by (with_reducible repeat (first | apply Kd.R_alloc | apply Kd.R_drewN | apply Kd.R_drew)); exact Kd.R_mono HO_301000.out (fun _ hk => ⟨hk.1, hk.2.1⟩)⟩, ⟨by (with_reducible repeat (first | apply Kd.R_alloc | apply Kd.R_drewN | apply Kd.R_drew)); exact Kd.R_mono HO_301001.out (fun _ hk => ⟨hk.1, hk.2.1⟩)⟩, ⟨by (with_reducible repeat (first | apply Kd.R_alloc | apply Kd.R_drewN | apply Kd.R_drew)); exact Kd.R_mono HO_301002.out (fun _ hk => ⟨hk.1, hk.2.1⟩)⟩, ⟨by (with_reducible repeat (first | apply Kd.R_alloc | apply Kd.R_drewN | apply Kd.R_drew)); exact Kd.R_mono HO_311000.out (fun _ hk => ⟨hk.1.1, hk.1.2⟩)⟩, ⟨by (with_reducible repeat (first | apply Kd.R_alloc | apply Kd.R_drewN | apply Kd.R_drew)); exact Kd.R_mono HO_311001.out (fun _ hk => ⟨hk.1.1, hk.1.2⟩)⟩, ⟨by (with_reducible repeat (first | apply Kd.R_alloc | apply Kd.R_drewN | apply Kd.R_drew)); exact Kd.R_mono HO_311002.out (fun _ hk => ⟨hk.1.1, hk.1.2⟩)⟩, ⟨by (with_reducible repeat (first | apply Kd.R_alloc | apply Kd.R_drewN | apply Kd.R_drew)); exact Kd.R_mono HO_322000.out (fun _ hk => ⟨hk.1, hk.2.1⟩)⟩, ⟨by (with_reducible repeat (first | apply Kd.R_alloc | apply Kd.R_drewN | apply Kd.R_drew)); exact Kd.R_mono HO_322001.out (fun _ hk => ⟨hk.1, hk.2.1⟩)⟩, ⟨by (with_reducible repeat (first | apply Kd.R_alloc | apply Kd.R_drewN | apply Kd.R_drew)); exact Kd.R_mono HO_322002.out (fun _ hk => ⟨hk.1, hk.2.1⟩)⟩, ⟨by (with_reducible repeat (first | refine blk_drewN ?_ _ | refine blk_drew ?_ | refine blk_alloc ?_ _)); exact BK279.out⟩, ⟨by (with_reducible repeat (first | refine blk_drewN ?_ _ | refine blk_drew ?_ | refine blk_alloc ?_ _)); exact BK300.out⟩, ⟨by (with_reducible repeat (first | refine blk_drewN ?_ _ | refine blk_drew ?_ | refine blk_alloc ?_ _)); exact BK310.out⟩, ⟨by (with_reducible repeat (first | refine blk_drewN ?_ _ | refine blk_drew ?_ | refine blk_alloc ?_ _)); exact BK321.out⟩, ⟨by repeat (first | (with_reducible first | exact HB.out | apply below_alloc | apply pw_below_drewN | apply below_drew1 | refine below_set ?_ GE279.out | refine below_set ?_ GE300.out | refine below_set ?_ GE310.out | refine below_set ?_ GE321.out) | exact HB.out)⟩⟩
       ·replace c85 := Bool.eq_false_iff.mpr c85
        subst c85
        have H1 : (laws_FnExactCastOff.j1 kj13 a1 t299 true l0_0 l0_1 l0_2 t290 t293 t296 t311 t314 t317) = some r := by rw [if_neg (show ¬ (false = true) by decide)] at H; exact H
        clear H
        have H := H1
        clear H1
        have H' := ak_ H
        clear H
        have hnb94 := NB321_279.out
        have hnc94 := NB279_321.out
        have hnb95 := NB321_300.out
        have hnc95 := NB300_321.out
        have hnb96 := NB321_310.out
        have hnc96 := NB310_321.out
        have hcz97_0 : w82.cell? ⟨gb321, 0, none⟩ = some (.slice Ao41 t311.length co41) := (blk_cell BK321.out 0).trans rfl
        have hcz97_1 : w82.cell? ⟨gb321, 1, none⟩ = some (.slice Ao46 t314.length co46) := (blk_cell BK321.out 1).trans rfl
        have hcz97_2 : w82.cell? ⟨gb321, 2, none⟩ = some (.slice Ao47 t317.length co47) := (blk_cell BK321.out 2).trans rfl
        have hfz97_0 := blk_frozen BK321.out 0
        have hfz97_1 := blk_frozen BK321.out 1
        have hfz97_2 := blk_frozen BK321.out 2
        have hnb98 := NB300_279.out
        have hnc98 := NB279_300.out
        have hnb99 := NB300_310.out
        have hnc99 := NB310_300.out
        have hcz100_0 : w82.cell? ⟨gb300, 0, none⟩ = some (.slice Ao25 t290.length co25) := (blk_cell BK300.out 0).trans rfl
        have hcz100_1 : w82.cell? ⟨gb300, 1, none⟩ = some (.slice Ao28 t293.length co28) := (blk_cell BK300.out 1).trans rfl
        have hcz100_2 : w82.cell? ⟨gb300, 2, none⟩ = some (.slice Ao29 t296.length co29) := (blk_cell BK300.out 2).trans rfl
        have hfz100_0 := blk_frozen BK300.out 0
        have hfz100_1 := blk_frozen BK300.out 1
        have hfz100_2 := blk_frozen BK300.out 2
        go_wp2_with (first | (go_at_call 9; (with_reducible refine (laws_eqRig.calls kj13 _ _ t311 _ _ t314 _ _ t317 _ _ t290 _ _ t293 _ _ t296 false _ ?side1 ((Kd.R_reads' HO_322000.out).2.1) ?side3 ((Kd.R_reads' HO_322001.out).2.1) ?side5 ((Kd.R_reads' HO_322002.out).2.1) ?side7 ((Kd.R_reads' HO_301000.out).2.1) ?side9 ((Kd.R_reads' HO_301001.out).2.1) ?side11 ((Kd.R_reads' HO_301002.out).2.1) A84.out).mono ?_); (case side1 => repeat (first | exact (Kd.R_reads' HO_322000.out).2.2 | (with_reducible refine Kd.C_alloc ?_ _) | (with_reducible refine Kd.C_drewN ?_ _) | (with_reducible refine Kd.C_drew ?_))); (case side3 => repeat (first | exact (Kd.R_reads' HO_322001.out).2.2 | (with_reducible refine Kd.C_alloc ?_ _) | (with_reducible refine Kd.C_drewN ?_ _) | (with_reducible refine Kd.C_drew ?_))); (case side5 => repeat (first | exact (Kd.R_reads' HO_322002.out).2.2 | (with_reducible refine Kd.C_alloc ?_ _) | (with_reducible refine Kd.C_drewN ?_ _) | (with_reducible refine Kd.C_drew ?_))); (case side7 => repeat (first | exact (Kd.R_reads' HO_301000.out).2.2 | (with_reducible refine Kd.C_alloc ?_ _) | (with_reducible refine Kd.C_drewN ?_ _) | (with_reducible refine Kd.C_drew ?_))); (case side9 => repeat (first | exact (Kd.R_reads' HO_301001.out).2.2 | (with_reducible refine Kd.C_alloc ?_ _) | (with_reducible refine Kd.C_drewN ?_ _) | (with_reducible refine Kd.C_drew ?_))); (case side11 => repeat (first | exact (Kd.R_reads' HO_301002.out).2.2 | (with_reducible refine Kd.C_alloc ?_ _) | (with_reducible refine Kd.C_drewN ?_ _) | (with_reducible refine Kd.C_drew ?_))); rintro e w101 ⟨rfl, hb⟩; replace HO_301000 := ak_ (Kd.R_below (kr_ HO_301000) hb); replace HO_301001 := ak_ (Kd.R_below (kr_ HO_301001) hb); replace HO_301002 := ak_ (Kd.R_below (kr_ HO_301002) hb); replace HO_311000 := ak_ (Kd.R_below (kr_ HO_311000) hb); replace HO_311001 := ak_ (Kd.R_below (kr_ HO_311001) hb); replace HO_311002 := ak_ (Kd.R_below (kr_ HO_311002) hb); replace HO_322000 := ak_ (Kd.R_below (kr_ HO_322000) hb); replace HO_322001 := ak_ (Kd.R_below (kr_ HO_322001) hb); replace HO_322002 := ak_ (Kd.R_below (kr_ HO_322002) hb); replace HO325 := ak_ (Kd.R_below (kr_ HO325) hb); replace HO328 := ak_ (Kd.R_below (kr_ HO328) hb); replace HO331 := ak_ (Kd.R_below (kr_ HO331) hb); replace BK279 := ak_ (blk_below (g := gb279) (o := .cells #[.slice A0_0 l0_0.length c0_0, .slice A0_1 l0_1.length c0_1, .slice A0_2 l0_2.length c0_2] 26 (0, 0)) (bk_ BK279) hb); replace BK300 := ak_ (blk_below (g := gb300) (o := .cells #[.slice Ao25 t290.length co25, .slice Ao28 t293.length co28, .slice Ao29 t296.length co29] 31 (0, 0)) (bk_ BK300) hb); replace BK310 := ak_ (blk_below (g := gb310) (o := .cells #[.slice Ao33 t301.length co33, .slice Ao37 t304.length co37, .slice Ao38 t307.length co38] 31 (0, 0)) (bk_ BK310) hb); replace BK321 := ak_ (blk_below (g := gb321) (o := .cells #[.slice Ao41 t311.length co41, .slice Ao46 t314.length co46, .slice Ao47 t317.length co47] 31 (0, 0)) (bk_ BK321) hb); replace HB := ak_ (below_step (by repeat (first | (with_reducible first | exact HB.out | apply below_alloc | apply pw_below_drewN | apply below_drew1 | refine below_set ?_ GE279.out | refine below_set ?_ GE300.out | refine below_set ?_ GE310.out | refine below_set ?_ GE321.out) | exact HB.out)) hb); skip; clear hb))
        go_meet
        case rel => exact ⟨_, (true), fr_, H', ⟨by have := HJ13.out; first | omega | exact Nat.le_refl _⟩, ⟨by (with_reducible repeat (first | apply Kd.R_alloc | apply Kd.R_drewN | apply Kd.R_drew)); exact Kd.R_mono HO_301000.out (fun _ hk => ⟨hk.1, hk.2.1⟩)⟩, ⟨by (with_reducible repeat (first | apply Kd.R_alloc | apply Kd.R_drewN | apply Kd.R_drew)); exact Kd.R_mono HO_301001.out (fun _ hk => ⟨hk.1, hk.2.1⟩)⟩, ⟨by (with_reducible repeat (first | apply Kd.R_alloc | apply Kd.R_drewN | apply Kd.R_drew)); exact Kd.R_mono HO_301002.out (fun _ hk => ⟨hk.1, hk.2.1⟩)⟩, ⟨by (with_reducible repeat (first | apply Kd.R_alloc | apply Kd.R_drewN | apply Kd.R_drew)); exact Kd.R_mono HO_311000.out (fun _ hk => ⟨hk.1.1, hk.1.2⟩)⟩, ⟨by (with_reducible repeat (first | apply Kd.R_alloc | apply Kd.R_drewN | apply Kd.R_drew)); exact Kd.R_mono HO_311001.out (fun _ hk => ⟨hk.1.1, hk.1.2⟩)⟩, ⟨by (with_reducible repeat (first | apply Kd.R_alloc | apply Kd.R_drewN | apply Kd.R_drew)); exact Kd.R_mono HO_311002.out (fun _ hk => ⟨hk.1.1, hk.1.2⟩)⟩, ⟨by (with_reducible repeat (first | apply Kd.R_alloc | apply Kd.R_drewN | apply Kd.R_drew)); exact Kd.R_mono HO_322000.out (fun _ hk => ⟨hk.1, hk.2.1⟩)⟩, ⟨by (with_reducible repeat (first | apply Kd.R_alloc | apply Kd.R_drewN | apply Kd.R_drew)); exact Kd.R_mono HO_322001.out (fun _ hk => ⟨hk.1, hk.2.1⟩)⟩, ⟨by (with_reducible repeat (first | apply Kd.R_alloc | apply Kd.R_drewN | apply Kd.R_drew)); exact Kd.R_mono HO_322002.out (fun _ hk => ⟨hk.1, hk.2.1⟩)⟩, ⟨by (with_reducible repeat (first | refine blk_drewN ?_ _ | refine blk_drew ?_ | refine blk_alloc ?_ _)); exact BK279.out⟩, ⟨by (with_reducible repeat (first | refine blk_drewN ?_ _ | refine blk_drew ?_ | refine blk_alloc ?_ _)); exact BK300.out⟩, ⟨by (with_reducible repeat (first | refine blk_drewN ?_ _ | refine blk_drew ?_ | refine blk_alloc ?_ _)); exact BK310.out⟩, ⟨by (with_reducible repeat (first | refine blk_drewN ?_ _ | refine blk_drew ?_ | refine blk_alloc ?_ _)); exact BK321.out⟩, ⟨by repeat (first | (with_reducible first | exact HB.out | apply below_alloc | apply pw_below_drewN | apply below_drew1 | refine below_set ?_ GE279.out | refine below_set ?_ GE300.out | refine below_set ?_ GE310.out | refine below_set ?_ GE321.out) | exact HB.out)⟩⟩
     case rest =>
      clear HC71
      try clear c1
      try clear c2
      try clear p2
      try clear c3
      try clear c3b0
      try clear c3b1
      try clear c4
      try clear c5
      try clear c6
      try clear c6b0
      try clear c7
      try clear c8
      try clear c9
      try clear c10
      try clear c26
      try clear c34
      try clear c35
      try clear c42
      try clear c43
      try clear c44
      try clear c49
      try clear c50
      try clear c51
      try clear c52
      try clear c54
      try clear c55
      try clear c58
      try clear c59
      try clear c60
      try clear c62
      try clear c63
      try clear c66
      try clear c69
      try clear c78
      try clear c79
      try clear c80
      try clear c83
      try clear c83b0
      try clear c85
      try clear c86
      try clear c87
      try clear c88
      try clear c90
      try clear c91
      try clear c94
      try clear c95
      try clear c96
      try clear c98
      try clear c99
      try clear hcz100_0
      try clear hcz100_1
      try clear hcz100_2
      try clear hcz16_0
      try clear hcz16_1
      try clear hcz16_2
      try clear hcz18_0
      try clear hcz18_1
      try clear hcz18_2
      try clear hcz27_0
      try clear hcz27_1
      try clear hcz27_2
      try clear hcz30_0
      try clear hcz30_1
      try clear hcz30_2
      try clear hcz36_0
      try clear hcz36_1
      try clear hcz36_2
      try clear hcz45_0
      try clear hcz45_1
      try clear hcz45_2
      try clear hcz53_0
      try clear hcz53_1
      try clear hcz53_2
      try clear hcz56_0
      try clear hcz56_1
      try clear hcz56_2
      try clear hcz61_0
      try clear hcz61_1
      try clear hcz61_2
      try clear hcz64_0
      try clear hcz64_1
      try clear hcz64_2
      try clear hcz81_0
      try clear hcz81_1
      try clear hcz81_2
      try clear hcz89_0
      try clear hcz89_1
      try clear hcz89_2
      try clear hcz8_0
      try clear hcz8_1
      try clear hcz8_2
      try clear hcz92_0
      try clear hcz92_1
      try clear hcz92_2
      try clear hcz97_0
      try clear hcz97_1
      try clear hcz97_2
      try clear hfz100_0
      try clear hfz100_1
      try clear hfz100_2
      try clear hfz16_0
      try clear hfz16_1
      try clear hfz16_2
      try clear hfz18_0
      try clear hfz18_1
      try clear hfz18_2
      try clear hfz27_0
      try clear hfz27_1
      try clear hfz27_2
      try clear hfz30_0
      try clear hfz30_1
      try clear hfz30_2
      try clear hfz36_0
      try clear hfz36_1
      try clear hfz36_2
      try clear hfz45_0
      try clear hfz45_1
      try clear hfz45_2
      try clear hfz53_0
      try clear hfz53_1
      try clear hfz53_2
      try clear hfz56_0
      try clear hfz56_1
      try clear hfz56_2
      try clear hfz61_0
      try clear hfz61_1
      try clear hfz61_2
      try clear hfz64_0
      try clear hfz64_1
      try clear hfz64_2
      try clear hfz81_0
      try clear hfz81_1
      try clear hfz81_2
      try clear hfz89_0
      try clear hfz89_1
      try clear hfz89_2
      try clear hfz8_0
      try clear hfz8_1
      try clear hfz8_2
      try clear hfz92_0
      try clear hfz92_1
      try clear hfz92_2
      try clear hfz97_0
      try clear hfz97_1
      try clear hfz97_2
      try clear p2
      obtain ⟨kq, x68_70, rfl, HA, HJ70, HO_301000, HO_301001, HO_301002, HO_311000, HO_311001, HO_311002, HO_322000, HO_322001, HO_322002, BK279, BK300, BK310, BK321, HB⟩ := hcut
      have hl311000_70 := (Kd.R_reads' HO_311000.out).1
      rw [hl311000_70] at HO_311000
      (try simp only [hl311000_70])
      (try simp only [hl311000_70] at BK279)
      (try simp only [hl311000_70] at BK300)
      (try simp only [hl311000_70] at BK310)
      (try simp only [hl311000_70] at BK321)
      (try simp only [hl311000_70] at HO_301000)
      (try simp only [hl311000_70] at HO_301001)
      (try simp only [hl311000_70] at HO_301002)
      (try simp only [hl311000_70] at HO_311001)
      (try simp only [hl311000_70] at HO_311002)
      (try simp only [hl311000_70] at HO_322000)
      (try simp only [hl311000_70] at HO_322001)
      (try simp only [hl311000_70] at HO_322002)
      have hl311001_70 := (Kd.R_reads' HO_311001.out).1
      rw [hl311001_70] at HO_311001
      (try simp only [hl311001_70])
      (try simp only [hl311001_70] at BK279)
      (try simp only [hl311001_70] at BK300)
      (try simp only [hl311001_70] at BK310)
      (try simp only [hl311001_70] at BK321)
      (try simp only [hl311001_70] at HO_301000)
      (try simp only [hl311001_70] at HO_301001)
      (try simp only [hl311001_70] at HO_301002)
      (try simp only [hl311001_70] at HO_311000)
      (try simp only [hl311001_70] at HO_311002)
      (try simp only [hl311001_70] at HO_322000)
      (try simp only [hl311001_70] at HO_322001)
      (try simp only [hl311001_70] at HO_322002)
      have hl311002_70 := (Kd.R_reads' HO_311002.out).1
      rw [hl311002_70] at HO_311002
      (try simp only [hl311002_70])
      (try simp only [hl311002_70] at BK279)
      (try simp only [hl311002_70] at BK300)
      (try simp only [hl311002_70] at BK310)
      (try simp only [hl311002_70] at BK321)
      (try simp only [hl311002_70] at HO_301000)
      (try simp only [hl311002_70] at HO_301001)
      (try simp only [hl311002_70] at HO_301002)
      (try simp only [hl311002_70] at HO_311000)
      (try simp only [hl311002_70] at HO_311001)
      (try simp only [hl311002_70] at HO_322000)
      (try simp only [hl311002_70] at HO_322001)
      (try simp only [hl311002_70] at HO_322002)
      cases kq with
      | zero => exact absurd HA.out (by simp [laws_FnExactCastOff.j1])
      | succ kj70 =>
       have H := HA.out
       clear HA
       simp only [laws_FnExactCastOff.j1] at H
       by_cases c102 : x68_70 = true
       ·subst c102
        have H1 : (some false) = some r := by rw [if_pos rfl] at H; exact H
        clear H
        have H := H1
        clear H1
        obtain rfl := Option.some.inj H
        go_wp2
        go_ret
        exact ⟨ew_, by repeat (first | (with_reducible first | exact HB.out | apply below_alloc | apply pw_below_drewN | apply below_drew1 | refine below_set ?_ GE279.out | refine below_set ?_ GE300.out | refine below_set ?_ GE310.out | refine below_set ?_ GE321.out) | exact HB.out)⟩
       ·replace c102 := Bool.eq_false_iff.mpr c102
        subst c102
        have H1 : ((laws_markRig.f kj70 t311 t314 t317 1).bind fun bt338 => ((laws_heldRig.f kj70 bt338.2.1 bt338.2.2.1 bt338.2.2.2 1).bind fun t342 => (if t342 < 0 then (some false) else (if t342 = bt338.1 then ((laws_toRig.f kj70 l0_0 l0_1 l0_2).bind fun bt343 => ((impl_CastOff.f kj70 bt343.1 bt343.2.1 bt343.2.2 a1).bind fun bt352 => ((laws_eqRig.f kj70 bt352.1 bt352.2.1 bt352.2.2.1 t290 t293 t296).bind fun t363 => (if t363 = true then (laws_FnExactCastOff.j2 kj70 bt338.1 (bt352.2.2.2 != t299) bt338.2.1 bt338.2.2.1 bt338.2.2.2) else (laws_FnExactCastOff.j2 kj70 bt338.1 true bt338.2.1 bt338.2.2.1 bt338.2.2.2))))) else (some false))))) = some r := by rw [if_neg (show ¬ (false = true) by decide)] at H; exact H
        clear H
        have H := H1
        clear H1
        replace H := ob_ H
        obtain ⟨⟨t338, t339, t340, t341⟩, A1030, H⟩ := H
        (try dsimp only at H)
        have A103 := ak_ A1030
        clear A1030
        replace H := ob_ H
        obtain ⟨t342, A1040, H⟩ := H
        (try dsimp only at H)
        have A104 := ak_ A1040
        clear A1040
        by_cases c105 : t342 < 0
        ·rw [if_pos c105] at H
         have c105b0 : decide (t342 < 0) = true := dt_ c105
         clear c105
         obtain rfl := Option.some.inj H
         have hnb106 := NB321_279.out
         have hnc106 := NB279_321.out
         have hnb107 := NB321_300.out
         have hnc107 := NB300_321.out
         have hnb108 := NB321_310.out
         have hnc108 := NB310_321.out
         have hcz109_0 : wc.cell? ⟨gb321, 0, none⟩ = some (.slice Ao41 t311.length co41) := (blk_cell BK321.out 0).trans rfl
         have hcz109_1 : wc.cell? ⟨gb321, 1, none⟩ = some (.slice Ao46 t314.length co46) := (blk_cell BK321.out 1).trans rfl
         have hcz109_2 : wc.cell? ⟨gb321, 2, none⟩ = some (.slice Ao47 t317.length co47) := (blk_cell BK321.out 2).trans rfl
         have hfz109_0 := blk_frozen BK321.out 0
         have hfz109_1 := blk_frozen BK321.out 1
         have hfz109_2 := blk_frozen BK321.out 2
         go_wp2_with (first | ((with_reducible refine gate_callee (f := 10) rfl ?_); refine goesL_ (some 71) rfl rfl Try.func10 (by kernel_rfl) rfl #[.agg #[.slice Ao41 t311.length co41, .slice Ao46 t314.length co46, .slice Ao47 t317.length co47], .int .i64 1] rfl ln_ ?_; (with_reducible refine (laws_markRig.calls kj70 (fun k_ => some k_ = (.slice Ao41 t311.length co41 : Value).ownBlock) (.slice Ao41 t311.length co41) t311 (fun k_ => some k_ = (.slice Ao46 t314.length co46 : Value).ownBlock) (.slice Ao46 t314.length co46) t314 (fun k_ => some k_ = (.slice Ao47 t317.length co47 : Value).ownBlock) (.slice Ao47 t317.length co47) t317 1 t338 t339 t340 t341 w _ ?side1 (Kd.R_tight rfl HO_322000.out) (Kd.R_tight rfl HO_322001.out) (Kd.R_tight rfl HO_322002.out) A103.out).mono ?_); (case side1 => repeat (first | (with_reducible first | exact HB.out | apply below_alloc | apply pw_below_drewN | apply below_drew1 | refine below_set ?_ GE279.out | refine below_set ?_ GE300.out | refine below_set ?_ GE310.out | refine below_set ?_ GE321.out) | exact HB.out)); rintro e w110 ⟨rfl, hy0, hy1, hy2, hb, hkp⟩; refine ⟨_, rfl, ?_⟩; replace HO_301000 := ak_ (Kd.R_mono (ok' := fun k_ => some k_ ≠ (.slice Ao33 t334.length co33 : Value).ownBlock ∧ some k_ ≠ (.slice Ao41 t311.length co41 : Value).ownBlock) (Kd.R_keptB ((Kd.R_apart' (Kd.R_apart' HO_301000.out (Kd.R_typed HO_322001.out) (by decide)) (Kd.R_typed HO_322002.out) (by decide))) hkp (fun k_ hk_ hs_ => Or.elim hs_ (fun e_ => (hk_.1.1.2) e_) (fun e_ => Or.elim e_ (fun e_ => (hk_.1.2) e_) (fun e_ => (hk_.2) e_)))) (fun k_ hk_ => ⟨hk_.1.1.1.1, hk_.1.1.1.2⟩)); replace HO_301001 := ak_ (Kd.R_mono (ok' := fun k_ => some k_ ≠ (.slice Ao37 t335.length co37 : Value).ownBlock ∧ some k_ ≠ (.slice Ao46 t314.length co46 : Value).ownBlock) (Kd.R_keptB ((Kd.R_apart' (Kd.R_apart' HO_301001.out (Kd.R_typed HO_322000.out) (by decide)) (Kd.R_typed HO_322002.out) (by decide))) hkp (fun k_ hk_ hs_ => Or.elim hs_ (fun e_ => (hk_.1.2) e_) (fun e_ => Or.elim e_ (fun e_ => (hk_.1.1.2) e_) (fun e_ => (hk_.2) e_)))) (fun k_ hk_ => ⟨hk_.1.1.1.1, hk_.1.1.1.2⟩)); replace HO_301002 := ak_ (Kd.R_mono (ok' := fun k_ => some k_ ≠ (.slice Ao38 t336.length co38 : Value).ownBlock ∧ some k_ ≠ (.slice Ao47 t317.length co47 : Value).ownBlock) (Kd.R_keptB ((Kd.R_apart' (Kd.R_apart' HO_301002.out (Kd.R_typed HO_322000.out) (by decide)) (Kd.R_typed HO_322001.out) (by decide))) hkp (fun k_ hk_ hs_ => Or.elim hs_ (fun e_ => (hk_.1.2) e_) (fun e_ => Or.elim e_ (fun e_ => (hk_.2) e_) (fun e_ => (hk_.1.1.2) e_)))) (fun k_ hk_ => ⟨hk_.1.1.1.1, hk_.1.1.1.2⟩)); replace HO_311000 := ak_ (Kd.R_mono (ok' := fun k_ => some k_ ≠ (.slice Ao25 t290.length co25 : Value).ownBlock ∧ some k_ ≠ (.slice Ao41 t311.length co41 : Value).ownBlock) (Kd.R_keptB ((Kd.R_apart' (Kd.R_apart' HO_311000.out (Kd.R_typed HO_322001.out) (by decide)) (Kd.R_typed HO_322002.out) (by decide))) hkp (fun k_ hk_ hs_ => Or.elim hs_ (fun e_ => (hk_.1.1.2) e_) (fun e_ => Or.elim e_ (fun e_ => (hk_.1.2) e_) (fun e_ => (hk_.2) e_)))) (fun k_ hk_ => ⟨hk_.1.1.1.1, hk_.1.1.1.2⟩)); replace HO_311001 := ak_ (Kd.R_mono (ok' := fun k_ => some k_ ≠ (.slice Ao28 t293.length co28 : Value).ownBlock ∧ some k_ ≠ (.slice Ao46 t314.length co46 : Value).ownBlock) (Kd.R_keptB ((Kd.R_apart' (Kd.R_apart' HO_311001.out (Kd.R_typed HO_322000.out) (by decide)) (Kd.R_typed HO_322002.out) (by decide))) hkp (fun k_ hk_ hs_ => Or.elim hs_ (fun e_ => (hk_.1.2) e_) (fun e_ => Or.elim e_ (fun e_ => (hk_.1.1.2) e_) (fun e_ => (hk_.2) e_)))) (fun k_ hk_ => ⟨hk_.1.1.1.1, hk_.1.1.1.2⟩)); replace HO_311002 := ak_ (Kd.R_mono (ok' := fun k_ => some k_ ≠ (.slice Ao29 t296.length co29 : Value).ownBlock ∧ some k_ ≠ (.slice Ao47 t317.length co47 : Value).ownBlock) (Kd.R_keptB ((Kd.R_apart' (Kd.R_apart' HO_311002.out (Kd.R_typed HO_322000.out) (by decide)) (Kd.R_typed HO_322001.out) (by decide))) hkp (fun k_ hk_ hs_ => Or.elim hs_ (fun e_ => (hk_.1.2) e_) (fun e_ => Or.elim e_ (fun e_ => (hk_.2) e_) (fun e_ => (hk_.1.1.2) e_)))) (fun k_ hk_ => ⟨hk_.1.1.1.1, hk_.1.1.1.2⟩)); replace BK279 := ak_ (blk_kept (bk_ BK279) hkp (fun hs_ => Or.elim hs_ (fun e_ => (fun e_ => (Kd.R_ne HO_322000.out BK279.out (by decide)) e_) e_) (fun e_ => Or.elim e_ (fun e_ => (fun e_ => (Kd.R_ne HO_322001.out BK279.out (by decide)) e_) e_) (fun e_ => (fun e_ => (Kd.R_ne HO_322002.out BK279.out (by decide)) e_) e_)))); replace BK300 := ak_ (blk_kept (bk_ BK300) hkp (fun hs_ => Or.elim hs_ (fun e_ => (fun e_ => (Kd.R_ne HO_322000.out BK300.out (by decide)) e_) e_) (fun e_ => Or.elim e_ (fun e_ => (fun e_ => (Kd.R_ne HO_322001.out BK300.out (by decide)) e_) e_) (fun e_ => (fun e_ => (Kd.R_ne HO_322002.out BK300.out (by decide)) e_) e_)))); replace BK310 := ak_ (blk_kept (bk_ BK310) hkp (fun hs_ => Or.elim hs_ (fun e_ => (fun e_ => (Kd.R_ne HO_322000.out BK310.out (by decide)) e_) e_) (fun e_ => Or.elim e_ (fun e_ => (fun e_ => (Kd.R_ne HO_322001.out BK310.out (by decide)) e_) e_) (fun e_ => (fun e_ => (Kd.R_ne HO_322002.out BK310.out (by decide)) e_) e_)))); replace BK321 := ak_ (blk_kept (bk_ BK321) hkp (fun hs_ => Or.elim hs_ (fun e_ => (fun e_ => (Kd.R_ne HO_322000.out BK321.out (by decide)) e_) e_) (fun e_ => Or.elim e_ (fun e_ => (fun e_ => (Kd.R_ne HO_322001.out BK321.out (by decide)) e_) e_) (fun e_ => (fun e_ => (Kd.R_ne HO_322002.out BK321.out (by decide)) e_) e_)))); replace HO_322000 := ak_ (Kd.R_reok rfl hy0 (fun k_ e_ => HO_322000.out.1 k_ e_)); replace HO_322001 := ak_ (Kd.R_reok rfl hy1 (fun k_ e_ => HO_322001.out.1 k_ e_)); replace HO_322002 := ak_ (Kd.R_reok rfl hy2 (fun k_ e_ => HO_322002.out.1 k_ e_)); replace HB := ak_ (hb); skip; (try clear hb); (try clear hkp); (try clear hy0); (try clear hy1); (try clear hy2); have hcz111_0 : w110.cell? ⟨gb321, 0, none⟩ = some (.slice Ao41 t311.length co41) := (blk_cell BK321.out 0).trans rfl; have hcz111_1 : w110.cell? ⟨gb321, 1, none⟩ = some (.slice Ao46 t314.length co46) := (blk_cell BK321.out 1).trans rfl; have hcz111_2 : w110.cell? ⟨gb321, 2, none⟩ = some (.slice Ao47 t317.length co47) := (blk_cell BK321.out 2).trans rfl; have hfz111_0 := blk_frozen BK321.out 0; have hfz111_1 := blk_frozen BK321.out 1; have hfz111_2 := blk_frozen BK321.out 2) | ((with_reducible refine gate_callee (f := 11) rfl ?_); refine goesL_ (some 74) rfl rfl Try.func11 (by kernel_rfl) rfl #[.agg #[.slice Ao41 t339.length co41, .slice Ao46 t340.length co46, .slice Ao47 t341.length co47], .int .i64 1] rfl (by (try simp only [List.map_toArray, List.map_cons, List.map_nil]); first | done | (rw [show t339.length = t311.length from (Kd.R_reads' HO_322000.out).1.symm, show t340.length = t314.length from (Kd.R_reads' HO_322001.out).1.symm, show t341.length = t317.length from (Kd.R_reads' HO_322002.out).1.symm] <;> rfl) | rfl | (simp only [List.length_drop, List.length_take]; rfl)) ?_; (with_reducible refine (laws_heldRig.calls kj70 _ _ t339 _ _ t340 _ _ t341 1 t342 _ ?side1 ?side2 ?side3 ?side4 ?side5 ?side6 A104.out).mono ?_); (case side1 => repeat (first | exact (Kd.R_reads' HO_322000.out).2.2 | (with_reducible refine Kd.C_alloc ?_ _) | (with_reducible refine Kd.C_drewN ?_ _) | (with_reducible refine Kd.C_drew ?_))); (case side2 => rw [show t339.length = t311.length from (Kd.R_reads' HO_322000.out).1.symm]; exact (Kd.R_reads' HO_322000.out).2.1); (case side3 => repeat (first | exact (Kd.R_reads' HO_322001.out).2.2 | (with_reducible refine Kd.C_alloc ?_ _) | (with_reducible refine Kd.C_drewN ?_ _) | (with_reducible refine Kd.C_drew ?_))); (case side4 => rw [show t340.length = t314.length from (Kd.R_reads' HO_322001.out).1.symm]; exact (Kd.R_reads' HO_322001.out).2.1); (case side5 => repeat (first | exact (Kd.R_reads' HO_322002.out).2.2 | (with_reducible refine Kd.C_alloc ?_ _) | (with_reducible refine Kd.C_drewN ?_ _) | (with_reducible refine Kd.C_drew ?_))); (case side6 => rw [show t341.length = t317.length from (Kd.R_reads' HO_322002.out).1.symm]; exact (Kd.R_reads' HO_322002.out).2.1); rintro e w112 ⟨rfl, hb⟩; refine ⟨_, rfl, ?_⟩; replace HO_301000 := ak_ (Kd.R_below (kr_ HO_301000) hb); replace HO_301001 := ak_ (Kd.R_below (kr_ HO_301001) hb); replace HO_301002 := ak_ (Kd.R_below (kr_ HO_301002) hb); replace HO_311000 := ak_ (Kd.R_below (kr_ HO_311000) hb); replace HO_311001 := ak_ (Kd.R_below (kr_ HO_311001) hb); replace HO_311002 := ak_ (Kd.R_below (kr_ HO_311002) hb); replace HO_322000 := ak_ (Kd.R_below (kr_ HO_322000) hb); replace HO_322001 := ak_ (Kd.R_below (kr_ HO_322001) hb); replace HO_322002 := ak_ (Kd.R_below (kr_ HO_322002) hb); replace BK279 := ak_ (blk_below (g := gb279) (o := .cells #[.slice A0_0 l0_0.length c0_0, .slice A0_1 l0_1.length c0_1, .slice A0_2 l0_2.length c0_2] 26 (0, 0)) (bk_ BK279) hb); replace BK300 := ak_ (blk_below (g := gb300) (o := .cells #[.slice Ao25 t290.length co25, .slice Ao28 t293.length co28, .slice Ao29 t296.length co29] 31 (0, 0)) (bk_ BK300) hb); replace BK310 := ak_ (blk_below (g := gb310) (o := .cells #[.slice Ao33 t334.length co33, .slice Ao37 t335.length co37, .slice Ao38 t336.length co38] 31 (0, 0)) (bk_ BK310) hb); replace BK321 := ak_ (blk_below (g := gb321) (o := .cells #[.slice Ao41 t311.length co41, .slice Ao46 t314.length co46, .slice Ao47 t317.length co47] 31 (0, 0)) (bk_ BK321) hb); replace HB := ak_ (below_step (by repeat (first | (with_reducible first | exact HB.out | apply below_alloc | apply pw_below_drewN | apply below_drew1 | refine below_set ?_ GE279.out | refine below_set ?_ GE300.out | refine below_set ?_ GE310.out | refine below_set ?_ GE321.out) | exact HB.out)) hb); skip; clear hb))
         go_ret
         exact ⟨ew_, by repeat (first | (with_reducible first | exact HB.out | apply below_alloc | apply pw_below_drewN | apply below_drew1 | refine below_set ?_ GE279.out | refine below_set ?_ GE300.out | refine below_set ?_ GE310.out | refine below_set ?_ GE321.out) | exact HB.out)⟩
        ·rw [if_neg c105] at H
         have c105b0 : decide (t342 < 0) = false := decide_eq_false c105
         clear c105
         by_cases c113 : t342 = t338
         ·rw [if_pos c113] at H
          have c113b0 : (t342 == t338) = true := beq_iff_eq.mpr c113
          have c113b1 : (t342 != t338) = false := bne_eq_false_iff_eq.mpr c113
          clear c113
          replace H := ob_ H
          obtain ⟨⟨t343, t346, t349⟩, A1140, H⟩ := H
          (try dsimp only at H)
          have A114 := ak_ A1140
          clear A1140
          replace H := ob_ H
          obtain ⟨⟨t352, t355, t358, t361⟩, A1150, H⟩ := H
          (try dsimp only at H)
          have A115 := ak_ A1150
          clear A1150
          have HC116 := ak_ H
          clear H
          have hnb117 := NB321_279.out
          have hnc117 := NB279_321.out
          have hnb118 := NB321_300.out
          have hnc118 := NB300_321.out
          have hnb119 := NB321_310.out
          have hnc119 := NB310_321.out
          have hcz120_0 : wc.cell? ⟨gb321, 0, none⟩ = some (.slice Ao41 t311.length co41) := (blk_cell BK321.out 0).trans rfl
          have hcz120_1 : wc.cell? ⟨gb321, 1, none⟩ = some (.slice Ao46 t314.length co46) := (blk_cell BK321.out 1).trans rfl
          have hcz120_2 : wc.cell? ⟨gb321, 2, none⟩ = some (.slice Ao47 t317.length co47) := (blk_cell BK321.out 2).trans rfl
          have hfz120_0 := blk_frozen BK321.out 0
          have hfz120_1 := blk_frozen BK321.out 1
          have hfz120_2 := blk_frozen BK321.out 2
          go_upto_region 27 with (first | ((with_reducible refine gate_callee (f := 10) rfl ?_); refine goesL_ (some 71) rfl rfl Try.func10 (by kernel_rfl) rfl #[.agg #[.slice Ao41 t311.length co41, .slice Ao46 t314.length co46, .slice Ao47 t317.length co47], .int .i64 1] rfl ln_ ?_; (with_reducible refine (laws_markRig.calls kj70 (fun k_ => some k_ = (.slice Ao41 t311.length co41 : Value).ownBlock) (.slice Ao41 t311.length co41) t311 (fun k_ => some k_ = (.slice Ao46 t314.length co46 : Value).ownBlock) (.slice Ao46 t314.length co46) t314 (fun k_ => some k_ = (.slice Ao47 t317.length co47 : Value).ownBlock) (.slice Ao47 t317.length co47) t317 1 t338 t339 t340 t341 w _ ?side1 (Kd.R_tight rfl HO_322000.out) (Kd.R_tight rfl HO_322001.out) (Kd.R_tight rfl HO_322002.out) A103.out).mono ?_); (case side1 => repeat (first | (with_reducible first | exact HB.out | apply below_alloc | apply pw_below_drewN | apply below_drew1 | refine below_set ?_ GE279.out | refine below_set ?_ GE300.out | refine below_set ?_ GE310.out | refine below_set ?_ GE321.out) | exact HB.out)); rintro e w121 ⟨rfl, hy0, hy1, hy2, hb, hkp⟩; refine ⟨_, rfl, ?_⟩; replace HO_301000 := ak_ (Kd.R_mono (ok' := fun k_ => some k_ ≠ (.slice Ao33 t334.length co33 : Value).ownBlock ∧ some k_ ≠ (.slice Ao41 t311.length co41 : Value).ownBlock) (Kd.R_keptB ((Kd.R_apart' (Kd.R_apart' HO_301000.out (Kd.R_typed HO_322001.out) (by decide)) (Kd.R_typed HO_322002.out) (by decide))) hkp (fun k_ hk_ hs_ => Or.elim hs_ (fun e_ => (hk_.1.1.2) e_) (fun e_ => Or.elim e_ (fun e_ => (hk_.1.2) e_) (fun e_ => (hk_.2) e_)))) (fun k_ hk_ => ⟨hk_.1.1.1.1, hk_.1.1.1.2⟩)); replace HO_301001 := ak_ (Kd.R_mono (ok' := fun k_ => some k_ ≠ (.slice Ao37 t335.length co37 : Value).ownBlock ∧ some k_ ≠ (.slice Ao46 t314.length co46 : Value).ownBlock) (Kd.R_keptB ((Kd.R_apart' (Kd.R_apart' HO_301001.out (Kd.R_typed HO_322000.out) (by decide)) (Kd.R_typed HO_322002.out) (by decide))) hkp (fun k_ hk_ hs_ => Or.elim hs_ (fun e_ => (hk_.1.2) e_) (fun e_ => Or.elim e_ (fun e_ => (hk_.1.1.2) e_) (fun e_ => (hk_.2) e_)))) (fun k_ hk_ => ⟨hk_.1.1.1.1, hk_.1.1.1.2⟩)); replace HO_301002 := ak_ (Kd.R_mono (ok' := fun k_ => some k_ ≠ (.slice Ao38 t336.length co38 : Value).ownBlock ∧ some k_ ≠ (.slice Ao47 t317.length co47 : Value).ownBlock) (Kd.R_keptB ((Kd.R_apart' (Kd.R_apart' HO_301002.out (Kd.R_typed HO_322000.out) (by decide)) (Kd.R_typed HO_322001.out) (by decide))) hkp (fun k_ hk_ hs_ => Or.elim hs_ (fun e_ => (hk_.1.2) e_) (fun e_ => Or.elim e_ (fun e_ => (hk_.2) e_) (fun e_ => (hk_.1.1.2) e_)))) (fun k_ hk_ => ⟨hk_.1.1.1.1, hk_.1.1.1.2⟩)); replace HO_311000 := ak_ (Kd.R_mono (ok' := fun k_ => some k_ ≠ (.slice Ao25 t290.length co25 : Value).ownBlock ∧ some k_ ≠ (.slice Ao41 t311.length co41 : Value).ownBlock) (Kd.R_keptB ((Kd.R_apart' (Kd.R_apart' HO_311000.out (Kd.R_typed HO_322001.out) (by decide)) (Kd.R_typed HO_322002.out) (by decide))) hkp (fun k_ hk_ hs_ => Or.elim hs_ (fun e_ => (hk_.1.1.2) e_) (fun e_ => Or.elim e_ (fun e_ => (hk_.1.2) e_) (fun e_ => (hk_.2) e_)))) (fun k_ hk_ => ⟨hk_.1.1.1.1, hk_.1.1.1.2⟩)); replace HO_311001 := ak_ (Kd.R_mono (ok' := fun k_ => some k_ ≠ (.slice Ao28 t293.length co28 : Value).ownBlock ∧ some k_ ≠ (.slice Ao46 t314.length co46 : Value).ownBlock) (Kd.R_keptB ((Kd.R_apart' (Kd.R_apart' HO_311001.out (Kd.R_typed HO_322000.out) (by decide)) (Kd.R_typed HO_322002.out) (by decide))) hkp (fun k_ hk_ hs_ => Or.elim hs_ (fun e_ => (hk_.1.2) e_) (fun e_ => Or.elim e_ (fun e_ => (hk_.1.1.2) e_) (fun e_ => (hk_.2) e_)))) (fun k_ hk_ => ⟨hk_.1.1.1.1, hk_.1.1.1.2⟩)); replace HO_311002 := ak_ (Kd.R_mono (ok' := fun k_ => some k_ ≠ (.slice Ao29 t296.length co29 : Value).ownBlock ∧ some k_ ≠ (.slice Ao47 t317.length co47 : Value).ownBlock) (Kd.R_keptB ((Kd.R_apart' (Kd.R_apart' HO_311002.out (Kd.R_typed HO_322000.out) (by decide)) (Kd.R_typed HO_322001.out) (by decide))) hkp (fun k_ hk_ hs_ => Or.elim hs_ (fun e_ => (hk_.1.2) e_) (fun e_ => Or.elim e_ (fun e_ => (hk_.2) e_) (fun e_ => (hk_.1.1.2) e_)))) (fun k_ hk_ => ⟨hk_.1.1.1.1, hk_.1.1.1.2⟩)); replace BK279 := ak_ (blk_kept (bk_ BK279) hkp (fun hs_ => Or.elim hs_ (fun e_ => (fun e_ => (Kd.R_ne HO_322000.out BK279.out (by decide)) e_) e_) (fun e_ => Or.elim e_ (fun e_ => (fun e_ => (Kd.R_ne HO_322001.out BK279.out (by decide)) e_) e_) (fun e_ => (fun e_ => (Kd.R_ne HO_322002.out BK279.out (by decide)) e_) e_)))); replace BK300 := ak_ (blk_kept (bk_ BK300) hkp (fun hs_ => Or.elim hs_ (fun e_ => (fun e_ => (Kd.R_ne HO_322000.out BK300.out (by decide)) e_) e_) (fun e_ => Or.elim e_ (fun e_ => (fun e_ => (Kd.R_ne HO_322001.out BK300.out (by decide)) e_) e_) (fun e_ => (fun e_ => (Kd.R_ne HO_322002.out BK300.out (by decide)) e_) e_)))); replace BK310 := ak_ (blk_kept (bk_ BK310) hkp (fun hs_ => Or.elim hs_ (fun e_ => (fun e_ => (Kd.R_ne HO_322000.out BK310.out (by decide)) e_) e_) (fun e_ => Or.elim e_ (fun e_ => (fun e_ => (Kd.R_ne HO_322001.out BK310.out (by decide)) e_) e_) (fun e_ => (fun e_ => (Kd.R_ne HO_322002.out BK310.out (by decide)) e_) e_)))); replace BK321 := ak_ (blk_kept (bk_ BK321) hkp (fun hs_ => Or.elim hs_ (fun e_ => (fun e_ => (Kd.R_ne HO_322000.out BK321.out (by decide)) e_) e_) (fun e_ => Or.elim e_ (fun e_ => (fun e_ => (Kd.R_ne HO_322001.out BK321.out (by decide)) e_) e_) (fun e_ => (fun e_ => (Kd.R_ne HO_322002.out BK321.out (by decide)) e_) e_)))); replace HO_322000 := ak_ (Kd.R_reok rfl hy0 (fun k_ e_ => HO_322000.out.1 k_ e_)); replace HO_322001 := ak_ (Kd.R_reok rfl hy1 (fun k_ e_ => HO_322001.out.1 k_ e_)); replace HO_322002 := ak_ (Kd.R_reok rfl hy2 (fun k_ e_ => HO_322002.out.1 k_ e_)); replace HB := ak_ (hb); skip; (try clear hb); (try clear hkp); (try clear hy0); (try clear hy1); (try clear hy2); have hcz122_0 : w121.cell? ⟨gb321, 0, none⟩ = some (.slice Ao41 t311.length co41) := (blk_cell BK321.out 0).trans rfl; have hcz122_1 : w121.cell? ⟨gb321, 1, none⟩ = some (.slice Ao46 t314.length co46) := (blk_cell BK321.out 1).trans rfl; have hcz122_2 : w121.cell? ⟨gb321, 2, none⟩ = some (.slice Ao47 t317.length co47) := (blk_cell BK321.out 2).trans rfl; have hfz122_0 := blk_frozen BK321.out 0; have hfz122_1 := blk_frozen BK321.out 1; have hfz122_2 := blk_frozen BK321.out 2) | ((with_reducible refine gate_callee (f := 11) rfl ?_); refine goesL_ (some 74) rfl rfl Try.func11 (by kernel_rfl) rfl #[.agg #[.slice Ao41 t339.length co41, .slice Ao46 t340.length co46, .slice Ao47 t341.length co47], .int .i64 1] rfl (by (try simp only [List.map_toArray, List.map_cons, List.map_nil]); first | done | (rw [show t339.length = t311.length from (Kd.R_reads' HO_322000.out).1.symm, show t340.length = t314.length from (Kd.R_reads' HO_322001.out).1.symm, show t341.length = t317.length from (Kd.R_reads' HO_322002.out).1.symm] <;> rfl) | rfl | (simp only [List.length_drop, List.length_take]; rfl)) ?_; (with_reducible refine (laws_heldRig.calls kj70 _ _ t339 _ _ t340 _ _ t341 1 t342 _ ?side1 ?side2 ?side3 ?side4 ?side5 ?side6 A104.out).mono ?_); (case side1 => repeat (first | exact (Kd.R_reads' HO_322000.out).2.2 | (with_reducible refine Kd.C_alloc ?_ _) | (with_reducible refine Kd.C_drewN ?_ _) | (with_reducible refine Kd.C_drew ?_))); (case side2 => rw [show t339.length = t311.length from (Kd.R_reads' HO_322000.out).1.symm]; exact (Kd.R_reads' HO_322000.out).2.1); (case side3 => repeat (first | exact (Kd.R_reads' HO_322001.out).2.2 | (with_reducible refine Kd.C_alloc ?_ _) | (with_reducible refine Kd.C_drewN ?_ _) | (with_reducible refine Kd.C_drew ?_))); (case side4 => rw [show t340.length = t314.length from (Kd.R_reads' HO_322001.out).1.symm]; exact (Kd.R_reads' HO_322001.out).2.1); (case side5 => repeat (first | exact (Kd.R_reads' HO_322002.out).2.2 | (with_reducible refine Kd.C_alloc ?_ _) | (with_reducible refine Kd.C_drewN ?_ _) | (with_reducible refine Kd.C_drew ?_))); (case side6 => rw [show t341.length = t317.length from (Kd.R_reads' HO_322002.out).1.symm]; exact (Kd.R_reads' HO_322002.out).2.1); rintro e w123 ⟨rfl, hb⟩; refine ⟨_, rfl, ?_⟩; replace HO_301000 := ak_ (Kd.R_below (kr_ HO_301000) hb); replace HO_301001 := ak_ (Kd.R_below (kr_ HO_301001) hb); replace HO_301002 := ak_ (Kd.R_below (kr_ HO_301002) hb); replace HO_311000 := ak_ (Kd.R_below (kr_ HO_311000) hb); replace HO_311001 := ak_ (Kd.R_below (kr_ HO_311001) hb); replace HO_311002 := ak_ (Kd.R_below (kr_ HO_311002) hb); replace HO_322000 := ak_ (Kd.R_below (kr_ HO_322000) hb); replace HO_322001 := ak_ (Kd.R_below (kr_ HO_322001) hb); replace HO_322002 := ak_ (Kd.R_below (kr_ HO_322002) hb); replace BK279 := ak_ (blk_below (g := gb279) (o := .cells #[.slice A0_0 l0_0.length c0_0, .slice A0_1 l0_1.length c0_1, .slice A0_2 l0_2.length c0_2] 26 (0, 0)) (bk_ BK279) hb); replace BK300 := ak_ (blk_below (g := gb300) (o := .cells #[.slice Ao25 t290.length co25, .slice Ao28 t293.length co28, .slice Ao29 t296.length co29] 31 (0, 0)) (bk_ BK300) hb); replace BK310 := ak_ (blk_below (g := gb310) (o := .cells #[.slice Ao33 t334.length co33, .slice Ao37 t335.length co37, .slice Ao38 t336.length co38] 31 (0, 0)) (bk_ BK310) hb); replace BK321 := ak_ (blk_below (g := gb321) (o := .cells #[.slice Ao41 t311.length co41, .slice Ao46 t314.length co46, .slice Ao47 t317.length co47] 31 (0, 0)) (bk_ BK321) hb); replace HB := ak_ (below_step (by repeat (first | (with_reducible first | exact HB.out | apply below_alloc | apply pw_below_drewN | apply below_drew1 | refine below_set ?_ GE279.out | refine below_set ?_ GE300.out | refine below_set ?_ GE310.out | refine below_set ?_ GE321.out) | exact HB.out)) hb); skip; (try clear hb); (try clear hb2); (try clear hk); (try clear hi); have hnb124 := NB279_300.out; have hnc124 := NB300_279.out; have hnb125 := NB279_310.out; have hnc125 := NB310_279.out; have hcz126_0 : w123.cell? ⟨gb279, 0, none⟩ = some (.slice A0_0 l0_0.length c0_0) := (blk_cell BK279.out 0).trans rfl; have hcz126_1 : w123.cell? ⟨gb279, 1, none⟩ = some (.slice A0_1 l0_1.length c0_1) := (blk_cell BK279.out 1).trans rfl; have hcz126_2 : w123.cell? ⟨gb279, 2, none⟩ = some (.slice A0_2 l0_2.length c0_2) := (blk_cell BK279.out 2).trans rfl; have hfz126_0 := blk_frozen BK279.out 0; have hfz126_1 := blk_frozen BK279.out 1; have hfz126_2 := blk_frozen BK279.out 2) | ((with_reducible refine gate_callee (f := 7) rfl ?_); refine goesL_ (some 82) rfl rfl Try.func7 (by kernel_rfl) rfl #[.agg #[.slice A0_0 l0_0.length c0_0, .slice A0_1 l0_1.length c0_1, .slice A0_2 l0_2.length c0_2]] rfl ln_ ?_; (with_reducible refine (laws_toRig.calls kj70 _ _ l0_0 _ _ l0_1 _ _ l0_2 t343 t346 t349 _ (kc_ (Kd.C_below HR0_0.out HB.out)) HC0_0.out (kc_ (Kd.C_below HR0_1.out HB.out)) HC0_1.out (kc_ (Kd.C_below HR0_2.out HB.out)) HC0_2.out A114.out).mono ?_); rintro e w127 ⟨v344, v347, v350, rfl, ho0, ho1, ho2, hb⟩; refine ⟨_, rfl, ?_⟩; have HO345 := ak_ (Kd.R_lower (Kd.R_new' (Kd.R_new' (Kd.R_new' ho0 (Kd.R_lt (kr_ HO_301000))) (Kd.R_lt (kr_ HO_311000))) (Kd.R_lt (kr_ HO_322000))) (below_size (by repeat (first | (with_reducible first | exact HB.out | apply below_alloc | apply pw_below_drewN | apply below_drew1 | refine below_set ?_ GE279.out | refine below_set ?_ GE300.out | refine below_set ?_ GE310.out | refine below_set ?_ GE321.out) | exact HB.out)))); replace HO_301000 := ak_ (Kd.R_elder' (kr_ HO_301000) (Kd.R_base ho0) hb); replace HO_311000 := ak_ (Kd.R_elder' (kr_ HO_311000) (Kd.R_base ho0) hb); replace HO_322000 := ak_ (Kd.R_elder' (kr_ HO_322000) (Kd.R_base ho0) hb); have HO348 := ak_ (Kd.R_lower (Kd.R_new' (Kd.R_new' (Kd.R_new' ho1 (Kd.R_lt (kr_ HO_301001))) (Kd.R_lt (kr_ HO_311001))) (Kd.R_lt (kr_ HO_322001))) (below_size (by repeat (first | (with_reducible first | exact HB.out | apply below_alloc | apply pw_below_drewN | apply below_drew1 | refine below_set ?_ GE279.out | refine below_set ?_ GE300.out | refine below_set ?_ GE310.out | refine below_set ?_ GE321.out) | exact HB.out)))); replace HO_301001 := ak_ (Kd.R_elder' (kr_ HO_301001) (Kd.R_base ho1) hb); replace HO_311001 := ak_ (Kd.R_elder' (kr_ HO_311001) (Kd.R_base ho1) hb); replace HO_322001 := ak_ (Kd.R_elder' (kr_ HO_322001) (Kd.R_base ho1) hb); have HO351 := ak_ (Kd.R_lower (Kd.R_new' (Kd.R_new' (Kd.R_new' ho2 (Kd.R_lt (kr_ HO_301002))) (Kd.R_lt (kr_ HO_311002))) (Kd.R_lt (kr_ HO_322002))) (below_size (by repeat (first | (with_reducible first | exact HB.out | apply below_alloc | apply pw_below_drewN | apply below_drew1 | refine below_set ?_ GE279.out | refine below_set ?_ GE300.out | refine below_set ?_ GE310.out | refine below_set ?_ GE321.out) | exact HB.out)))); replace HO_301002 := ak_ (Kd.R_elder' (kr_ HO_301002) (Kd.R_base ho2) hb); replace HO_311002 := ak_ (Kd.R_elder' (kr_ HO_311002) (Kd.R_base ho2) hb); replace HO_322002 := ak_ (Kd.R_elder' (kr_ HO_322002) (Kd.R_base ho2) hb); replace BK279 := ak_ (blk_below (g := gb279) (o := .cells #[.slice A0_0 l0_0.length c0_0, .slice A0_1 l0_1.length c0_1, .slice A0_2 l0_2.length c0_2] 26 (0, 0)) (bk_ BK279) hb); replace BK300 := ak_ (blk_below (g := gb300) (o := .cells #[.slice Ao25 t290.length co25, .slice Ao28 t293.length co28, .slice Ao29 t296.length co29] 31 (0, 0)) (bk_ BK300) hb); replace BK310 := ak_ (blk_below (g := gb310) (o := .cells #[.slice Ao33 t334.length co33, .slice Ao37 t335.length co37, .slice Ao38 t336.length co38] 31 (0, 0)) (bk_ BK310) hb); replace BK321 := ak_ (blk_below (g := gb321) (o := .cells #[.slice Ao41 t311.length co41, .slice Ao46 t314.length co46, .slice Ao47 t317.length co47] 31 (0, 0)) (bk_ BK321) hb); replace HB := ak_ (below_step (by repeat (first | (with_reducible first | exact HB.out | apply below_alloc | apply pw_below_drewN | apply below_drew1 | refine below_set ?_ GE279.out | refine below_set ?_ GE300.out | refine below_set ?_ GE310.out | refine below_set ?_ GE321.out) | exact HB.out)) hb); skip; (try clear hb); (try clear hb2); (try clear hk); (try clear hi); (try clear ho0); (try clear ho1); (try clear ho2); obtain ⟨Ao128, co128, eo128⟩ := Kd.R_slice HO345.out; subst eo128; obtain ⟨Ao129, co129, eo129⟩ := Kd.R_slice HO348.out; subst eo129; obtain ⟨Ao130, co130, eo130⟩ := Kd.R_slice HO351.out; subst eo130) | ((with_reducible refine gate_callee (f := 8) rfl ?_); refine goesL_ (some 84) rfl rfl Try.func8 (by kernel_rfl) rfl #[.agg #[.slice Ao128 t343.length co128, .slice Ao129 t346.length co129, .slice Ao130 t349.length co130], .string a1] rfl ln_ ?_; (with_reducible refine (impl_CastOff.calls kj70 _ _ t343 _ _ t346 _ _ t349 a1 t352 t355 t358 t361 _ ?side1 ((Kd.R_reads' HO345.out).2.1) ?side3 ((Kd.R_reads' HO348.out).2.1) ?side5 ((Kd.R_reads' HO351.out).2.1) A115.out).mono ?_); (case side1 => repeat (first | exact (Kd.R_reads' HO345.out).2.2 | (with_reducible refine Kd.C_alloc ?_ _) | (with_reducible refine Kd.C_drewN ?_ _) | (with_reducible refine Kd.C_drew ?_))); (case side3 => repeat (first | exact (Kd.R_reads' HO348.out).2.2 | (with_reducible refine Kd.C_alloc ?_ _) | (with_reducible refine Kd.C_drewN ?_ _) | (with_reducible refine Kd.C_drew ?_))); (case side5 => repeat (first | exact (Kd.R_reads' HO351.out).2.2 | (with_reducible refine Kd.C_alloc ?_ _) | (with_reducible refine Kd.C_drewN ?_ _) | (with_reducible refine Kd.C_drew ?_))); rintro e w131 ⟨v353, v356, v359, rfl, ho0, ho1, ho2, hb⟩; refine ⟨_, rfl, ?_⟩; have HO354 := ak_ (Kd.R_lower (Kd.R_new' (Kd.R_new' (Kd.R_new' (Kd.R_new' ho0 (Kd.R_lt (kr_ HO_301000))) (Kd.R_lt (kr_ HO_311000))) (Kd.R_lt (kr_ HO_322000))) (Kd.R_lt (kr_ HO345))) (below_size (by repeat (first | (with_reducible first | exact HB.out | apply below_alloc | apply pw_below_drewN | apply below_drew1 | refine below_set ?_ GE279.out | refine below_set ?_ GE300.out | refine below_set ?_ GE310.out | refine below_set ?_ GE321.out) | exact HB.out)))); replace HO_301000 := ak_ (Kd.R_elder' (kr_ HO_301000) (Kd.R_base ho0) hb); replace HO_311000 := ak_ (Kd.R_elder' (kr_ HO_311000) (Kd.R_base ho0) hb); replace HO_322000 := ak_ (Kd.R_elder' (kr_ HO_322000) (Kd.R_base ho0) hb); replace HO345 := ak_ (Kd.R_elder' (kr_ HO345) (Kd.R_base ho0) hb); have HO357 := ak_ (Kd.R_lower (Kd.R_new' (Kd.R_new' (Kd.R_new' (Kd.R_new' ho1 (Kd.R_lt (kr_ HO_301001))) (Kd.R_lt (kr_ HO_311001))) (Kd.R_lt (kr_ HO_322001))) (Kd.R_lt (kr_ HO348))) (below_size (by repeat (first | (with_reducible first | exact HB.out | apply below_alloc | apply pw_below_drewN | apply below_drew1 | refine below_set ?_ GE279.out | refine below_set ?_ GE300.out | refine below_set ?_ GE310.out | refine below_set ?_ GE321.out) | exact HB.out)))); replace HO_301001 := ak_ (Kd.R_elder' (kr_ HO_301001) (Kd.R_base ho1) hb); replace HO_311001 := ak_ (Kd.R_elder' (kr_ HO_311001) (Kd.R_base ho1) hb); replace HO_322001 := ak_ (Kd.R_elder' (kr_ HO_322001) (Kd.R_base ho1) hb); replace HO348 := ak_ (Kd.R_elder' (kr_ HO348) (Kd.R_base ho1) hb); have HO360 := ak_ (Kd.R_lower (Kd.R_new' (Kd.R_new' (Kd.R_new' (Kd.R_new' ho2 (Kd.R_lt (kr_ HO_301002))) (Kd.R_lt (kr_ HO_311002))) (Kd.R_lt (kr_ HO_322002))) (Kd.R_lt (kr_ HO351))) (below_size (by repeat (first | (with_reducible first | exact HB.out | apply below_alloc | apply pw_below_drewN | apply below_drew1 | refine below_set ?_ GE279.out | refine below_set ?_ GE300.out | refine below_set ?_ GE310.out | refine below_set ?_ GE321.out) | exact HB.out)))); replace HO_301002 := ak_ (Kd.R_elder' (kr_ HO_301002) (Kd.R_base ho2) hb); replace HO_311002 := ak_ (Kd.R_elder' (kr_ HO_311002) (Kd.R_base ho2) hb); replace HO_322002 := ak_ (Kd.R_elder' (kr_ HO_322002) (Kd.R_base ho2) hb); replace HO351 := ak_ (Kd.R_elder' (kr_ HO351) (Kd.R_base ho2) hb); replace BK279 := ak_ (blk_below (g := gb279) (o := .cells #[.slice A0_0 l0_0.length c0_0, .slice A0_1 l0_1.length c0_1, .slice A0_2 l0_2.length c0_2] 26 (0, 0)) (bk_ BK279) hb); replace BK300 := ak_ (blk_below (g := gb300) (o := .cells #[.slice Ao25 t290.length co25, .slice Ao28 t293.length co28, .slice Ao29 t296.length co29] 31 (0, 0)) (bk_ BK300) hb); replace BK310 := ak_ (blk_below (g := gb310) (o := .cells #[.slice Ao33 t334.length co33, .slice Ao37 t335.length co37, .slice Ao38 t336.length co38] 31 (0, 0)) (bk_ BK310) hb); replace BK321 := ak_ (blk_below (g := gb321) (o := .cells #[.slice Ao41 t311.length co41, .slice Ao46 t314.length co46, .slice Ao47 t317.length co47] 31 (0, 0)) (bk_ BK321) hb); replace HB := ak_ (below_step (by repeat (first | (with_reducible first | exact HB.out | apply below_alloc | apply pw_below_drewN | apply below_drew1 | refine below_set ?_ GE279.out | refine below_set ?_ GE300.out | refine below_set ?_ GE310.out | refine below_set ?_ GE321.out) | exact HB.out)) hb); skip; clear hb ho0 ho1 ho2) | ((with_reducible refine gate_dst (N := 14) rfl ?_); refine box_event ?hg (N := 14) ?hd (cs := #[.slice none 0 0, .slice none 0 0, .slice none 0 0]) (t := 31) ?hr ?_; (case hd => rfl); (case hg => rfl); (case hr => first | (go_simp; done) | (go_simp; rfl)); intro gb362 hg w132 hbox hb; replace HO_301000 := ak_ (Kd.R_below (kr_ HO_301000) hb); replace HO_301001 := ak_ (Kd.R_below (kr_ HO_301001) hb); replace HO_301002 := ak_ (Kd.R_below (kr_ HO_301002) hb); replace HO_311000 := ak_ (Kd.R_below (kr_ HO_311000) hb); replace HO_311001 := ak_ (Kd.R_below (kr_ HO_311001) hb); replace HO_311002 := ak_ (Kd.R_below (kr_ HO_311002) hb); replace HO_322000 := ak_ (Kd.R_below (kr_ HO_322000) hb); replace HO_322001 := ak_ (Kd.R_below (kr_ HO_322001) hb); replace HO_322002 := ak_ (Kd.R_below (kr_ HO_322002) hb); replace HO345 := ak_ (Kd.R_below (kr_ HO345) hb); replace HO348 := ak_ (Kd.R_below (kr_ HO348) hb); replace HO351 := ak_ (Kd.R_below (kr_ HO351) hb); replace HO354 := ak_ (Kd.R_below (kr_ HO354) hb); replace HO357 := ak_ (Kd.R_below (kr_ HO357) hb); replace HO360 := ak_ (Kd.R_below (kr_ HO360) hb); have BK362 := ak_ (hbox); have GW362 := ak_ ((by rw [hg]; exact (below_size (by repeat (first | (with_reducible first | exact HB.out | apply below_alloc | apply pw_below_drewN | apply below_drew1 | refine below_set ?_ GE279.out | refine below_set ?_ GE300.out | refine below_set ?_ GE310.out | refine below_set ?_ GE321.out) | exact HB.out))) : w.heap.size ≤ gb362)); have GE362 := ak_ ((by rw [hg]; exact (below_size (by repeat (first | (with_reducible first | exact HB.out | apply below_alloc | apply pw_below_drewN | apply below_drew1 | refine below_set ?_ GE279.out | refine below_set ?_ GE300.out | refine below_set ?_ GE310.out | refine below_set ?_ GE321.out) | exact HB.out))) : w.heap.size ≤ gb362)); replace HB := ak_ (below_step (by repeat (first | (with_reducible first | exact HB.out | apply below_alloc | apply pw_below_drewN | apply below_drew1 | refine below_set ?_ GE279.out | refine below_set ?_ GE300.out | refine below_set ?_ GE310.out | refine below_set ?_ GE321.out) | exact HB.out)) hb); have NB279_362 := ak_ ((by rw [hg]; exact Nat.ne_of_lt (blk_lt (g := gb279) (o := .cells #[.slice A0_0 l0_0.length c0_0, .slice A0_1 l0_1.length c0_1, .slice A0_2 l0_2.length c0_2] 26 (0, 0)) (bk_ BK279)) : gb279 ≠ gb362)); have NB362_279 := ak_ ((by rw [hg]; exact Nat.ne_of_gt (blk_lt (g := gb279) (o := .cells #[.slice A0_0 l0_0.length c0_0, .slice A0_1 l0_1.length c0_1, .slice A0_2 l0_2.length c0_2] 26 (0, 0)) (bk_ BK279)) : gb362 ≠ gb279)); replace BK279 := ak_ (blk_below (g := gb279) (o := .cells #[.slice A0_0 l0_0.length c0_0, .slice A0_1 l0_1.length c0_1, .slice A0_2 l0_2.length c0_2] 26 (0, 0)) (bk_ BK279) hb); have NB300_362 := ak_ ((by rw [hg]; exact Nat.ne_of_lt (blk_lt (g := gb300) (o := .cells #[.slice Ao25 t290.length co25, .slice Ao28 t293.length co28, .slice Ao29 t296.length co29] 31 (0, 0)) (bk_ BK300)) : gb300 ≠ gb362)); have NB362_300 := ak_ ((by rw [hg]; exact Nat.ne_of_gt (blk_lt (g := gb300) (o := .cells #[.slice Ao25 t290.length co25, .slice Ao28 t293.length co28, .slice Ao29 t296.length co29] 31 (0, 0)) (bk_ BK300)) : gb362 ≠ gb300)); replace BK300 := ak_ (blk_below (g := gb300) (o := .cells #[.slice Ao25 t290.length co25, .slice Ao28 t293.length co28, .slice Ao29 t296.length co29] 31 (0, 0)) (bk_ BK300) hb); have NB310_362 := ak_ ((by rw [hg]; exact Nat.ne_of_lt (blk_lt (g := gb310) (o := .cells #[.slice Ao33 t334.length co33, .slice Ao37 t335.length co37, .slice Ao38 t336.length co38] 31 (0, 0)) (bk_ BK310)) : gb310 ≠ gb362)); have NB362_310 := ak_ ((by rw [hg]; exact Nat.ne_of_gt (blk_lt (g := gb310) (o := .cells #[.slice Ao33 t334.length co33, .slice Ao37 t335.length co37, .slice Ao38 t336.length co38] 31 (0, 0)) (bk_ BK310)) : gb362 ≠ gb310)); replace BK310 := ak_ (blk_below (g := gb310) (o := .cells #[.slice Ao33 t334.length co33, .slice Ao37 t335.length co37, .slice Ao38 t336.length co38] 31 (0, 0)) (bk_ BK310) hb); have NB321_362 := ak_ ((by rw [hg]; exact Nat.ne_of_lt (blk_lt (g := gb321) (o := .cells #[.slice Ao41 t311.length co41, .slice Ao46 t314.length co46, .slice Ao47 t317.length co47] 31 (0, 0)) (bk_ BK321)) : gb321 ≠ gb362)); have NB362_321 := ak_ ((by rw [hg]; exact Nat.ne_of_gt (blk_lt (g := gb321) (o := .cells #[.slice Ao41 t311.length co41, .slice Ao46 t314.length co46, .slice Ao47 t317.length co47] 31 (0, 0)) (bk_ BK321)) : gb362 ≠ gb321)); replace BK321 := ak_ (blk_below (g := gb321) (o := .cells #[.slice Ao41 t311.length co41, .slice Ao46 t314.length co46, .slice Ao47 t317.length co47] 31 (0, 0)) (bk_ BK321) hb); skip; clear hb hbox hg; obtain ⟨Ao133, co133, eo133⟩ := Kd.R_slice HO354.out; subst eo133; have hnb134 := NB362_279.out; have hnc134 := NB279_362.out; have hnb135 := NB362_300.out; have hnc135 := NB300_362.out; have hnb136 := NB362_310.out; have hnc136 := NB310_362.out; have hnb137 := NB362_321.out; have hnc137 := NB321_362.out; have hcz138_0 : w132.cell? ⟨gb362, 0, none⟩ = some (.slice none 0 0) := (blk_cell BK362.out 0).trans rfl; have hcz138_1 : w132.cell? ⟨gb362, 1, none⟩ = some (.slice none 0 0) := (blk_cell BK362.out 1).trans rfl; have hcz138_2 : w132.cell? ⟨gb362, 2, none⟩ = some (.slice none 0 0) := (blk_cell BK362.out 2).trans rfl; have hfz138_0 := blk_frozen BK362.out 0; have hfz138_1 := blk_frozen BK362.out 1; have hfz138_2 := blk_frozen BK362.out 2; obtain ⟨Ao139, co139, eo139⟩ := Kd.R_slice HO357.out; subst eo139; obtain ⟨Ao140, co140, eo140⟩ := Kd.R_slice HO360.out; subst eo140))
          (try simp only [Act.put, List.setIfInBounds_toArray, List.set_cons_zero, List.set_cons_succ])
          go_cut [95] (fun v95 wc => ∃ (kq : Nat) (x95_115 : Bool), v95 = .bool x95_115 ∧ Aside0 (laws_FnExactCastOff.j2 kq t338 x95_115 t339 t340 t341 = some r) ∧ Aside0 (kq ≤ kj70) ∧ Aside0 (Kd.R k91 91 wc w.heap.size (fun k_ => some k_ ≠ ((.slice Ao33 t334.length co33) : Value).ownBlock ∧ some k_ ≠ ((.slice Ao41 t311.length co41) : Value).ownBlock ∧ some k_ ≠ ((.slice Ao133 t352.length co133) : Value).ownBlock) (.slice Ao25 t290.length co25) t290) ∧ Aside0 (Kd.R Kd.string 9 wc w.heap.size (fun k_ => some k_ ≠ ((.slice Ao37 t335.length co37) : Value).ownBlock ∧ some k_ ≠ ((.slice Ao46 t314.length co46) : Value).ownBlock ∧ some k_ ≠ ((.slice Ao139 t355.length co139) : Value).ownBlock) (.slice Ao28 t293.length co28) t293) ∧ Aside0 (Kd.R k41 41 wc w.heap.size (fun k_ => some k_ ≠ ((.slice Ao38 t336.length co38) : Value).ownBlock ∧ some k_ ≠ ((.slice Ao47 t317.length co47) : Value).ownBlock ∧ some k_ ≠ ((.slice Ao140 t358.length co140) : Value).ownBlock) (.slice Ao29 t296.length co29) t296) ∧ Aside0 (Kd.R k91 91 wc w.heap.size (fun k_ => some k_ ≠ ((.slice Ao25 t290.length co25) : Value).ownBlock ∧ some k_ ≠ ((.slice Ao41 t311.length co41) : Value).ownBlock ∧ some k_ ≠ ((.slice Ao133 t352.length co133) : Value).ownBlock) (.slice Ao33 t334.length co33) t334) ∧ Aside0 (Kd.R Kd.string 9 wc w.heap.size (fun k_ => some k_ ≠ ((.slice Ao28 t293.length co28) : Value).ownBlock ∧ some k_ ≠ ((.slice Ao46 t314.length co46) : Value).ownBlock ∧ some k_ ≠ ((.slice Ao139 t355.length co139) : Value).ownBlock) (.slice Ao37 t335.length co37) t335) ∧ Aside0 (Kd.R k41 41 wc w.heap.size (fun k_ => some k_ ≠ ((.slice Ao29 t296.length co29) : Value).ownBlock ∧ some k_ ≠ ((.slice Ao47 t317.length co47) : Value).ownBlock ∧ some k_ ≠ ((.slice Ao140 t358.length co140) : Value).ownBlock) (.slice Ao38 t336.length co38) t336) ∧ Aside0 (Kd.R k91 91 wc w.heap.size (fun k_ => some k_ ≠ ((.slice Ao25 t290.length co25) : Value).ownBlock ∧ some k_ ≠ ((.slice Ao33 t334.length co33) : Value).ownBlock ∧ some k_ ≠ ((.slice Ao133 t352.length co133) : Value).ownBlock) (.slice Ao41 t311.length co41) t339) ∧ Aside0 (Kd.R Kd.string 9 wc w.heap.size (fun k_ => some k_ ≠ ((.slice Ao28 t293.length co28) : Value).ownBlock ∧ some k_ ≠ ((.slice Ao37 t335.length co37) : Value).ownBlock ∧ some k_ ≠ ((.slice Ao139 t355.length co139) : Value).ownBlock) (.slice Ao46 t314.length co46) t340) ∧ Aside0 (Kd.R k41 41 wc w.heap.size (fun k_ => some k_ ≠ ((.slice Ao29 t296.length co29) : Value).ownBlock ∧ some k_ ≠ ((.slice Ao38 t336.length co38) : Value).ownBlock ∧ some k_ ≠ ((.slice Ao140 t358.length co140) : Value).ownBlock) (.slice Ao47 t317.length co47) t341) ∧ Aside0 (Kd.R k91 91 wc w.heap.size (fun k_ => some k_ ≠ ((.slice Ao25 t290.length co25) : Value).ownBlock ∧ some k_ ≠ ((.slice Ao33 t334.length co33) : Value).ownBlock ∧ some k_ ≠ ((.slice Ao41 t311.length co41) : Value).ownBlock) (.slice Ao133 t352.length co133) t352) ∧ Aside0 (Kd.R Kd.string 9 wc w.heap.size (fun k_ => some k_ ≠ ((.slice Ao28 t293.length co28) : Value).ownBlock ∧ some k_ ≠ ((.slice Ao37 t335.length co37) : Value).ownBlock ∧ some k_ ≠ ((.slice Ao46 t314.length co46) : Value).ownBlock) (.slice Ao139 t355.length co139) t355) ∧ Aside0 (Kd.R k41 41 wc w.heap.size (fun k_ => some k_ ≠ ((.slice Ao29 t296.length co29) : Value).ownBlock ∧ some k_ ≠ ((.slice Ao38 t336.length co38) : Value).ownBlock ∧ some k_ ≠ ((.slice Ao47 t317.length co47) : Value).ownBlock) (.slice Ao140 t358.length co140) t358) ∧ Aside0 (wc.heap[gb279]? = some (.cells #[(.slice A0_0 l0_0.length c0_0), (.slice A0_1 l0_1.length c0_1), (.slice A0_2 l0_2.length c0_2)] 26 (0, 0))) ∧ Aside0 (wc.heap[gb300]? = some (.cells #[(.slice Ao25 t290.length co25), (.slice Ao28 t293.length co28), (.slice Ao29 t296.length co29)] 31 (0, 0))) ∧ Aside0 (wc.heap[gb310]? = some (.cells #[(.slice Ao33 t334.length co33), (.slice Ao37 t335.length co37), (.slice Ao38 t336.length co38)] 31 (0, 0))) ∧ Aside0 (wc.heap[gb321]? = some (.cells #[(.slice Ao41 t311.length co41), (.slice Ao46 t314.length co46), (.slice Ao47 t317.length co47)] 31 (0, 0))) ∧ Aside0 (wc.heap[gb362]? = some (.cells #[(.slice Ao133 t352.length co133), (.slice Ao139 t355.length co139), (.slice Ao140 t358.length co140)] 31 (0, 0))) ∧ Aside0 (Below w.heap.size w wc))
          case first =>
           have H := HC116.out
           clear HC116
           replace H := ob_ H
           obtain ⟨t363, A1410, H⟩ := H
           (try dsimp only at H)
           have A141 := ak_ A1410
           clear A1410
           by_cases c142 : t363 = true
           ·subst c142
            have H1 : (laws_FnExactCastOff.j2 kj70 t338 (t361 != t299) t339 t340 t341) = some r := by rw [if_pos rfl] at H; exact H
            clear H
            have H := H1
            clear H1
            have H' := ak_ H
            clear H
            have hnb143 := NB362_279.out
            have hnc143 := NB279_362.out
            have hnb144 := NB362_300.out
            have hnc144 := NB300_362.out
            have hnb145 := NB362_310.out
            have hnc145 := NB310_362.out
            have hnb146 := NB362_321.out
            have hnc146 := NB321_362.out
            have hcz147_0 : w132.cell? ⟨gb362, 0, none⟩ = some (.slice none 0 0) := (blk_cell BK362.out 0).trans rfl
            have hcz147_1 : w132.cell? ⟨gb362, 1, none⟩ = some (.slice none 0 0) := (blk_cell BK362.out 1).trans rfl
            have hcz147_2 : w132.cell? ⟨gb362, 2, none⟩ = some (.slice none 0 0) := (blk_cell BK362.out 2).trans rfl
            have hfz147_0 := blk_frozen BK362.out 0
            have hfz147_1 := blk_frozen BK362.out 1
            have hfz147_2 := blk_frozen BK362.out 2
            have hnb148 := NB300_279.out
            have hnc148 := NB279_300.out
            have hnb149 := NB300_310.out
            have hnc149 := NB310_300.out
            have hnb150 := NB300_321.out
            have hnc150 := NB321_300.out
            have hcz151_0 : w132.cell? ⟨gb300, 0, none⟩ = some (.slice Ao25 t290.length co25) := (blk_cell BK300.out 0).trans rfl
            have hcz151_1 : w132.cell? ⟨gb300, 1, none⟩ = some (.slice Ao28 t293.length co28) := (blk_cell BK300.out 1).trans rfl
            have hcz151_2 : w132.cell? ⟨gb300, 2, none⟩ = some (.slice Ao29 t296.length co29) := (blk_cell BK300.out 2).trans rfl
            have hfz151_0 := blk_frozen BK300.out 0
            have hfz151_1 := blk_frozen BK300.out 1
            have hfz151_2 := blk_frozen BK300.out 2
            go_wp2_with (first | ((with_reducible refine gate_callee (f := 9) rfl ?_); refine goesL_ (some 89) rfl rfl Try.func9 (by kernel_rfl) rfl #[.agg #[.slice Ao133 t352.length co133, .slice Ao139 t355.length co139, .slice Ao140 t358.length co140], .agg #[.slice Ao25 t290.length co25, .slice Ao28 t293.length co28, .slice Ao29 t296.length co29]] rfl ln_ ?_; (with_reducible refine (laws_eqRig.calls kj70 _ _ t352 _ _ t355 _ _ t358 _ _ t290 _ _ t293 _ _ t296 true _ ?side1 ?side2 ?side3 ?side4 ?side5 ?side6 ?side7 ?side8 ?side9 ?side10 ?side11 ?side12 A141.out).mono ?_); (case side1 => refine (Kd.R_reads' (e := 91) (base := w.heap.size) (ok := fun k_ => ((((True ∧ some k_ ≠ (.slice Ao25 t290.length co25 : Value).ownBlock) ∧ some k_ ≠ (.slice Ao33 t334.length co33 : Value).ownBlock) ∧ some k_ ≠ (.slice Ao41 t311.length co41 : Value).ownBlock) ∧ some k_ ≠ (.slice Ao128 t343.length co128 : Value).ownBlock)) (n := t352.length) (c := co133) ?_).2.2; exact (by (with_reducible repeat (first | apply Kd.R_alloc | apply Kd.R_drewN | apply Kd.R_drew)); exact (Kd.R_mono (Kd.R_far (p := ⟨gb362, 2, none⟩) (Kd.R_far (p := ⟨gb362, 1, none⟩) (Kd.R_far (p := ⟨gb362, 0, none⟩) (Kd.R_types HO354.out BK362.out (by decide)) (fun _ hk => hk.2) (.slice Ao133 t352.length co133)) (fun _ hk => hk.2) (.slice Ao139 t355.length co139)) (fun _ hk => hk.2) (.slice Ao140 t358.length co140)) (fun _ h_ => h_.1)))); (case side2 => exact (Kd.R_reads' HO354.out).2.1); (case side3 => refine (Kd.R_reads' (e := 9) (base := w.heap.size) (ok := fun k_ => ((((True ∧ some k_ ≠ (.slice Ao28 t293.length co28 : Value).ownBlock) ∧ some k_ ≠ (.slice Ao37 t335.length co37 : Value).ownBlock) ∧ some k_ ≠ (.slice Ao46 t314.length co46 : Value).ownBlock) ∧ some k_ ≠ (.slice Ao129 t346.length co129 : Value).ownBlock)) (n := t355.length) (c := co139) ?_).2.2; exact (by (with_reducible repeat (first | apply Kd.R_alloc | apply Kd.R_drewN | apply Kd.R_drew)); exact (Kd.R_mono (Kd.R_far (p := ⟨gb362, 2, none⟩) (Kd.R_far (p := ⟨gb362, 1, none⟩) (Kd.R_far (p := ⟨gb362, 0, none⟩) (Kd.R_types HO357.out BK362.out (by decide)) (fun _ hk => hk.2) (.slice Ao133 t352.length co133)) (fun _ hk => hk.2) (.slice Ao139 t355.length co139)) (fun _ hk => hk.2) (.slice Ao140 t358.length co140)) (fun _ h_ => h_.1)))); (case side4 => exact (Kd.R_reads' HO357.out).2.1); (case side5 => refine (Kd.R_reads' (e := 41) (base := w.heap.size) (ok := fun k_ => ((((True ∧ some k_ ≠ (.slice Ao29 t296.length co29 : Value).ownBlock) ∧ some k_ ≠ (.slice Ao38 t336.length co38 : Value).ownBlock) ∧ some k_ ≠ (.slice Ao47 t317.length co47 : Value).ownBlock) ∧ some k_ ≠ (.slice Ao130 t349.length co130 : Value).ownBlock)) (n := t358.length) (c := co140) ?_).2.2; exact (by (with_reducible repeat (first | apply Kd.R_alloc | apply Kd.R_drewN | apply Kd.R_drew)); exact (Kd.R_mono (Kd.R_far (p := ⟨gb362, 2, none⟩) (Kd.R_far (p := ⟨gb362, 1, none⟩) (Kd.R_far (p := ⟨gb362, 0, none⟩) (Kd.R_types HO360.out BK362.out (by decide)) (fun _ hk => hk.2) (.slice Ao133 t352.length co133)) (fun _ hk => hk.2) (.slice Ao139 t355.length co139)) (fun _ hk => hk.2) (.slice Ao140 t358.length co140)) (fun _ h_ => h_.1)))); (case side6 => exact (Kd.R_reads' HO360.out).2.1); (case side7 => refine (Kd.R_reads' (e := 91) (base := w.heap.size) (ok := fun k_ => (((some k_ ≠ (.slice Ao33 t334.length co33 : Value).ownBlock ∧ some k_ ≠ (.slice Ao41 t311.length co41 : Value).ownBlock) ∧ some k_ ≠ (.slice Ao128 t343.length co128 : Value).ownBlock) ∧ some k_ ≠ (.slice Ao133 t352.length co133 : Value).ownBlock)) (n := t290.length) (c := co25) ?_).2.2; exact (by (with_reducible repeat (first | apply Kd.R_alloc | apply Kd.R_drewN | apply Kd.R_drew)); exact (Kd.R_mono (Kd.R_far (p := ⟨gb362, 2, none⟩) (Kd.R_far (p := ⟨gb362, 1, none⟩) (Kd.R_far (p := ⟨gb362, 0, none⟩) (Kd.R_types HO_301000.out BK362.out (by decide)) (fun _ hk => hk.2) (.slice Ao133 t352.length co133)) (fun _ hk => hk.2) (.slice Ao139 t355.length co139)) (fun _ hk => hk.2) (.slice Ao140 t358.length co140)) (fun _ h_ => h_.1)))); (case side8 => exact (Kd.R_reads' HO_301000.out).2.1); (case side9 => refine (Kd.R_reads' (e := 9) (base := w.heap.size) (ok := fun k_ => (((some k_ ≠ (.slice Ao37 t335.length co37 : Value).ownBlock ∧ some k_ ≠ (.slice Ao46 t314.length co46 : Value).ownBlock) ∧ some k_ ≠ (.slice Ao129 t346.length co129 : Value).ownBlock) ∧ some k_ ≠ (.slice Ao139 t355.length co139 : Value).ownBlock)) (n := t293.length) (c := co28) ?_).2.2; exact (by (with_reducible repeat (first | apply Kd.R_alloc | apply Kd.R_drewN | apply Kd.R_drew)); exact (Kd.R_mono (Kd.R_far (p := ⟨gb362, 2, none⟩) (Kd.R_far (p := ⟨gb362, 1, none⟩) (Kd.R_far (p := ⟨gb362, 0, none⟩) (Kd.R_types HO_301001.out BK362.out (by decide)) (fun _ hk => hk.2) (.slice Ao133 t352.length co133)) (fun _ hk => hk.2) (.slice Ao139 t355.length co139)) (fun _ hk => hk.2) (.slice Ao140 t358.length co140)) (fun _ h_ => h_.1)))); (case side10 => exact (Kd.R_reads' HO_301001.out).2.1); (case side11 => refine (Kd.R_reads' (e := 41) (base := w.heap.size) (ok := fun k_ => (((some k_ ≠ (.slice Ao38 t336.length co38 : Value).ownBlock ∧ some k_ ≠ (.slice Ao47 t317.length co47 : Value).ownBlock) ∧ some k_ ≠ (.slice Ao130 t349.length co130 : Value).ownBlock) ∧ some k_ ≠ (.slice Ao140 t358.length co140 : Value).ownBlock)) (n := t296.length) (c := co29) ?_).2.2; exact (by (with_reducible repeat (first | apply Kd.R_alloc | apply Kd.R_drewN | apply Kd.R_drew)); exact (Kd.R_mono (Kd.R_far (p := ⟨gb362, 2, none⟩) (Kd.R_far (p := ⟨gb362, 1, none⟩) (Kd.R_far (p := ⟨gb362, 0, none⟩) (Kd.R_types HO_301002.out BK362.out (by decide)) (fun _ hk => hk.2) (.slice Ao133 t352.length co133)) (fun _ hk => hk.2) (.slice Ao139 t355.length co139)) (fun _ hk => hk.2) (.slice Ao140 t358.length co140)) (fun _ h_ => h_.1)))); (case side12 => exact (Kd.R_reads' HO_301002.out).2.1); rintro e w152 ⟨rfl, hb⟩; refine ⟨_, rfl, ?_⟩; replace HO_301000 := ak_ (Kd.R_below (by (with_reducible repeat (first | apply Kd.R_alloc | apply Kd.R_drewN | apply Kd.R_drew)); exact (Kd.R_mono (Kd.R_far (p := ⟨gb362, 2, none⟩) (Kd.R_far (p := ⟨gb362, 1, none⟩) (Kd.R_far (p := ⟨gb362, 0, none⟩) (Kd.R_types HO_301000.out BK362.out (by decide)) (fun _ hk => hk.2) (.slice Ao133 t352.length co133)) (fun _ hk => hk.2) (.slice Ao139 t355.length co139)) (fun _ hk => hk.2) (.slice Ao140 t358.length co140)) (fun _ h_ => h_.1))) hb); replace HO_301001 := ak_ (Kd.R_below (by (with_reducible repeat (first | apply Kd.R_alloc | apply Kd.R_drewN | apply Kd.R_drew)); exact (Kd.R_mono (Kd.R_far (p := ⟨gb362, 2, none⟩) (Kd.R_far (p := ⟨gb362, 1, none⟩) (Kd.R_far (p := ⟨gb362, 0, none⟩) (Kd.R_types HO_301001.out BK362.out (by decide)) (fun _ hk => hk.2) (.slice Ao133 t352.length co133)) (fun _ hk => hk.2) (.slice Ao139 t355.length co139)) (fun _ hk => hk.2) (.slice Ao140 t358.length co140)) (fun _ h_ => h_.1))) hb); replace HO_301002 := ak_ (Kd.R_below (by (with_reducible repeat (first | apply Kd.R_alloc | apply Kd.R_drewN | apply Kd.R_drew)); exact (Kd.R_mono (Kd.R_far (p := ⟨gb362, 2, none⟩) (Kd.R_far (p := ⟨gb362, 1, none⟩) (Kd.R_far (p := ⟨gb362, 0, none⟩) (Kd.R_types HO_301002.out BK362.out (by decide)) (fun _ hk => hk.2) (.slice Ao133 t352.length co133)) (fun _ hk => hk.2) (.slice Ao139 t355.length co139)) (fun _ hk => hk.2) (.slice Ao140 t358.length co140)) (fun _ h_ => h_.1))) hb); replace HO_311000 := ak_ (Kd.R_below (by (with_reducible repeat (first | apply Kd.R_alloc | apply Kd.R_drewN | apply Kd.R_drew)); exact (Kd.R_mono (Kd.R_far (p := ⟨gb362, 2, none⟩) (Kd.R_far (p := ⟨gb362, 1, none⟩) (Kd.R_far (p := ⟨gb362, 0, none⟩) (Kd.R_types HO_311000.out BK362.out (by decide)) (fun _ hk => hk.2) (.slice Ao133 t352.length co133)) (fun _ hk => hk.2) (.slice Ao139 t355.length co139)) (fun _ hk => hk.2) (.slice Ao140 t358.length co140)) (fun _ h_ => h_.1))) hb); replace HO_311001 := ak_ (Kd.R_below (by (with_reducible repeat (first | apply Kd.R_alloc | apply Kd.R_drewN | apply Kd.R_drew)); exact (Kd.R_mono (Kd.R_far (p := ⟨gb362, 2, none⟩) (Kd.R_far (p := ⟨gb362, 1, none⟩) (Kd.R_far (p := ⟨gb362, 0, none⟩) (Kd.R_types HO_311001.out BK362.out (by decide)) (fun _ hk => hk.2) (.slice Ao133 t352.length co133)) (fun _ hk => hk.2) (.slice Ao139 t355.length co139)) (fun _ hk => hk.2) (.slice Ao140 t358.length co140)) (fun _ h_ => h_.1))) hb); replace HO_311002 := ak_ (Kd.R_below (by (with_reducible repeat (first | apply Kd.R_alloc | apply Kd.R_drewN | apply Kd.R_drew)); exact (Kd.R_mono (Kd.R_far (p := ⟨gb362, 2, none⟩) (Kd.R_far (p := ⟨gb362, 1, none⟩) (Kd.R_far (p := ⟨gb362, 0, none⟩) (Kd.R_types HO_311002.out BK362.out (by decide)) (fun _ hk => hk.2) (.slice Ao133 t352.length co133)) (fun _ hk => hk.2) (.slice Ao139 t355.length co139)) (fun _ hk => hk.2) (.slice Ao140 t358.length co140)) (fun _ h_ => h_.1))) hb); replace HO_322000 := ak_ (Kd.R_below (by (with_reducible repeat (first | apply Kd.R_alloc | apply Kd.R_drewN | apply Kd.R_drew)); exact (Kd.R_mono (Kd.R_far (p := ⟨gb362, 2, none⟩) (Kd.R_far (p := ⟨gb362, 1, none⟩) (Kd.R_far (p := ⟨gb362, 0, none⟩) (Kd.R_types HO_322000.out BK362.out (by decide)) (fun _ hk => hk.2) (.slice Ao133 t352.length co133)) (fun _ hk => hk.2) (.slice Ao139 t355.length co139)) (fun _ hk => hk.2) (.slice Ao140 t358.length co140)) (fun _ h_ => h_.1))) hb); replace HO_322001 := ak_ (Kd.R_below (by (with_reducible repeat (first | apply Kd.R_alloc | apply Kd.R_drewN | apply Kd.R_drew)); exact (Kd.R_mono (Kd.R_far (p := ⟨gb362, 2, none⟩) (Kd.R_far (p := ⟨gb362, 1, none⟩) (Kd.R_far (p := ⟨gb362, 0, none⟩) (Kd.R_types HO_322001.out BK362.out (by decide)) (fun _ hk => hk.2) (.slice Ao133 t352.length co133)) (fun _ hk => hk.2) (.slice Ao139 t355.length co139)) (fun _ hk => hk.2) (.slice Ao140 t358.length co140)) (fun _ h_ => h_.1))) hb); replace HO_322002 := ak_ (Kd.R_below (by (with_reducible repeat (first | apply Kd.R_alloc | apply Kd.R_drewN | apply Kd.R_drew)); exact (Kd.R_mono (Kd.R_far (p := ⟨gb362, 2, none⟩) (Kd.R_far (p := ⟨gb362, 1, none⟩) (Kd.R_far (p := ⟨gb362, 0, none⟩) (Kd.R_types HO_322002.out BK362.out (by decide)) (fun _ hk => hk.2) (.slice Ao133 t352.length co133)) (fun _ hk => hk.2) (.slice Ao139 t355.length co139)) (fun _ hk => hk.2) (.slice Ao140 t358.length co140)) (fun _ h_ => h_.1))) hb); replace HO345 := ak_ (Kd.R_below (by (with_reducible repeat (first | apply Kd.R_alloc | apply Kd.R_drewN | apply Kd.R_drew)); exact (Kd.R_mono (Kd.R_far (p := ⟨gb362, 2, none⟩) (Kd.R_far (p := ⟨gb362, 1, none⟩) (Kd.R_far (p := ⟨gb362, 0, none⟩) (Kd.R_types HO345.out BK362.out (by decide)) (fun _ hk => hk.2) (.slice Ao133 t352.length co133)) (fun _ hk => hk.2) (.slice Ao139 t355.length co139)) (fun _ hk => hk.2) (.slice Ao140 t358.length co140)) (fun _ h_ => h_.1))) hb); replace HO348 := ak_ (Kd.R_below (by (with_reducible repeat (first | apply Kd.R_alloc | apply Kd.R_drewN | apply Kd.R_drew)); exact (Kd.R_mono (Kd.R_far (p := ⟨gb362, 2, none⟩) (Kd.R_far (p := ⟨gb362, 1, none⟩) (Kd.R_far (p := ⟨gb362, 0, none⟩) (Kd.R_types HO348.out BK362.out (by decide)) (fun _ hk => hk.2) (.slice Ao133 t352.length co133)) (fun _ hk => hk.2) (.slice Ao139 t355.length co139)) (fun _ hk => hk.2) (.slice Ao140 t358.length co140)) (fun _ h_ => h_.1))) hb); replace HO351 := ak_ (Kd.R_below (by (with_reducible repeat (first | apply Kd.R_alloc | apply Kd.R_drewN | apply Kd.R_drew)); exact (Kd.R_mono (Kd.R_far (p := ⟨gb362, 2, none⟩) (Kd.R_far (p := ⟨gb362, 1, none⟩) (Kd.R_far (p := ⟨gb362, 0, none⟩) (Kd.R_types HO351.out BK362.out (by decide)) (fun _ hk => hk.2) (.slice Ao133 t352.length co133)) (fun _ hk => hk.2) (.slice Ao139 t355.length co139)) (fun _ hk => hk.2) (.slice Ao140 t358.length co140)) (fun _ h_ => h_.1))) hb); replace HO354 := ak_ (Kd.R_below (by (with_reducible repeat (first | apply Kd.R_alloc | apply Kd.R_drewN | apply Kd.R_drew)); exact (Kd.R_mono (Kd.R_far (p := ⟨gb362, 2, none⟩) (Kd.R_far (p := ⟨gb362, 1, none⟩) (Kd.R_far (p := ⟨gb362, 0, none⟩) (Kd.R_types HO354.out BK362.out (by decide)) (fun _ hk => hk.2) (.slice Ao133 t352.length co133)) (fun _ hk => hk.2) (.slice Ao139 t355.length co139)) (fun _ hk => hk.2) (.slice Ao140 t358.length co140)) (fun _ h_ => h_.1))) hb); replace HO357 := ak_ (Kd.R_below (by (with_reducible repeat (first | apply Kd.R_alloc | apply Kd.R_drewN | apply Kd.R_drew)); exact (Kd.R_mono (Kd.R_far (p := ⟨gb362, 2, none⟩) (Kd.R_far (p := ⟨gb362, 1, none⟩) (Kd.R_far (p := ⟨gb362, 0, none⟩) (Kd.R_types HO357.out BK362.out (by decide)) (fun _ hk => hk.2) (.slice Ao133 t352.length co133)) (fun _ hk => hk.2) (.slice Ao139 t355.length co139)) (fun _ hk => hk.2) (.slice Ao140 t358.length co140)) (fun _ h_ => h_.1))) hb); replace HO360 := ak_ (Kd.R_below (by (with_reducible repeat (first | apply Kd.R_alloc | apply Kd.R_drewN | apply Kd.R_drew)); exact (Kd.R_mono (Kd.R_far (p := ⟨gb362, 2, none⟩) (Kd.R_far (p := ⟨gb362, 1, none⟩) (Kd.R_far (p := ⟨gb362, 0, none⟩) (Kd.R_types HO360.out BK362.out (by decide)) (fun _ hk => hk.2) (.slice Ao133 t352.length co133)) (fun _ hk => hk.2) (.slice Ao139 t355.length co139)) (fun _ hk => hk.2) (.slice Ao140 t358.length co140)) (fun _ h_ => h_.1))) hb); replace BK279 := ak_ (blk_below (g := gb279) (o := .cells #[.slice A0_0 l0_0.length c0_0, .slice A0_1 l0_1.length c0_1, .slice A0_2 l0_2.length c0_2] 26 (0, 0)) (by (with_reducible repeat (first | refine blk_drewN ?_ _ | refine blk_drew ?_ | refine blk_alloc ?_ _)); refine blk_far ?_ NB279_362.out _; (with_reducible repeat (first | refine blk_drewN ?_ _ | refine blk_drew ?_ | refine blk_alloc ?_ _)); refine blk_far ?_ NB279_362.out _; (with_reducible repeat (first | refine blk_drewN ?_ _ | refine blk_drew ?_ | refine blk_alloc ?_ _)); refine blk_far ?_ NB279_362.out _; (with_reducible repeat (first | refine blk_drewN ?_ _ | refine blk_drew ?_ | refine blk_alloc ?_ _)); exact BK279.out) hb); replace BK300 := ak_ (blk_below (g := gb300) (o := .cells #[.slice Ao25 t290.length co25, .slice Ao28 t293.length co28, .slice Ao29 t296.length co29] 31 (0, 0)) (by (with_reducible repeat (first | refine blk_drewN ?_ _ | refine blk_drew ?_ | refine blk_alloc ?_ _)); refine blk_far ?_ NB300_362.out _; (with_reducible repeat (first | refine blk_drewN ?_ _ | refine blk_drew ?_ | refine blk_alloc ?_ _)); refine blk_far ?_ NB300_362.out _; (with_reducible repeat (first | refine blk_drewN ?_ _ | refine blk_drew ?_ | refine blk_alloc ?_ _)); refine blk_far ?_ NB300_362.out _; (with_reducible repeat (first | refine blk_drewN ?_ _ | refine blk_drew ?_ | refine blk_alloc ?_ _)); exact BK300.out) hb); replace BK310 := ak_ (blk_below (g := gb310) (o := .cells #[.slice Ao33 t334.length co33, .slice Ao37 t335.length co37, .slice Ao38 t336.length co38] 31 (0, 0)) (by (with_reducible repeat (first | refine blk_drewN ?_ _ | refine blk_drew ?_ | refine blk_alloc ?_ _)); refine blk_far ?_ NB310_362.out _; (with_reducible repeat (first | refine blk_drewN ?_ _ | refine blk_drew ?_ | refine blk_alloc ?_ _)); refine blk_far ?_ NB310_362.out _; (with_reducible repeat (first | refine blk_drewN ?_ _ | refine blk_drew ?_ | refine blk_alloc ?_ _)); refine blk_far ?_ NB310_362.out _; (with_reducible repeat (first | refine blk_drewN ?_ _ | refine blk_drew ?_ | refine blk_alloc ?_ _)); exact BK310.out) hb); replace BK321 := ak_ (blk_below (g := gb321) (o := .cells #[.slice Ao41 t311.length co41, .slice Ao46 t314.length co46, .slice Ao47 t317.length co47] 31 (0, 0)) (by (with_reducible repeat (first | refine blk_drewN ?_ _ | refine blk_drew ?_ | refine blk_alloc ?_ _)); refine blk_far ?_ NB321_362.out _; (with_reducible repeat (first | refine blk_drewN ?_ _ | refine blk_drew ?_ | refine blk_alloc ?_ _)); refine blk_far ?_ NB321_362.out _; (with_reducible repeat (first | refine blk_drewN ?_ _ | refine blk_drew ?_ | refine blk_alloc ?_ _)); refine blk_far ?_ NB321_362.out _; (with_reducible repeat (first | refine blk_drewN ?_ _ | refine blk_drew ?_ | refine blk_alloc ?_ _)); exact BK321.out) hb); replace BK362 := ak_ (blk_below (g := gb362) (o := .cells #[.slice Ao133 t352.length co133, .slice Ao139 t355.length co139, .slice Ao140 t358.length co140] 31 (0, 0)) (by (with_reducible repeat (first | refine blk_drewN ?_ _ | refine blk_drew ?_ | refine blk_alloc ?_ _)); refine blk_put (cs := #[.slice Ao133 t352.length co133, .slice Ao139 t355.length co139, .slice none 0 0]) ?_ 2 _ rfl; (with_reducible repeat (first | refine blk_drewN ?_ _ | refine blk_drew ?_ | refine blk_alloc ?_ _)); refine blk_put (cs := #[.slice Ao133 t352.length co133, .slice none 0 0, .slice none 0 0]) ?_ 1 _ rfl; (with_reducible repeat (first | refine blk_drewN ?_ _ | refine blk_drew ?_ | refine blk_alloc ?_ _)); refine blk_put (cs := #[.slice none 0 0, .slice none 0 0, .slice none 0 0]) ?_ 0 _ rfl; (with_reducible repeat (first | refine blk_drewN ?_ _ | refine blk_drew ?_ | refine blk_alloc ?_ _)); exact BK362.out) hb); replace HB := ak_ (below_step (by repeat (first | (with_reducible first | exact HB.out | apply below_alloc | apply pw_below_drewN | apply below_drew1 | refine below_set ?_ GE279.out | refine below_set ?_ GE300.out | refine below_set ?_ GE310.out | refine below_set ?_ GE321.out | refine below_set ?_ GE362.out) | exact HB.out)) hb); skip; clear hb))
            go_meet
            case rel => exact ⟨_, ((t361 != t299)), fr_, H', ⟨by have := HJ13.out; have := HJ70.out; first | omega | exact Nat.le_refl _⟩, ⟨by (try simp only [hl311000_70]); (try simp only [hl311001_70]); (try simp only [hl311002_70]); (with_reducible repeat (first | apply Kd.R_alloc | apply Kd.R_drewN | apply Kd.R_drew)); exact Kd.R_mono HO_301000.out (fun _ hk => ⟨hk.1.1.1, ⟨hk.1.1.2, hk.2⟩⟩)⟩, ⟨by (try simp only [hl311000_70]); (try simp only [hl311001_70]); (try simp only [hl311002_70]); (with_reducible repeat (first | apply Kd.R_alloc | apply Kd.R_drewN | apply Kd.R_drew)); exact Kd.R_mono HO_301001.out (fun _ hk => ⟨hk.1.1.1, ⟨hk.1.1.2, hk.2⟩⟩)⟩, ⟨by (try simp only [hl311000_70]); (try simp only [hl311001_70]); (try simp only [hl311002_70]); (with_reducible repeat (first | apply Kd.R_alloc | apply Kd.R_drewN | apply Kd.R_drew)); exact Kd.R_mono HO_301002.out (fun _ hk => ⟨hk.1.1.1, ⟨hk.1.1.2, hk.2⟩⟩)⟩, ⟨by (try simp only [hl311000_70]); (try simp only [hl311001_70]); (try simp only [hl311002_70]); (with_reducible repeat (first | apply Kd.R_alloc | apply Kd.R_drewN | apply Kd.R_drew)); exact Kd.R_mono HO_311000.out (fun _ hk => ⟨hk.1.1.1, ⟨hk.1.1.2, hk.2⟩⟩)⟩, ⟨by (try simp only [hl311000_70]); (try simp only [hl311001_70]); (try simp only [hl311002_70]); (with_reducible repeat (first | apply Kd.R_alloc | apply Kd.R_drewN | apply Kd.R_drew)); exact Kd.R_mono HO_311001.out (fun _ hk => ⟨hk.1.1.1, ⟨hk.1.1.2, hk.2⟩⟩)⟩, ⟨by (try simp only [hl311000_70]); (try simp only [hl311001_70]); (try simp only [hl311002_70]); (with_reducible repeat (first | apply Kd.R_alloc | apply Kd.R_drewN | apply Kd.R_drew)); exact Kd.R_mono HO_311002.out (fun _ hk => ⟨hk.1.1.1, ⟨hk.1.1.2, hk.2⟩⟩)⟩, ⟨by (try simp only [hl311000_70]); (try simp only [hl311001_70]); (try simp only [hl311002_70]); (with_reducible repeat (first | apply Kd.R_alloc | apply Kd.R_drewN | apply Kd.R_drew)); exact Kd.R_mono HO_322000.out (fun _ hk => ⟨hk.1.1.1, ⟨hk.1.1.2, hk.2⟩⟩)⟩, ⟨by (try simp only [hl311000_70]); (try simp only [hl311001_70]); (try simp only [hl311002_70]); (with_reducible repeat (first | apply Kd.R_alloc | apply Kd.R_drewN | apply Kd.R_drew)); exact Kd.R_mono HO_322001.out (fun _ hk => ⟨hk.1.1.1, ⟨hk.1.1.2, hk.2⟩⟩)⟩, ⟨by (try simp only [hl311000_70]); (try simp only [hl311001_70]); (try simp only [hl311002_70]); (with_reducible repeat (first | apply Kd.R_alloc | apply Kd.R_drewN | apply Kd.R_drew)); exact Kd.R_mono HO_322002.out (fun _ hk => ⟨hk.1.1.1, ⟨hk.1.1.2, hk.2⟩⟩)⟩, ⟨by (try simp only [hl311000_70]); (try simp only [hl311001_70]); (try simp only [hl311002_70]); (with_reducible repeat (first | apply Kd.R_alloc | apply Kd.R_drewN | apply Kd.R_drew)); exact Kd.R_mono HO354.out (fun _ hk => ⟨hk.1.1.1.2, ⟨hk.1.1.2, hk.1.2⟩⟩)⟩, ⟨by (try simp only [hl311000_70]); (try simp only [hl311001_70]); (try simp only [hl311002_70]); (with_reducible repeat (first | apply Kd.R_alloc | apply Kd.R_drewN | apply Kd.R_drew)); exact Kd.R_mono HO357.out (fun _ hk => ⟨hk.1.1.1.2, ⟨hk.1.1.2, hk.1.2⟩⟩)⟩, ⟨by (try simp only [hl311000_70]); (try simp only [hl311001_70]); (try simp only [hl311002_70]); (with_reducible repeat (first | apply Kd.R_alloc | apply Kd.R_drewN | apply Kd.R_drew)); exact Kd.R_mono HO360.out (fun _ hk => ⟨hk.1.1.1.2, ⟨hk.1.1.2, hk.1.2⟩⟩)⟩, ⟨by (try simp only [hl311000_70]); (try simp only [hl311001_70]); (try simp only [hl311002_70]); (with_reducible repeat (first | refine blk_drewN ?_ _ | refine blk_drew ?_ | refine blk_alloc ?_ _)); exact BK279.out⟩, ⟨by (try simp only [hl311000_70]); (try simp only [hl311001_70]); (try simp only [hl311002_70]); (with_reducible repeat (first | refine blk_drewN ?_ _ | refine blk_drew ?_ | refine blk_alloc ?_ _)); exact BK300.out⟩, ⟨by (try simp only [hl311000_70]); (try simp only [hl311001_70]); (try simp only [hl311002_70]); (with_reducible repeat (first | refine blk_drewN ?_ _ | refine blk_drew ?_ | refine blk_alloc ?_ _)); exact BK310.out⟩, ⟨by (try simp only [hl311000_70]); (try simp only [hl311001_70]); (try simp only [hl311002_70]); (with_reducible repeat (first | refine blk_drewN ?_ _ | refine blk_drew ?_ | refine blk_alloc ?_ _)); exact BK321.out⟩, ⟨by (try simp only [hl311000_70]); (try simp only [hl311001_70]); (try simp only [hl311002_70]); (with_reducible repeat (first | refine blk_drewN ?_ _ | refine blk_drew ?_ | refine blk_alloc ?_ _)); exact BK362.out⟩, ⟨by repeat (first | (with_reducible first | exact HB.out | apply below_alloc | apply pw_below_drewN | apply below_drew1 | refine below_set ?_ GE279.out | refine below_set ?_ GE300.out | refine below_set ?_ GE310.out | refine below_set ?_ GE321.out | refine below_set ?_ GE362.out) | exact HB.out)⟩⟩
           ·replace c142 := Bool.eq_false_iff.mpr c142
            subst c142
            have H1 : (laws_FnExactCastOff.j2 kj70 t338 true t339 t340 t341) = some r := by rw [if_neg (show ¬ (false = true) by decide)] at H; exact H
            clear H
            have H := H1
            clear H1
            have H' := ak_ H
            clear H
            have hnb153 := NB362_279.out
            have hnc153 := NB279_362.out
            have hnb154 := NB362_300.out
            have hnc154 := NB300_362.out
            have hnb155 := NB362_310.out
            have hnc155 := NB310_362.out
            have hnb156 := NB362_321.out
            have hnc156 := NB321_362.out
            have hcz157_0 : w132.cell? ⟨gb362, 0, none⟩ = some (.slice none 0 0) := (blk_cell BK362.out 0).trans rfl
            have hcz157_1 : w132.cell? ⟨gb362, 1, none⟩ = some (.slice none 0 0) := (blk_cell BK362.out 1).trans rfl
            have hcz157_2 : w132.cell? ⟨gb362, 2, none⟩ = some (.slice none 0 0) := (blk_cell BK362.out 2).trans rfl
            have hfz157_0 := blk_frozen BK362.out 0
            have hfz157_1 := blk_frozen BK362.out 1
            have hfz157_2 := blk_frozen BK362.out 2
            have hnb158 := NB300_279.out
            have hnc158 := NB279_300.out
            have hnb159 := NB300_310.out
            have hnc159 := NB310_300.out
            have hnb160 := NB300_321.out
            have hnc160 := NB321_300.out
            have hcz161_0 : w132.cell? ⟨gb300, 0, none⟩ = some (.slice Ao25 t290.length co25) := (blk_cell BK300.out 0).trans rfl
            have hcz161_1 : w132.cell? ⟨gb300, 1, none⟩ = some (.slice Ao28 t293.length co28) := (blk_cell BK300.out 1).trans rfl
            have hcz161_2 : w132.cell? ⟨gb300, 2, none⟩ = some (.slice Ao29 t296.length co29) := (blk_cell BK300.out 2).trans rfl
            have hfz161_0 := blk_frozen BK300.out 0
            have hfz161_1 := blk_frozen BK300.out 1
            have hfz161_2 := blk_frozen BK300.out 2
            go_wp2_with (first | ((with_reducible refine gate_callee (f := 9) rfl ?_); refine goesL_ (some 89) rfl rfl Try.func9 (by kernel_rfl) rfl #[.agg #[.slice Ao133 t352.length co133, .slice Ao139 t355.length co139, .slice Ao140 t358.length co140], .agg #[.slice Ao25 t290.length co25, .slice Ao28 t293.length co28, .slice Ao29 t296.length co29]] rfl ln_ ?_; (with_reducible refine (laws_eqRig.calls kj70 _ _ t352 _ _ t355 _ _ t358 _ _ t290 _ _ t293 _ _ t296 false _ ?side1 ?side2 ?side3 ?side4 ?side5 ?side6 ?side7 ?side8 ?side9 ?side10 ?side11 ?side12 A141.out).mono ?_); (case side1 => refine (Kd.R_reads' (e := 91) (base := w.heap.size) (ok := fun k_ => ((((True ∧ some k_ ≠ (.slice Ao25 t290.length co25 : Value).ownBlock) ∧ some k_ ≠ (.slice Ao33 t334.length co33 : Value).ownBlock) ∧ some k_ ≠ (.slice Ao41 t311.length co41 : Value).ownBlock) ∧ some k_ ≠ (.slice Ao128 t343.length co128 : Value).ownBlock)) (n := t352.length) (c := co133) ?_).2.2; exact (by (with_reducible repeat (first | apply Kd.R_alloc | apply Kd.R_drewN | apply Kd.R_drew)); exact (Kd.R_mono (Kd.R_far (p := ⟨gb362, 2, none⟩) (Kd.R_far (p := ⟨gb362, 1, none⟩) (Kd.R_far (p := ⟨gb362, 0, none⟩) (Kd.R_types HO354.out BK362.out (by decide)) (fun _ hk => hk.2) (.slice Ao133 t352.length co133)) (fun _ hk => hk.2) (.slice Ao139 t355.length co139)) (fun _ hk => hk.2) (.slice Ao140 t358.length co140)) (fun _ h_ => h_.1)))); (case side2 => exact (Kd.R_reads' HO354.out).2.1); (case side3 => refine (Kd.R_reads' (e := 9) (base := w.heap.size) (ok := fun k_ => ((((True ∧ some k_ ≠ (.slice Ao28 t293.length co28 : Value).ownBlock) ∧ some k_ ≠ (.slice Ao37 t335.length co37 : Value).ownBlock) ∧ some k_ ≠ (.slice Ao46 t314.length co46 : Value).ownBlock) ∧ some k_ ≠ (.slice Ao129 t346.length co129 : Value).ownBlock)) (n := t355.length) (c := co139) ?_).2.2; exact (by (with_reducible repeat (first | apply Kd.R_alloc | apply Kd.R_drewN | apply Kd.R_drew)); exact (Kd.R_mono (Kd.R_far (p := ⟨gb362, 2, none⟩) (Kd.R_far (p := ⟨gb362, 1, none⟩) (Kd.R_far (p := ⟨gb362, 0, none⟩) (Kd.R_types HO357.out BK362.out (by decide)) (fun _ hk => hk.2) (.slice Ao133 t352.length co133)) (fun _ hk => hk.2) (.slice Ao139 t355.length co139)) (fun _ hk => hk.2) (.slice Ao140 t358.length co140)) (fun _ h_ => h_.1)))); (case side4 => exact (Kd.R_reads' HO357.out).2.1); (case side5 => refine (Kd.R_reads' (e := 41) (base := w.heap.size) (ok := fun k_ => ((((True ∧ some k_ ≠ (.slice Ao29 t296.length co29 : Value).ownBlock) ∧ some k_ ≠ (.slice Ao38 t336.length co38 : Value).ownBlock) ∧ some k_ ≠ (.slice Ao47 t317.length co47 : Value).ownBlock) ∧ some k_ ≠ (.slice Ao130 t349.length co130 : Value).ownBlock)) (n := t358.length) (c := co140) ?_).2.2; exact (by (with_reducible repeat (first | apply Kd.R_alloc | apply Kd.R_drewN | apply Kd.R_drew)); exact (Kd.R_mono (Kd.R_far (p := ⟨gb362, 2, none⟩) (Kd.R_far (p := ⟨gb362, 1, none⟩) (Kd.R_far (p := ⟨gb362, 0, none⟩) (Kd.R_types HO360.out BK362.out (by decide)) (fun _ hk => hk.2) (.slice Ao133 t352.length co133)) (fun _ hk => hk.2) (.slice Ao139 t355.length co139)) (fun _ hk => hk.2) (.slice Ao140 t358.length co140)) (fun _ h_ => h_.1)))); (case side6 => exact (Kd.R_reads' HO360.out).2.1); (case side7 => refine (Kd.R_reads' (e := 91) (base := w.heap.size) (ok := fun k_ => (((some k_ ≠ (.slice Ao33 t334.length co33 : Value).ownBlock ∧ some k_ ≠ (.slice Ao41 t311.length co41 : Value).ownBlock) ∧ some k_ ≠ (.slice Ao128 t343.length co128 : Value).ownBlock) ∧ some k_ ≠ (.slice Ao133 t352.length co133 : Value).ownBlock)) (n := t290.length) (c := co25) ?_).2.2; exact (by (with_reducible repeat (first | apply Kd.R_alloc | apply Kd.R_drewN | apply Kd.R_drew)); exact (Kd.R_mono (Kd.R_far (p := ⟨gb362, 2, none⟩) (Kd.R_far (p := ⟨gb362, 1, none⟩) (Kd.R_far (p := ⟨gb362, 0, none⟩) (Kd.R_types HO_301000.out BK362.out (by decide)) (fun _ hk => hk.2) (.slice Ao133 t352.length co133)) (fun _ hk => hk.2) (.slice Ao139 t355.length co139)) (fun _ hk => hk.2) (.slice Ao140 t358.length co140)) (fun _ h_ => h_.1)))); (case side8 => exact (Kd.R_reads' HO_301000.out).2.1); (case side9 => refine (Kd.R_reads' (e := 9) (base := w.heap.size) (ok := fun k_ => (((some k_ ≠ (.slice Ao37 t335.length co37 : Value).ownBlock ∧ some k_ ≠ (.slice Ao46 t314.length co46 : Value).ownBlock) ∧ some k_ ≠ (.slice Ao129 t346.length co129 : Value).ownBlock) ∧ some k_ ≠ (.slice Ao139 t355.length co139 : Value).ownBlock)) (n := t293.length) (c := co28) ?_).2.2; exact (by (with_reducible repeat (first | apply Kd.R_alloc | apply Kd.R_drewN | apply Kd.R_drew)); exact (Kd.R_mono (Kd.R_far (p := ⟨gb362, 2, none⟩) (Kd.R_far (p := ⟨gb362, 1, none⟩) (Kd.R_far (p := ⟨gb362, 0, none⟩) (Kd.R_types HO_301001.out BK362.out (by decide)) (fun _ hk => hk.2) (.slice Ao133 t352.length co133)) (fun _ hk => hk.2) (.slice Ao139 t355.length co139)) (fun _ hk => hk.2) (.slice Ao140 t358.length co140)) (fun _ h_ => h_.1)))); (case side10 => exact (Kd.R_reads' HO_301001.out).2.1); (case side11 => refine (Kd.R_reads' (e := 41) (base := w.heap.size) (ok := fun k_ => (((some k_ ≠ (.slice Ao38 t336.length co38 : Value).ownBlock ∧ some k_ ≠ (.slice Ao47 t317.length co47 : Value).ownBlock) ∧ some k_ ≠ (.slice Ao130 t349.length co130 : Value).ownBlock) ∧ some k_ ≠ (.slice Ao140 t358.length co140 : Value).ownBlock)) (n := t296.length) (c := co29) ?_).2.2; exact (by (with_reducible repeat (first | apply Kd.R_alloc | apply Kd.R_drewN | apply Kd.R_drew)); exact (Kd.R_mono (Kd.R_far (p := ⟨gb362, 2, none⟩) (Kd.R_far (p := ⟨gb362, 1, none⟩) (Kd.R_far (p := ⟨gb362, 0, none⟩) (Kd.R_types HO_301002.out BK362.out (by decide)) (fun _ hk => hk.2) (.slice Ao133 t352.length co133)) (fun _ hk => hk.2) (.slice Ao139 t355.length co139)) (fun _ hk => hk.2) (.slice Ao140 t358.length co140)) (fun _ h_ => h_.1)))); (case side12 => exact (Kd.R_reads' HO_301002.out).2.1); rintro e w162 ⟨rfl, hb⟩; refine ⟨_, rfl, ?_⟩; replace HO_301000 := ak_ (Kd.R_below (by (with_reducible repeat (first | apply Kd.R_alloc | apply Kd.R_drewN | apply Kd.R_drew)); exact (Kd.R_mono (Kd.R_far (p := ⟨gb362, 2, none⟩) (Kd.R_far (p := ⟨gb362, 1, none⟩) (Kd.R_far (p := ⟨gb362, 0, none⟩) (Kd.R_types HO_301000.out BK362.out (by decide)) (fun _ hk => hk.2) (.slice Ao133 t352.length co133)) (fun _ hk => hk.2) (.slice Ao139 t355.length co139)) (fun _ hk => hk.2) (.slice Ao140 t358.length co140)) (fun _ h_ => h_.1))) hb); replace HO_301001 := ak_ (Kd.R_below (by (with_reducible repeat (first | apply Kd.R_alloc | apply Kd.R_drewN | apply Kd.R_drew)); exact (Kd.R_mono (Kd.R_far (p := ⟨gb362, 2, none⟩) (Kd.R_far (p := ⟨gb362, 1, none⟩) (Kd.R_far (p := ⟨gb362, 0, none⟩) (Kd.R_types HO_301001.out BK362.out (by decide)) (fun _ hk => hk.2) (.slice Ao133 t352.length co133)) (fun _ hk => hk.2) (.slice Ao139 t355.length co139)) (fun _ hk => hk.2) (.slice Ao140 t358.length co140)) (fun _ h_ => h_.1))) hb); replace HO_301002 := ak_ (Kd.R_below (by (with_reducible repeat (first | apply Kd.R_alloc | apply Kd.R_drewN | apply Kd.R_drew)); exact (Kd.R_mono (Kd.R_far (p := ⟨gb362, 2, none⟩) (Kd.R_far (p := ⟨gb362, 1, none⟩) (Kd.R_far (p := ⟨gb362, 0, none⟩) (Kd.R_types HO_301002.out BK362.out (by decide)) (fun _ hk => hk.2) (.slice Ao133 t352.length co133)) (fun _ hk => hk.2) (.slice Ao139 t355.length co139)) (fun _ hk => hk.2) (.slice Ao140 t358.length co140)) (fun _ h_ => h_.1))) hb); replace HO_311000 := ak_ (Kd.R_below (by (with_reducible repeat (first | apply Kd.R_alloc | apply Kd.R_drewN | apply Kd.R_drew)); exact (Kd.R_mono (Kd.R_far (p := ⟨gb362, 2, none⟩) (Kd.R_far (p := ⟨gb362, 1, none⟩) (Kd.R_far (p := ⟨gb362, 0, none⟩) (Kd.R_types HO_311000.out BK362.out (by decide)) (fun _ hk => hk.2) (.slice Ao133 t352.length co133)) (fun _ hk => hk.2) (.slice Ao139 t355.length co139)) (fun _ hk => hk.2) (.slice Ao140 t358.length co140)) (fun _ h_ => h_.1))) hb); replace HO_311001 := ak_ (Kd.R_below (by (with_reducible repeat (first | apply Kd.R_alloc | apply Kd.R_drewN | apply Kd.R_drew)); exact (Kd.R_mono (Kd.R_far (p := ⟨gb362, 2, none⟩) (Kd.R_far (p := ⟨gb362, 1, none⟩) (Kd.R_far (p := ⟨gb362, 0, none⟩) (Kd.R_types HO_311001.out BK362.out (by decide)) (fun _ hk => hk.2) (.slice Ao133 t352.length co133)) (fun _ hk => hk.2) (.slice Ao139 t355.length co139)) (fun _ hk => hk.2) (.slice Ao140 t358.length co140)) (fun _ h_ => h_.1))) hb); replace HO_311002 := ak_ (Kd.R_below (by (with_reducible repeat (first | apply Kd.R_alloc | apply Kd.R_drewN | apply Kd.R_drew)); exact (Kd.R_mono (Kd.R_far (p := ⟨gb362, 2, none⟩) (Kd.R_far (p := ⟨gb362, 1, none⟩) (Kd.R_far (p := ⟨gb362, 0, none⟩) (Kd.R_types HO_311002.out BK362.out (by decide)) (fun _ hk => hk.2) (.slice Ao133 t352.length co133)) (fun _ hk => hk.2) (.slice Ao139 t355.length co139)) (fun _ hk => hk.2) (.slice Ao140 t358.length co140)) (fun _ h_ => h_.1))) hb); replace HO_322000 := ak_ (Kd.R_below (by (with_reducible repeat (first | apply Kd.R_alloc | apply Kd.R_drewN | apply Kd.R_drew)); exact (Kd.R_mono (Kd.R_far (p := ⟨gb362, 2, none⟩) (Kd.R_far (p := ⟨gb362, 1, none⟩) (Kd.R_far (p := ⟨gb362, 0, none⟩) (Kd.R_types HO_322000.out BK362.out (by decide)) (fun _ hk => hk.2) (.slice Ao133 t352.length co133)) (fun _ hk => hk.2) (.slice Ao139 t355.length co139)) (fun _ hk => hk.2) (.slice Ao140 t358.length co140)) (fun _ h_ => h_.1))) hb); replace HO_322001 := ak_ (Kd.R_below (by (with_reducible repeat (first | apply Kd.R_alloc | apply Kd.R_drewN | apply Kd.R_drew)); exact (Kd.R_mono (Kd.R_far (p := ⟨gb362, 2, none⟩) (Kd.R_far (p := ⟨gb362, 1, none⟩) (Kd.R_far (p := ⟨gb362, 0, none⟩) (Kd.R_types HO_322001.out BK362.out (by decide)) (fun _ hk => hk.2) (.slice Ao133 t352.length co133)) (fun _ hk => hk.2) (.slice Ao139 t355.length co139)) (fun _ hk => hk.2) (.slice Ao140 t358.length co140)) (fun _ h_ => h_.1))) hb); replace HO_322002 := ak_ (Kd.R_below (by (with_reducible repeat (first | apply Kd.R_alloc | apply Kd.R_drewN | apply Kd.R_drew)); exact (Kd.R_mono (Kd.R_far (p := ⟨gb362, 2, none⟩) (Kd.R_far (p := ⟨gb362, 1, none⟩) (Kd.R_far (p := ⟨gb362, 0, none⟩) (Kd.R_types HO_322002.out BK362.out (by decide)) (fun _ hk => hk.2) (.slice Ao133 t352.length co133)) (fun _ hk => hk.2) (.slice Ao139 t355.length co139)) (fun _ hk => hk.2) (.slice Ao140 t358.length co140)) (fun _ h_ => h_.1))) hb); replace HO345 := ak_ (Kd.R_below (by (with_reducible repeat (first | apply Kd.R_alloc | apply Kd.R_drewN | apply Kd.R_drew)); exact (Kd.R_mono (Kd.R_far (p := ⟨gb362, 2, none⟩) (Kd.R_far (p := ⟨gb362, 1, none⟩) (Kd.R_far (p := ⟨gb362, 0, none⟩) (Kd.R_types HO345.out BK362.out (by decide)) (fun _ hk => hk.2) (.slice Ao133 t352.length co133)) (fun _ hk => hk.2) (.slice Ao139 t355.length co139)) (fun _ hk => hk.2) (.slice Ao140 t358.length co140)) (fun _ h_ => h_.1))) hb); replace HO348 := ak_ (Kd.R_below (by (with_reducible repeat (first | apply Kd.R_alloc | apply Kd.R_drewN | apply Kd.R_drew)); exact (Kd.R_mono (Kd.R_far (p := ⟨gb362, 2, none⟩) (Kd.R_far (p := ⟨gb362, 1, none⟩) (Kd.R_far (p := ⟨gb362, 0, none⟩) (Kd.R_types HO348.out BK362.out (by decide)) (fun _ hk => hk.2) (.slice Ao133 t352.length co133)) (fun _ hk => hk.2) (.slice Ao139 t355.length co139)) (fun _ hk => hk.2) (.slice Ao140 t358.length co140)) (fun _ h_ => h_.1))) hb); replace HO351 := ak_ (Kd.R_below (by (with_reducible repeat (first | apply Kd.R_alloc | apply Kd.R_drewN | apply Kd.R_drew)); exact (Kd.R_mono (Kd.R_far (p := ⟨gb362, 2, none⟩) (Kd.R_far (p := ⟨gb362, 1, none⟩) (Kd.R_far (p := ⟨gb362, 0, none⟩) (Kd.R_types HO351.out BK362.out (by decide)) (fun _ hk => hk.2) (.slice Ao133 t352.length co133)) (fun _ hk => hk.2) (.slice Ao139 t355.length co139)) (fun _ hk => hk.2) (.slice Ao140 t358.length co140)) (fun _ h_ => h_.1))) hb); replace HO354 := ak_ (Kd.R_below (by (with_reducible repeat (first | apply Kd.R_alloc | apply Kd.R_drewN | apply Kd.R_drew)); exact (Kd.R_mono (Kd.R_far (p := ⟨gb362, 2, none⟩) (Kd.R_far (p := ⟨gb362, 1, none⟩) (Kd.R_far (p := ⟨gb362, 0, none⟩) (Kd.R_types HO354.out BK362.out (by decide)) (fun _ hk => hk.2) (.slice Ao133 t352.length co133)) (fun _ hk => hk.2) (.slice Ao139 t355.length co139)) (fun _ hk => hk.2) (.slice Ao140 t358.length co140)) (fun _ h_ => h_.1))) hb); replace HO357 := ak_ (Kd.R_below (by (with_reducible repeat (first | apply Kd.R_alloc | apply Kd.R_drewN | apply Kd.R_drew)); exact (Kd.R_mono (Kd.R_far (p := ⟨gb362, 2, none⟩) (Kd.R_far (p := ⟨gb362, 1, none⟩) (Kd.R_far (p := ⟨gb362, 0, none⟩) (Kd.R_types HO357.out BK362.out (by decide)) (fun _ hk => hk.2) (.slice Ao133 t352.length co133)) (fun _ hk => hk.2) (.slice Ao139 t355.length co139)) (fun _ hk => hk.2) (.slice Ao140 t358.length co140)) (fun _ h_ => h_.1))) hb); replace HO360 := ak_ (Kd.R_below (by (with_reducible repeat (first | apply Kd.R_alloc | apply Kd.R_drewN | apply Kd.R_drew)); exact (Kd.R_mono (Kd.R_far (p := ⟨gb362, 2, none⟩) (Kd.R_far (p := ⟨gb362, 1, none⟩) (Kd.R_far (p := ⟨gb362, 0, none⟩) (Kd.R_types HO360.out BK362.out (by decide)) (fun _ hk => hk.2) (.slice Ao133 t352.length co133)) (fun _ hk => hk.2) (.slice Ao139 t355.length co139)) (fun _ hk => hk.2) (.slice Ao140 t358.length co140)) (fun _ h_ => h_.1))) hb); replace BK279 := ak_ (blk_below (g := gb279) (o := .cells #[.slice A0_0 l0_0.length c0_0, .slice A0_1 l0_1.length c0_1, .slice A0_2 l0_2.length c0_2] 26 (0, 0)) (by (with_reducible repeat (first | refine blk_drewN ?_ _ | refine blk_drew ?_ | refine blk_alloc ?_ _)); refine blk_far ?_ NB279_362.out _; (with_reducible repeat (first | refine blk_drewN ?_ _ | refine blk_drew ?_ | refine blk_alloc ?_ _)); refine blk_far ?_ NB279_362.out _; (with_reducible repeat (first | refine blk_drewN ?_ _ | refine blk_drew ?_ | refine blk_alloc ?_ _)); refine blk_far ?_ NB279_362.out _; (with_reducible repeat (first | refine blk_drewN ?_ _ | refine blk_drew ?_ | refine blk_alloc ?_ _)); exact BK279.out) hb); replace BK300 := ak_ (blk_below (g := gb300) (o := .cells #[.slice Ao25 t290.length co25, .slice Ao28 t293.length co28, .slice Ao29 t296.length co29] 31 (0, 0)) (by (with_reducible repeat (first | refine blk_drewN ?_ _ | refine blk_drew ?_ | refine blk_alloc ?_ _)); refine blk_far ?_ NB300_362.out _; (with_reducible repeat (first | refine blk_drewN ?_ _ | refine blk_drew ?_ | refine blk_alloc ?_ _)); refine blk_far ?_ NB300_362.out _; (with_reducible repeat (first | refine blk_drewN ?_ _ | refine blk_drew ?_ | refine blk_alloc ?_ _)); refine blk_far ?_ NB300_362.out _; (with_reducible repeat (first | refine blk_drewN ?_ _ | refine blk_drew ?_ | refine blk_alloc ?_ _)); exact BK300.out) hb); replace BK310 := ak_ (blk_below (g := gb310) (o := .cells #[.slice Ao33 t334.length co33, .slice Ao37 t335.length co37, .slice Ao38 t336.length co38] 31 (0, 0)) (by (with_reducible repeat (first | refine blk_drewN ?_ _ | refine blk_drew ?_ | refine blk_alloc ?_ _)); refine blk_far ?_ NB310_362.out _; (with_reducible repeat (first | refine blk_drewN ?_ _ | refine blk_drew ?_ | refine blk_alloc ?_ _)); refine blk_far ?_ NB310_362.out _; (with_reducible repeat (first | refine blk_drewN ?_ _ | refine blk_drew ?_ | refine blk_alloc ?_ _)); refine blk_far ?_ NB310_362.out _; (with_reducible repeat (first | refine blk_drewN ?_ _ | refine blk_drew ?_ | refine blk_alloc ?_ _)); exact BK310.out) hb); replace BK321 := ak_ (blk_below (g := gb321) (o := .cells #[.slice Ao41 t311.length co41, .slice Ao46 t314.length co46, .slice Ao47 t317.length co47] 31 (0, 0)) (by (with_reducible repeat (first | refine blk_drewN ?_ _ | refine blk_drew ?_ | refine blk_alloc ?_ _)); refine blk_far ?_ NB321_362.out _; (with_reducible repeat (first | refine blk_drewN ?_ _ | refine blk_drew ?_ | refine blk_alloc ?_ _)); refine blk_far ?_ NB321_362.out _; (with_reducible repeat (first | refine blk_drewN ?_ _ | refine blk_drew ?_ | refine blk_alloc ?_ _)); refine blk_far ?_ NB321_362.out _; (with_reducible repeat (first | refine blk_drewN ?_ _ | refine blk_drew ?_ | refine blk_alloc ?_ _)); exact BK321.out) hb); replace BK362 := ak_ (blk_below (g := gb362) (o := .cells #[.slice Ao133 t352.length co133, .slice Ao139 t355.length co139, .slice Ao140 t358.length co140] 31 (0, 0)) (by (with_reducible repeat (first | refine blk_drewN ?_ _ | refine blk_drew ?_ | refine blk_alloc ?_ _)); refine blk_put (cs := #[.slice Ao133 t352.length co133, .slice Ao139 t355.length co139, .slice none 0 0]) ?_ 2 _ rfl; (with_reducible repeat (first | refine blk_drewN ?_ _ | refine blk_drew ?_ | refine blk_alloc ?_ _)); refine blk_put (cs := #[.slice Ao133 t352.length co133, .slice none 0 0, .slice none 0 0]) ?_ 1 _ rfl; (with_reducible repeat (first | refine blk_drewN ?_ _ | refine blk_drew ?_ | refine blk_alloc ?_ _)); refine blk_put (cs := #[.slice none 0 0, .slice none 0 0, .slice none 0 0]) ?_ 0 _ rfl; (with_reducible repeat (first | refine blk_drewN ?_ _ | refine blk_drew ?_ | refine blk_alloc ?_ _)); exact BK362.out) hb); replace HB := ak_ (below_step (by repeat (first | (with_reducible first | exact HB.out | apply below_alloc | apply pw_below_drewN | apply below_drew1 | refine below_set ?_ GE279.out | refine below_set ?_ GE300.out | refine below_set ?_ GE310.out | refine below_set ?_ GE321.out | refine below_set ?_ GE362.out) | exact HB.out)) hb); skip; clear hb))
            go_meet
            case rel => exact ⟨_, (true), fr_, H', ⟨by have := HJ13.out; have := HJ70.out; first | omega | exact Nat.le_refl _⟩, ⟨by (try simp only [hl311000_70]); (try simp only [hl311001_70]); (try simp only [hl311002_70]); (with_reducible repeat (first | apply Kd.R_alloc | apply Kd.R_drewN | apply Kd.R_drew)); exact Kd.R_mono HO_301000.out (fun _ hk => ⟨hk.1.1.1, ⟨hk.1.1.2, hk.2⟩⟩)⟩, ⟨by (try simp only [hl311000_70]); (try simp only [hl311001_70]); (try simp only [hl311002_70]); (with_reducible repeat (first | apply Kd.R_alloc | apply Kd.R_drewN | apply Kd.R_drew)); exact Kd.R_mono HO_301001.out (fun _ hk => ⟨hk.1.1.1, ⟨hk.1.1.2, hk.2⟩⟩)⟩, ⟨by (try simp only [hl311000_70]); (try simp only [hl311001_70]); (try simp only [hl311002_70]); (with_reducible repeat (first | apply Kd.R_alloc | apply Kd.R_drewN | apply Kd.R_drew)); exact Kd.R_mono HO_301002.out (fun _ hk => ⟨hk.1.1.1, ⟨hk.1.1.2, hk.2⟩⟩)⟩, ⟨by (try simp only [hl311000_70]); (try simp only [hl311001_70]); (try simp only [hl311002_70]); (with_reducible repeat (first | apply Kd.R_alloc | apply Kd.R_drewN | apply Kd.R_drew)); exact Kd.R_mono HO_311000.out (fun _ hk => ⟨hk.1.1.1, ⟨hk.1.1.2, hk.2⟩⟩)⟩, ⟨by (try simp only [hl311000_70]); (try simp only [hl311001_70]); (try simp only [hl311002_70]); (with_reducible repeat (first | apply Kd.R_alloc | apply Kd.R_drewN | apply Kd.R_drew)); exact Kd.R_mono HO_311001.out (fun _ hk => ⟨hk.1.1.1, ⟨hk.1.1.2, hk.2⟩⟩)⟩, ⟨by (try simp only [hl311000_70]); (try simp only [hl311001_70]); (try simp only [hl311002_70]); (with_reducible repeat (first | apply Kd.R_alloc | apply Kd.R_drewN | apply Kd.R_drew)); exact Kd.R_mono HO_311002.out (fun _ hk => ⟨hk.1.1.1, ⟨hk.1.1.2, hk.2⟩⟩)⟩, ⟨by (try simp only [hl311000_70]); (try simp only [hl311001_70]); (try simp only [hl311002_70]); (with_reducible repeat (first | apply Kd.R_alloc | apply Kd.R_drewN | apply Kd.R_drew)); exact Kd.R_mono HO_322000.out (fun _ hk => ⟨hk.1.1.1, ⟨hk.1.1.2, hk.2⟩⟩)⟩, ⟨by (try simp only [hl311000_70]); (try simp only [hl311001_70]); (try simp only [hl311002_70]); (with_reducible repeat (first | apply Kd.R_alloc | apply Kd.R_drewN | apply Kd.R_drew)); exact Kd.R_mono HO_322001.out (fun _ hk => ⟨hk.1.1.1, ⟨hk.1.1.2, hk.2⟩⟩)⟩, ⟨by (try simp only [hl311000_70]); (try simp only [hl311001_70]); (try simp only [hl311002_70]); (with_reducible repeat (first | apply Kd.R_alloc | apply Kd.R_drewN | apply Kd.R_drew)); exact Kd.R_mono HO_322002.out (fun _ hk => ⟨hk.1.1.1, ⟨hk.1.1.2, hk.2⟩⟩)⟩, ⟨by (try simp only [hl311000_70]); (try simp only [hl311001_70]); (try simp only [hl311002_70]); (with_reducible repeat (first | apply Kd.R_alloc | apply Kd.R_drewN | apply Kd.R_drew)); exact Kd.R_mono HO354.out (fun _ hk => ⟨hk.1.1.1.2, ⟨hk.1.1.2, hk.1.2⟩⟩)⟩, ⟨by (try simp only [hl311000_70]); (try simp only [hl311001_70]); (try simp only [hl311002_70]); (with_reducible repeat (first | apply Kd.R_alloc | apply Kd.R_drewN | apply Kd.R_drew)); exact Kd.R_mono HO357.out (fun _ hk => ⟨hk.1.1.1.2, ⟨hk.1.1.2, hk.1.2⟩⟩)⟩, ⟨by (try simp only [hl311000_70]); (try simp only [hl311001_70]); (try simp only [hl311002_70]); (with_reducible repeat (first | apply Kd.R_alloc | apply Kd.R_drewN | apply Kd.R_drew)); exact Kd.R_mono HO360.out (fun _ hk => ⟨hk.1.1.1.2, ⟨hk.1.1.2, hk.1.2⟩⟩)⟩, ⟨by (try simp only [hl311000_70]); (try simp only [hl311001_70]); (try simp only [hl311002_70]); (with_reducible repeat (first | refine blk_drewN ?_ _ | refine blk_drew ?_ | refine blk_alloc ?_ _)); exact BK279.out⟩, ⟨by (try simp only [hl311000_70]); (try simp only [hl311001_70]); (try simp only [hl311002_70]); (with_reducible repeat (first | refine blk_drewN ?_ _ | refine blk_drew ?_ | refine blk_alloc ?_ _)); exact BK300.out⟩, ⟨by (try simp only [hl311000_70]); (try simp only [hl311001_70]); (try simp only [hl311002_70]); (with_reducible repeat (first | refine blk_drewN ?_ _ | refine blk_drew ?_ | refine blk_alloc ?_ _)); exact BK310.out⟩, ⟨by (try simp only [hl311000_70]); (try simp only [hl311001_70]); (try simp only [hl311002_70]); (with_reducible repeat (first | refine blk_drewN ?_ _ | refine blk_drew ?_ | refine blk_alloc ?_ _)); exact BK321.out⟩, ⟨by (try simp only [hl311000_70]); (try simp only [hl311001_70]); (try simp only [hl311002_70]); (with_reducible repeat (first | refine blk_drewN ?_ _ | refine blk_drew ?_ | refine blk_alloc ?_ _)); exact BK362.out⟩, ⟨by repeat (first | (with_reducible first | exact HB.out | apply below_alloc | apply pw_below_drewN | apply below_drew1 | refine below_set ?_ GE279.out | refine below_set ?_ GE300.out | refine below_set ?_ GE310.out | refine below_set ?_ GE321.out | refine below_set ?_ GE362.out) | exact HB.out)⟩⟩
          case rest =>
           clear HC116
           try clear c1
           try clear c2
           try clear p2
           try clear c3
           try clear c3b0
           try clear c3b1
           try clear c4
           try clear c5
           try clear c6
           try clear c6b0
           try clear c7
           try clear c8
           try clear c9
           try clear c10
           try clear c11
           try clear c12
           try clear c13
           try clear c14
           try clear c15
           try clear c16
           try clear c26
           try clear c34
           try clear c35
           try clear c42
           try clear c43
           try clear c44
           try clear c49
           try clear c50
           try clear c51
           try clear c52
           try clear c54
           try clear c55
           try clear c58
           try clear c59
           try clear c60
           try clear c62
           try clear c63
           try clear c66
           try clear c69
           try clear c78
           try clear c79
           try clear c80
           try clear c83
           try clear c83b0
           try clear c85
           try clear c86
           try clear c87
           try clear c88
           try clear c90
           try clear c91
           try clear c94
           try clear c95
           try clear c96
           try clear c98
           try clear c99
           try clear c102
           try clear c105
           try clear c105b0
           try clear c106
           try clear c107
           try clear c108
           try clear c113
           try clear c113b0
           try clear c113b1
           try clear c117
           try clear c118
           try clear c119
           try clear c124
           try clear c125
           try clear c134
           try clear c135
           try clear c136
           try clear c137
           try clear c142
           try clear c143
           try clear c144
           try clear c145
           try clear c146
           try clear c148
           try clear c149
           try clear c150
           try clear c153
           try clear c154
           try clear c155
           try clear c156
           try clear c158
           try clear c159
           try clear c160
           try clear hcz100_0
           try clear hcz100_1
           try clear hcz100_2
           try clear hcz109_0
           try clear hcz109_1
           try clear hcz109_2
           try clear hcz111_0
           try clear hcz111_1
           try clear hcz111_2
           try clear hcz120_0
           try clear hcz120_1
           try clear hcz120_2
           try clear hcz122_0
           try clear hcz122_1
           try clear hcz122_2
           try clear hcz126_0
           try clear hcz126_1
           try clear hcz126_2
           try clear hcz138_0
           try clear hcz138_1
           try clear hcz138_2
           try clear hcz147_0
           try clear hcz147_1
           try clear hcz147_2
           try clear hcz151_0
           try clear hcz151_1
           try clear hcz151_2
           try clear hcz157_0
           try clear hcz157_1
           try clear hcz157_2
           try clear hcz161_0
           try clear hcz161_1
           try clear hcz161_2
           try clear hcz16_0
           try clear hcz16_1
           try clear hcz16_2
           try clear hcz18_0
           try clear hcz18_1
           try clear hcz18_2
           try clear hcz27_0
           try clear hcz27_1
           try clear hcz27_2
           try clear hcz30_0
           try clear hcz30_1
           try clear hcz30_2
           try clear hcz36_0
           try clear hcz36_1
           try clear hcz36_2
           try clear hcz45_0
           try clear hcz45_1
           try clear hcz45_2
           try clear hcz53_0
           try clear hcz53_1
           try clear hcz53_2
           try clear hcz56_0
           try clear hcz56_1
           try clear hcz56_2
           try clear hcz61_0
           try clear hcz61_1
           try clear hcz61_2
           try clear hcz64_0
           try clear hcz64_1
           try clear hcz64_2
           try clear hcz81_0
           try clear hcz81_1
           try clear hcz81_2
           try clear hcz89_0
           try clear hcz89_1
           try clear hcz89_2
           try clear hcz8_0
           try clear hcz8_1
           try clear hcz8_2
           try clear hcz92_0
           try clear hcz92_1
           try clear hcz92_2
           try clear hcz97_0
           try clear hcz97_1
           try clear hcz97_2
           try clear hfz100_0
           try clear hfz100_1
           try clear hfz100_2
           try clear hfz109_0
           try clear hfz109_1
           try clear hfz109_2
           try clear hfz111_0
           try clear hfz111_1
           try clear hfz111_2
           try clear hfz120_0
           try clear hfz120_1
           try clear hfz120_2
           try clear hfz122_0
           try clear hfz122_1
           try clear hfz122_2
           try clear hfz126_0
           try clear hfz126_1
           try clear hfz126_2
           try clear hfz138_0
           try clear hfz138_1
           try clear hfz138_2
           try clear hfz147_0
           try clear hfz147_1
           try clear hfz147_2
           try clear hfz151_0
           try clear hfz151_1
           try clear hfz151_2
           try clear hfz157_0
           try clear hfz157_1
           try clear hfz157_2
           try clear hfz161_0
           try clear hfz161_1
           try clear hfz161_2
           try clear hfz16_0
           try clear hfz16_1
           try clear hfz16_2
           try clear hfz18_0
           try clear hfz18_1
           try clear hfz18_2
           try clear hfz27_0
           try clear hfz27_1
           try clear hfz27_2
           try clear hfz30_0
           try clear hfz30_1
           try clear hfz30_2
           try clear hfz36_0
           try clear hfz36_1
           try clear hfz36_2
           try clear hfz45_0
           try clear hfz45_1
           try clear hfz45_2
           try clear hfz53_0
           try clear hfz53_1
           try clear hfz53_2
           try clear hfz56_0
           try clear hfz56_1
           try clear hfz56_2
           try clear hfz61_0
           try clear hfz61_1
           try clear hfz61_2
           try clear hfz64_0
           try clear hfz64_1
           try clear hfz64_2
           try clear hfz81_0
           try clear hfz81_1
           try clear hfz81_2
           try clear hfz89_0
           try clear hfz89_1
           try clear hfz89_2
           try clear hfz8_0
           try clear hfz8_1
           try clear hfz8_2
           try clear hfz92_0
           try clear hfz92_1
           try clear hfz92_2
           try clear hfz97_0
           try clear hfz97_1
           try clear hfz97_2
           try clear p2
           obtain ⟨kq, x95_115, rfl, HA, HJ115, HO_301000, HO_301001, HO_301002, HO_311000, HO_311001, HO_311002, HO_322000, HO_322001, HO_322002, HO_363000, HO_363001, HO_363002, BK279, BK300, BK310, BK321, BK362, HB⟩ := hcut
           have hl322000_115 := (Kd.R_reads' HO_322000.out).1
           rw [hl322000_115] at HO_322000
           (try simp only [hl322000_115])
           (try simp only [hl322000_115] at BK279)
           (try simp only [hl322000_115] at BK300)
           (try simp only [hl322000_115] at BK310)
           (try simp only [hl322000_115] at BK321)
           (try simp only [hl322000_115] at BK362)
           (try simp only [hl322000_115] at HO_301000)
           (try simp only [hl322000_115] at HO_301001)
           (try simp only [hl322000_115] at HO_301002)
           (try simp only [hl322000_115] at HO_311000)
           (try simp only [hl322000_115] at HO_311001)
           (try simp only [hl322000_115] at HO_311002)
           (try simp only [hl322000_115] at HO_322001)
           (try simp only [hl322000_115] at HO_322002)
           (try simp only [hl322000_115] at HO_363000)
           (try simp only [hl322000_115] at HO_363001)
           (try simp only [hl322000_115] at HO_363002)
           have hl322001_115 := (Kd.R_reads' HO_322001.out).1
           rw [hl322001_115] at HO_322001
           (try simp only [hl322001_115])
           (try simp only [hl322001_115] at BK279)
           (try simp only [hl322001_115] at BK300)
           (try simp only [hl322001_115] at BK310)
           (try simp only [hl322001_115] at BK321)
           (try simp only [hl322001_115] at BK362)
           (try simp only [hl322001_115] at HO_301000)
           (try simp only [hl322001_115] at HO_301001)
           (try simp only [hl322001_115] at HO_301002)
           (try simp only [hl322001_115] at HO_311000)
           (try simp only [hl322001_115] at HO_311001)
           (try simp only [hl322001_115] at HO_311002)
           (try simp only [hl322001_115] at HO_322000)
           (try simp only [hl322001_115] at HO_322002)
           (try simp only [hl322001_115] at HO_363000)
           (try simp only [hl322001_115] at HO_363001)
           (try simp only [hl322001_115] at HO_363002)
           have hl322002_115 := (Kd.R_reads' HO_322002.out).1
           rw [hl322002_115] at HO_322002
           (try simp only [hl322002_115])
           (try simp only [hl322002_115] at BK279)
           (try simp only [hl322002_115] at BK300)
           (try simp only [hl322002_115] at BK310)
           (try simp only [hl322002_115] at BK321)
           (try simp only [hl322002_115] at BK362)
           (try simp only [hl322002_115] at HO_301000)
           (try simp only [hl322002_115] at HO_301001)
           (try simp only [hl322002_115] at HO_301002)
           (try simp only [hl322002_115] at HO_311000)
           (try simp only [hl322002_115] at HO_311001)
           (try simp only [hl322002_115] at HO_311002)
           (try simp only [hl322002_115] at HO_322000)
           (try simp only [hl322002_115] at HO_322001)
           (try simp only [hl322002_115] at HO_363000)
           (try simp only [hl322002_115] at HO_363001)
           (try simp only [hl322002_115] at HO_363002)
           cases kq with
           | zero => exact absurd HA.out (by simp [laws_FnExactCastOff.j2])
           | succ kj115 =>
            have H := HA.out
            clear HA
            simp only [laws_FnExactCastOff.j2] at H
            by_cases c163 : x95_115 = true
            ·subst c163
             have H1 : (some false) = some r := by rw [if_pos rfl] at H; exact H
             clear H
             have H := H1
             clear H1
             obtain rfl := Option.some.inj H
             go_wp2
             go_ret
             exact ⟨ew_, by repeat (first | (with_reducible first | exact HB.out | apply below_alloc | apply pw_below_drewN | apply below_drew1 | refine below_set ?_ GE279.out | refine below_set ?_ GE300.out | refine below_set ?_ GE310.out | refine below_set ?_ GE321.out | refine below_set ?_ GE362.out) | exact HB.out)⟩
            ·replace c163 := Bool.eq_false_iff.mpr c163
             subst c163
             have H1 : ((laws_heldRig.f kj115 t339 t340 t341 1).bind fun t364 => (if t364 < 0 then (some false) else (if t364 = t338 then (some true) else (some false)))) = some r := by rw [if_neg (show ¬ (false = true) by decide)] at H; exact H
             clear H
             have H := H1
             clear H1
             replace H := ob_ H
             obtain ⟨t364, A1640, H⟩ := H
             (try dsimp only at H)
             have A164 := ak_ A1640
             clear A1640
             by_cases c165 : t364 < 0
             ·rw [if_pos c165] at H
              have c165b0 : decide (t364 < 0) = true := dt_ c165
              clear c165
              obtain rfl := Option.some.inj H
              have hnb166 := NB321_279.out
              have hnc166 := NB279_321.out
              have hnb167 := NB321_300.out
              have hnc167 := NB300_321.out
              have hnb168 := NB321_310.out
              have hnc168 := NB310_321.out
              have hnb169 := NB321_362.out
              have hnc169 := NB362_321.out
              have hcz170_0 : wc.cell? ⟨gb321, 0, none⟩ = some (.slice Ao41 t339.length co41) := (blk_cell BK321.out 0).trans rfl
              have hcz170_1 : wc.cell? ⟨gb321, 1, none⟩ = some (.slice Ao46 t340.length co46) := (blk_cell BK321.out 1).trans rfl
              have hcz170_2 : wc.cell? ⟨gb321, 2, none⟩ = some (.slice Ao47 t341.length co47) := (blk_cell BK321.out 2).trans rfl
              have hfz170_0 := blk_frozen BK321.out 0
              have hfz170_1 := blk_frozen BK321.out 1
              have hfz170_2 := blk_frozen BK321.out 2
              go_wp2_with (first | ((with_reducible refine gate_callee (f := 11) rfl ?_); refine goesL_ (some 98) rfl rfl Try.func11 (by kernel_rfl) rfl #[.agg #[.slice Ao41 t339.length co41, .slice Ao46 t340.length co46, .slice Ao47 t341.length co47], .int .i64 1] rfl ln_ ?_; (with_reducible refine (laws_heldRig.calls kj115 _ _ t339 _ _ t340 _ _ t341 1 t364 _ ?side1 ((Kd.R_reads' HO_322000.out).2.1) ?side3 ((Kd.R_reads' HO_322001.out).2.1) ?side5 ((Kd.R_reads' HO_322002.out).2.1) A164.out).mono ?_); (case side1 => repeat (first | exact (Kd.R_reads' HO_322000.out).2.2 | (with_reducible refine Kd.C_alloc ?_ _) | (with_reducible refine Kd.C_drewN ?_ _) | (with_reducible refine Kd.C_drew ?_))); (case side3 => repeat (first | exact (Kd.R_reads' HO_322001.out).2.2 | (with_reducible refine Kd.C_alloc ?_ _) | (with_reducible refine Kd.C_drewN ?_ _) | (with_reducible refine Kd.C_drew ?_))); (case side5 => repeat (first | exact (Kd.R_reads' HO_322002.out).2.2 | (with_reducible refine Kd.C_alloc ?_ _) | (with_reducible refine Kd.C_drewN ?_ _) | (with_reducible refine Kd.C_drew ?_))); rintro e w171 ⟨rfl, hb⟩; refine ⟨_, rfl, ?_⟩; replace HO_301000 := ak_ (Kd.R_below (kr_ HO_301000) hb); replace HO_301001 := ak_ (Kd.R_below (kr_ HO_301001) hb); replace HO_301002 := ak_ (Kd.R_below (kr_ HO_301002) hb); replace HO_311000 := ak_ (Kd.R_below (kr_ HO_311000) hb); replace HO_311001 := ak_ (Kd.R_below (kr_ HO_311001) hb); replace HO_311002 := ak_ (Kd.R_below (kr_ HO_311002) hb); replace HO_322000 := ak_ (Kd.R_below (kr_ HO_322000) hb); replace HO_322001 := ak_ (Kd.R_below (kr_ HO_322001) hb); replace HO_322002 := ak_ (Kd.R_below (kr_ HO_322002) hb); replace HO_363000 := ak_ (Kd.R_below (kr_ HO_363000) hb); replace HO_363001 := ak_ (Kd.R_below (kr_ HO_363001) hb); replace HO_363002 := ak_ (Kd.R_below (kr_ HO_363002) hb); replace BK279 := ak_ (blk_below (g := gb279) (o := .cells #[.slice A0_0 l0_0.length c0_0, .slice A0_1 l0_1.length c0_1, .slice A0_2 l0_2.length c0_2] 26 (0, 0)) (bk_ BK279) hb); replace BK300 := ak_ (blk_below (g := gb300) (o := .cells #[.slice Ao25 t290.length co25, .slice Ao28 t293.length co28, .slice Ao29 t296.length co29] 31 (0, 0)) (bk_ BK300) hb); replace BK310 := ak_ (blk_below (g := gb310) (o := .cells #[.slice Ao33 t334.length co33, .slice Ao37 t335.length co37, .slice Ao38 t336.length co38] 31 (0, 0)) (bk_ BK310) hb); replace BK321 := ak_ (blk_below (g := gb321) (o := .cells #[.slice Ao41 t339.length co41, .slice Ao46 t340.length co46, .slice Ao47 t341.length co47] 31 (0, 0)) (bk_ BK321) hb); replace BK362 := ak_ (blk_below (g := gb362) (o := .cells #[.slice Ao133 t352.length co133, .slice Ao139 t355.length co139, .slice Ao140 t358.length co140] 31 (0, 0)) (bk_ BK362) hb); replace HB := ak_ (below_step (by repeat (first | (with_reducible first | exact HB.out | apply below_alloc | apply pw_below_drewN | apply below_drew1 | refine below_set ?_ GE279.out | refine below_set ?_ GE300.out | refine below_set ?_ GE310.out | refine below_set ?_ GE321.out | refine below_set ?_ GE362.out) | exact HB.out)) hb); skip; clear hb))
              go_ret
              exact ⟨ew_, by repeat (first | (with_reducible first | exact HB.out | apply below_alloc | apply pw_below_drewN | apply below_drew1 | refine below_set ?_ GE279.out | refine below_set ?_ GE300.out | refine below_set ?_ GE310.out | refine below_set ?_ GE321.out | refine below_set ?_ GE362.out) | exact HB.out)⟩
             ·rw [if_neg c165] at H
              have c165b0 : decide (t364 < 0) = false := decide_eq_false c165
              clear c165
              by_cases c172 : t364 = t338
              ·rw [if_pos c172] at H
               have c172b0 : (t364 == t338) = true := beq_iff_eq.mpr c172
               have c172b1 : (t364 != t338) = false := bne_eq_false_iff_eq.mpr c172
               clear c172
               obtain rfl := Option.some.inj H
               have hnb173 := NB321_279.out
               have hnc173 := NB279_321.out
               have hnb174 := NB321_300.out
               have hnc174 := NB300_321.out
               have hnb175 := NB321_310.out
               have hnc175 := NB310_321.out
               have hnb176 := NB321_362.out
               have hnc176 := NB362_321.out
               have hcz177_0 : wc.cell? ⟨gb321, 0, none⟩ = some (.slice Ao41 t339.length co41) := (blk_cell BK321.out 0).trans rfl
               have hcz177_1 : wc.cell? ⟨gb321, 1, none⟩ = some (.slice Ao46 t340.length co46) := (blk_cell BK321.out 1).trans rfl
               have hcz177_2 : wc.cell? ⟨gb321, 2, none⟩ = some (.slice Ao47 t341.length co47) := (blk_cell BK321.out 2).trans rfl
               have hfz177_0 := blk_frozen BK321.out 0
               have hfz177_1 := blk_frozen BK321.out 1
               have hfz177_2 := blk_frozen BK321.out 2
               go_wp2_with (first | ((with_reducible refine gate_callee (f := 11) rfl ?_); refine goesL_ (some 98) rfl rfl Try.func11 (by kernel_rfl) rfl #[.agg #[.slice Ao41 t339.length co41, .slice Ao46 t340.length co46, .slice Ao47 t341.length co47], .int .i64 1] rfl ln_ ?_; (with_reducible refine (laws_heldRig.calls kj115 _ _ t339 _ _ t340 _ _ t341 1 t364 _ ?side1 ((Kd.R_reads' HO_322000.out).2.1) ?side3 ((Kd.R_reads' HO_322001.out).2.1) ?side5 ((Kd.R_reads' HO_322002.out).2.1) A164.out).mono ?_); (case side1 => repeat (first | exact (Kd.R_reads' HO_322000.out).2.2 | (with_reducible refine Kd.C_alloc ?_ _) | (with_reducible refine Kd.C_drewN ?_ _) | (with_reducible refine Kd.C_drew ?_))); (case side3 => repeat (first | exact (Kd.R_reads' HO_322001.out).2.2 | (with_reducible refine Kd.C_alloc ?_ _) | (with_reducible refine Kd.C_drewN ?_ _) | (with_reducible refine Kd.C_drew ?_))); (case side5 => repeat (first | exact (Kd.R_reads' HO_322002.out).2.2 | (with_reducible refine Kd.C_alloc ?_ _) | (with_reducible refine Kd.C_drewN ?_ _) | (with_reducible refine Kd.C_drew ?_))); rintro e w178 ⟨rfl, hb⟩; refine ⟨_, rfl, ?_⟩; replace HO_301000 := ak_ (Kd.R_below (kr_ HO_301000) hb); replace HO_301001 := ak_ (Kd.R_below (kr_ HO_301001) hb); replace HO_301002 := ak_ (Kd.R_below (kr_ HO_301002) hb); replace HO_311000 := ak_ (Kd.R_below (kr_ HO_311000) hb); replace HO_311001 := ak_ (Kd.R_below (kr_ HO_311001) hb); replace HO_311002 := ak_ (Kd.R_below (kr_ HO_311002) hb); replace HO_322000 := ak_ (Kd.R_below (kr_ HO_322000) hb); replace HO_322001 := ak_ (Kd.R_below (kr_ HO_322001) hb); replace HO_322002 := ak_ (Kd.R_below (kr_ HO_322002) hb); replace HO_363000 := ak_ (Kd.R_below (kr_ HO_363000) hb); replace HO_363001 := ak_ (Kd.R_below (kr_ HO_363001) hb); replace HO_363002 := ak_ (Kd.R_below (kr_ HO_363002) hb); replace BK279 := ak_ (blk_below (g := gb279) (o := .cells #[.slice A0_0 l0_0.length c0_0, .slice A0_1 l0_1.length c0_1, .slice A0_2 l0_2.length c0_2] 26 (0, 0)) (bk_ BK279) hb); replace BK300 := ak_ (blk_below (g := gb300) (o := .cells #[.slice Ao25 t290.length co25, .slice Ao28 t293.length co28, .slice Ao29 t296.length co29] 31 (0, 0)) (bk_ BK300) hb); replace BK310 := ak_ (blk_below (g := gb310) (o := .cells #[.slice Ao33 t334.length co33, .slice Ao37 t335.length co37, .slice Ao38 t336.length co38] 31 (0, 0)) (bk_ BK310) hb); replace BK321 := ak_ (blk_below (g := gb321) (o := .cells #[.slice Ao41 t339.length co41, .slice Ao46 t340.length co46, .slice Ao47 t341.length co47] 31 (0, 0)) (bk_ BK321) hb); replace BK362 := ak_ (blk_below (g := gb362) (o := .cells #[.slice Ao133 t352.length co133, .slice Ao139 t355.length co139, .slice Ao140 t358.length co140] 31 (0, 0)) (bk_ BK362) hb); replace HB := ak_ (below_step (by repeat (first | (with_reducible first | exact HB.out | apply below_alloc | apply pw_below_drewN | apply below_drew1 | refine below_set ?_ GE279.out | refine below_set ?_ GE300.out | refine below_set ?_ GE310.out | refine below_set ?_ GE321.out | refine below_set ?_ GE362.out) | exact HB.out)) hb); skip; clear hb))
               go_ret
               exact ⟨ew_, by repeat (first | (with_reducible first | exact HB.out | apply below_alloc | apply pw_below_drewN | apply below_drew1 | refine below_set ?_ GE279.out | refine below_set ?_ GE300.out | refine below_set ?_ GE310.out | refine below_set ?_ GE321.out | refine below_set ?_ GE362.out) | exact HB.out)⟩
              ·rw [if_neg c172] at H
               have c172b0 : (t364 == t338) = false := beq_eq_false_iff_ne.mpr c172
               have c172b1 : (t364 != t338) = true := bne_iff_ne.mpr c172
               obtain rfl := Option.some.inj H
               have hnb179 := NB321_279.out
               have hnc179 := NB279_321.out
               have hnb180 := NB321_300.out
               have hnc180 := NB300_321.out
               have hnb181 := NB321_310.out
               have hnc181 := NB310_321.out
               have hnb182 := NB321_362.out
               have hnc182 := NB362_321.out
               have hcz183_0 : wc.cell? ⟨gb321, 0, none⟩ = some (.slice Ao41 t339.length co41) := (blk_cell BK321.out 0).trans rfl
               have hcz183_1 : wc.cell? ⟨gb321, 1, none⟩ = some (.slice Ao46 t340.length co46) := (blk_cell BK321.out 1).trans rfl
               have hcz183_2 : wc.cell? ⟨gb321, 2, none⟩ = some (.slice Ao47 t341.length co47) := (blk_cell BK321.out 2).trans rfl
               have hfz183_0 := blk_frozen BK321.out 0
               have hfz183_1 := blk_frozen BK321.out 1
               have hfz183_2 := blk_frozen BK321.out 2
               go_wp2_with (first | ((with_reducible refine gate_callee (f := 11) rfl ?_); refine goesL_ (some 98) rfl rfl Try.func11 (by kernel_rfl) rfl #[.agg #[.slice Ao41 t339.length co41, .slice Ao46 t340.length co46, .slice Ao47 t341.length co47], .int .i64 1] rfl ln_ ?_; (with_reducible refine (laws_heldRig.calls kj115 _ _ t339 _ _ t340 _ _ t341 1 t364 _ ?side1 ((Kd.R_reads' HO_322000.out).2.1) ?side3 ((Kd.R_reads' HO_322001.out).2.1) ?side5 ((Kd.R_reads' HO_322002.out).2.1) A164.out).mono ?_); (case side1 => repeat (first | exact (Kd.R_reads' HO_322000.out).2.2 | (with_reducible refine Kd.C_alloc ?_ _) | (with_reducible refine Kd.C_drewN ?_ _) | (with_reducible refine Kd.C_drew ?_))); (case side3 => repeat (first | exact (Kd.R_reads' HO_322001.out).2.2 | (with_reducible refine Kd.C_alloc ?_ _) | (with_reducible refine Kd.C_drewN ?_ _) | (with_reducible refine Kd.C_drew ?_))); (case side5 => repeat (first | exact (Kd.R_reads' HO_322002.out).2.2 | (with_reducible refine Kd.C_alloc ?_ _) | (with_reducible refine Kd.C_drewN ?_ _) | (with_reducible refine Kd.C_drew ?_))); rintro e w184 ⟨rfl, hb⟩; refine ⟨_, rfl, ?_⟩; replace HO_301000 := ak_ (Kd.R_below (kr_ HO_301000) hb); replace HO_301001 := ak_ (Kd.R_below (kr_ HO_301001) hb); replace HO_301002 := ak_ (Kd.R_below (kr_ HO_301002) hb); replace HO_311000 := ak_ (Kd.R_below (kr_ HO_311000) hb); replace HO_311001 := ak_ (Kd.R_below (kr_ HO_311001) hb); replace HO_311002 := ak_ (Kd.R_below (kr_ HO_311002) hb); replace HO_322000 := ak_ (Kd.R_below (kr_ HO_322000) hb); replace HO_322001 := ak_ (Kd.R_below (kr_ HO_322001) hb); replace HO_322002 := ak_ (Kd.R_below (kr_ HO_322002) hb); replace HO_363000 := ak_ (Kd.R_below (kr_ HO_363000) hb); replace HO_363001 := ak_ (Kd.R_below (kr_ HO_363001) hb); replace HO_363002 := ak_ (Kd.R_below (kr_ HO_363002) hb); replace BK279 := ak_ (blk_below (g := gb279) (o := .cells #[.slice A0_0 l0_0.length c0_0, .slice A0_1 l0_1.length c0_1, .slice A0_2 l0_2.length c0_2] 26 (0, 0)) (bk_ BK279) hb); replace BK300 := ak_ (blk_below (g := gb300) (o := .cells #[.slice Ao25 t290.length co25, .slice Ao28 t293.length co28, .slice Ao29 t296.length co29] 31 (0, 0)) (bk_ BK300) hb); replace BK310 := ak_ (blk_below (g := gb310) (o := .cells #[.slice Ao33 t334.length co33, .slice Ao37 t335.length co37, .slice Ao38 t336.length co38] 31 (0, 0)) (bk_ BK310) hb); replace BK321 := ak_ (blk_below (g := gb321) (o := .cells #[.slice Ao41 t339.length co41, .slice Ao46 t340.length co46, .slice Ao47 t341.length co47] 31 (0, 0)) (bk_ BK321) hb); replace BK362 := ak_ (blk_below (g := gb362) (o := .cells #[.slice Ao133 t352.length co133, .slice Ao139 t355.length co139, .slice Ao140 t358.length co140] 31 (0, 0)) (bk_ BK362) hb); replace HB := ak_ (below_step (by repeat (first | (with_reducible first | exact HB.out | apply below_alloc | apply pw_below_drewN | apply below_drew1 | refine below_set ?_ GE279.out | refine below_set ?_ GE300.out | refine below_set ?_ GE310.out | refine below_set ?_ GE321.out | refine below_set ?_ GE362.out) | exact HB.out)) hb); skip; clear hb))
               go_ret
               exact ⟨ew_, by repeat (first | (with_reducible first | exact HB.out | apply below_alloc | apply pw_below_drewN | apply below_drew1 | refine below_set ?_ GE279.out | refine below_set ?_ GE300.out | refine below_set ?_ GE310.out | refine below_set ?_ GE321.out | refine below_set ?_ GE362.out) | exact HB.out)⟩
         ·rw [if_neg c113] at H
          have c113b0 : (t342 == t338) = false := beq_eq_false_iff_ne.mpr c113
          have c113b1 : (t342 != t338) = true := bne_iff_ne.mpr c113
          obtain rfl := Option.some.inj H
          have hnb185 := NB321_279.out
          have hnc185 := NB279_321.out
          have hnb186 := NB321_300.out
          have hnc186 := NB300_321.out
          have hnb187 := NB321_310.out
          have hnc187 := NB310_321.out
          have hcz188_0 : wc.cell? ⟨gb321, 0, none⟩ = some (.slice Ao41 t311.length co41) := (blk_cell BK321.out 0).trans rfl
          have hcz188_1 : wc.cell? ⟨gb321, 1, none⟩ = some (.slice Ao46 t314.length co46) := (blk_cell BK321.out 1).trans rfl
          have hcz188_2 : wc.cell? ⟨gb321, 2, none⟩ = some (.slice Ao47 t317.length co47) := (blk_cell BK321.out 2).trans rfl
          have hfz188_0 := blk_frozen BK321.out 0
          have hfz188_1 := blk_frozen BK321.out 1
          have hfz188_2 := blk_frozen BK321.out 2
          go_wp2_with (first | ((with_reducible refine gate_callee (f := 10) rfl ?_); refine goesL_ (some 71) rfl rfl Try.func10 (by kernel_rfl) rfl #[.agg #[.slice Ao41 t311.length co41, .slice Ao46 t314.length co46, .slice Ao47 t317.length co47], .int .i64 1] rfl ln_ ?_; (with_reducible refine (laws_markRig.calls kj70 (fun k_ => some k_ = (.slice Ao41 t311.length co41 : Value).ownBlock) (.slice Ao41 t311.length co41) t311 (fun k_ => some k_ = (.slice Ao46 t314.length co46 : Value).ownBlock) (.slice Ao46 t314.length co46) t314 (fun k_ => some k_ = (.slice Ao47 t317.length co47 : Value).ownBlock) (.slice Ao47 t317.length co47) t317 1 t338 t339 t340 t341 w _ ?side1 (Kd.R_tight rfl HO_322000.out) (Kd.R_tight rfl HO_322001.out) (Kd.R_tight rfl HO_322002.out) A103.out).mono ?_); (case side1 => repeat (first | (with_reducible first | exact HB.out | apply below_alloc | apply pw_below_drewN | apply below_drew1 | refine below_set ?_ GE279.out | refine below_set ?_ GE300.out | refine below_set ?_ GE310.out | refine below_set ?_ GE321.out) | exact HB.out)); rintro e w189 ⟨rfl, hy0, hy1, hy2, hb, hkp⟩; refine ⟨_, rfl, ?_⟩; replace HO_301000 := ak_ (Kd.R_mono (ok' := fun k_ => some k_ ≠ (.slice Ao33 t334.length co33 : Value).ownBlock ∧ some k_ ≠ (.slice Ao41 t311.length co41 : Value).ownBlock) (Kd.R_keptB ((Kd.R_apart' (Kd.R_apart' HO_301000.out (Kd.R_typed HO_322001.out) (by decide)) (Kd.R_typed HO_322002.out) (by decide))) hkp (fun k_ hk_ hs_ => Or.elim hs_ (fun e_ => (hk_.1.1.2) e_) (fun e_ => Or.elim e_ (fun e_ => (hk_.1.2) e_) (fun e_ => (hk_.2) e_)))) (fun k_ hk_ => ⟨hk_.1.1.1.1, hk_.1.1.1.2⟩)); replace HO_301001 := ak_ (Kd.R_mono (ok' := fun k_ => some k_ ≠ (.slice Ao37 t335.length co37 : Value).ownBlock ∧ some k_ ≠ (.slice Ao46 t314.length co46 : Value).ownBlock) (Kd.R_keptB ((Kd.R_apart' (Kd.R_apart' HO_301001.out (Kd.R_typed HO_322000.out) (by decide)) (Kd.R_typed HO_322002.out) (by decide))) hkp (fun k_ hk_ hs_ => Or.elim hs_ (fun e_ => (hk_.1.2) e_) (fun e_ => Or.elim e_ (fun e_ => (hk_.1.1.2) e_) (fun e_ => (hk_.2) e_)))) (fun k_ hk_ => ⟨hk_.1.1.1.1, hk_.1.1.1.2⟩)); replace HO_301002 := ak_ (Kd.R_mono (ok' := fun k_ => some k_ ≠ (.slice Ao38 t336.length co38 : Value).ownBlock ∧ some k_ ≠ (.slice Ao47 t317.length co47 : Value).ownBlock) (Kd.R_keptB ((Kd.R_apart' (Kd.R_apart' HO_301002.out (Kd.R_typed HO_322000.out) (by decide)) (Kd.R_typed HO_322001.out) (by decide))) hkp (fun k_ hk_ hs_ => Or.elim hs_ (fun e_ => (hk_.1.2) e_) (fun e_ => Or.elim e_ (fun e_ => (hk_.2) e_) (fun e_ => (hk_.1.1.2) e_)))) (fun k_ hk_ => ⟨hk_.1.1.1.1, hk_.1.1.1.2⟩)); replace HO_311000 := ak_ (Kd.R_mono (ok' := fun k_ => some k_ ≠ (.slice Ao25 t290.length co25 : Value).ownBlock ∧ some k_ ≠ (.slice Ao41 t311.length co41 : Value).ownBlock) (Kd.R_keptB ((Kd.R_apart' (Kd.R_apart' HO_311000.out (Kd.R_typed HO_322001.out) (by decide)) (Kd.R_typed HO_322002.out) (by decide))) hkp (fun k_ hk_ hs_ => Or.elim hs_ (fun e_ => (hk_.1.1.2) e_) (fun e_ => Or.elim e_ (fun e_ => (hk_.1.2) e_) (fun e_ => (hk_.2) e_)))) (fun k_ hk_ => ⟨hk_.1.1.1.1, hk_.1.1.1.2⟩)); replace HO_311001 := ak_ (Kd.R_mono (ok' := fun k_ => some k_ ≠ (.slice Ao28 t293.length co28 : Value).ownBlock ∧ some k_ ≠ (.slice Ao46 t314.length co46 : Value).ownBlock) (Kd.R_keptB ((Kd.R_apart' (Kd.R_apart' HO_311001.out (Kd.R_typed HO_322000.out) (by decide)) (Kd.R_typed HO_322002.out) (by decide))) hkp (fun k_ hk_ hs_ => Or.elim hs_ (fun e_ => (hk_.1.2) e_) (fun e_ => Or.elim e_ (fun e_ => (hk_.1.1.2) e_) (fun e_ => (hk_.2) e_)))) (fun k_ hk_ => ⟨hk_.1.1.1.1, hk_.1.1.1.2⟩)); replace HO_311002 := ak_ (Kd.R_mono (ok' := fun k_ => some k_ ≠ (.slice Ao29 t296.length co29 : Value).ownBlock ∧ some k_ ≠ (.slice Ao47 t317.length co47 : Value).ownBlock) (Kd.R_keptB ((Kd.R_apart' (Kd.R_apart' HO_311002.out (Kd.R_typed HO_322000.out) (by decide)) (Kd.R_typed HO_322001.out) (by decide))) hkp (fun k_ hk_ hs_ => Or.elim hs_ (fun e_ => (hk_.1.2) e_) (fun e_ => Or.elim e_ (fun e_ => (hk_.2) e_) (fun e_ => (hk_.1.1.2) e_)))) (fun k_ hk_ => ⟨hk_.1.1.1.1, hk_.1.1.1.2⟩)); replace BK279 := ak_ (blk_kept (bk_ BK279) hkp (fun hs_ => Or.elim hs_ (fun e_ => (fun e_ => (Kd.R_ne HO_322000.out BK279.out (by decide)) e_) e_) (fun e_ => Or.elim e_ (fun e_ => (fun e_ => (Kd.R_ne HO_322001.out BK279.out (by decide)) e_) e_) (fun e_ => (fun e_ => (Kd.R_ne HO_322002.out BK279.out (by decide)) e_) e_)))); replace BK300 := ak_ (blk_kept (bk_ BK300) hkp (fun hs_ => Or.elim hs_ (fun e_ => (fun e_ => (Kd.R_ne HO_322000.out BK300.out (by decide)) e_) e_) (fun e_ => Or.elim e_ (fun e_ => (fun e_ => (Kd.R_ne HO_322001.out BK300.out (by decide)) e_) e_) (fun e_ => (fun e_ => (Kd.R_ne HO_322002.out BK300.out (by decide)) e_) e_)))); replace BK310 := ak_ (blk_kept (bk_ BK310) hkp (fun hs_ => Or.elim hs_ (fun e_ => (fun e_ => (Kd.R_ne HO_322000.out BK310.out (by decide)) e_) e_) (fun e_ => Or.elim e_ (fun e_ => (fun e_ => (Kd.R_ne HO_322001.out BK310.out (by decide)) e_) e_) (fun e_ => (fun e_ => (Kd.R_ne HO_322002.out BK310.out (by decide)) e_) e_)))); replace BK321 := ak_ (blk_kept (bk_ BK321) hkp (fun hs_ => Or.elim hs_ (fun e_ => (fun e_ => (Kd.R_ne HO_322000.out BK321.out (by decide)) e_) e_) (fun e_ => Or.elim e_ (fun e_ => (fun e_ => (Kd.R_ne HO_322001.out BK321.out (by decide)) e_) e_) (fun e_ => (fun e_ => (Kd.R_ne HO_322002.out BK321.out (by decide)) e_) e_)))); replace HO_322000 := ak_ (Kd.R_reok rfl hy0 (fun k_ e_ => HO_322000.out.1 k_ e_)); replace HO_322001 := ak_ (Kd.R_reok rfl hy1 (fun k_ e_ => HO_322001.out.1 k_ e_)); replace HO_322002 := ak_ (Kd.R_reok rfl hy2 (fun k_ e_ => HO_322002.out.1 k_ e_)); replace HB := ak_ (hb); skip; (try clear hb); (try clear hkp); (try clear hy0); (try clear hy1); (try clear hy2); have hcz190_0 : w189.cell? ⟨gb321, 0, none⟩ = some (.slice Ao41 t311.length co41) := (blk_cell BK321.out 0).trans rfl; have hcz190_1 : w189.cell? ⟨gb321, 1, none⟩ = some (.slice Ao46 t314.length co46) := (blk_cell BK321.out 1).trans rfl; have hcz190_2 : w189.cell? ⟨gb321, 2, none⟩ = some (.slice Ao47 t317.length co47) := (blk_cell BK321.out 2).trans rfl; have hfz190_0 := blk_frozen BK321.out 0; have hfz190_1 := blk_frozen BK321.out 1; have hfz190_2 := blk_frozen BK321.out 2) | ((with_reducible refine gate_callee (f := 11) rfl ?_); refine goesL_ (some 74) rfl rfl Try.func11 (by kernel_rfl) rfl #[.agg #[.slice Ao41 t339.length co41, .slice Ao46 t340.length co46, .slice Ao47 t341.length co47], .int .i64 1] rfl (by (try simp only [List.map_toArray, List.map_cons, List.map_nil]); first | done | (rw [show t339.length = t311.length from (Kd.R_reads' HO_322000.out).1.symm, show t340.length = t314.length from (Kd.R_reads' HO_322001.out).1.symm, show t341.length = t317.length from (Kd.R_reads' HO_322002.out).1.symm] <;> rfl) | rfl | (simp only [List.length_drop, List.length_take]; rfl)) ?_; (with_reducible refine (laws_heldRig.calls kj70 _ _ t339 _ _ t340 _ _ t341 1 t342 _ ?side1 ?side2 ?side3 ?side4 ?side5 ?side6 A104.out).mono ?_); (case side1 => repeat (first | exact (Kd.R_reads' HO_322000.out).2.2 | (with_reducible refine Kd.C_alloc ?_ _) | (with_reducible refine Kd.C_drewN ?_ _) | (with_reducible refine Kd.C_drew ?_))); (case side2 => rw [show t339.length = t311.length from (Kd.R_reads' HO_322000.out).1.symm]; exact (Kd.R_reads' HO_322000.out).2.1); (case side3 => repeat (first | exact (Kd.R_reads' HO_322001.out).2.2 | (with_reducible refine Kd.C_alloc ?_ _) | (with_reducible refine Kd.C_drewN ?_ _) | (with_reducible refine Kd.C_drew ?_))); (case side4 => rw [show t340.length = t314.length from (Kd.R_reads' HO_322001.out).1.symm]; exact (Kd.R_reads' HO_322001.out).2.1); (case side5 => repeat (first | exact (Kd.R_reads' HO_322002.out).2.2 | (with_reducible refine Kd.C_alloc ?_ _) | (with_reducible refine Kd.C_drewN ?_ _) | (with_reducible refine Kd.C_drew ?_))); (case side6 => rw [show t341.length = t317.length from (Kd.R_reads' HO_322002.out).1.symm]; exact (Kd.R_reads' HO_322002.out).2.1); rintro e w191 ⟨rfl, hb⟩; refine ⟨_, rfl, ?_⟩; replace HO_301000 := ak_ (Kd.R_below (kr_ HO_301000) hb); replace HO_301001 := ak_ (Kd.R_below (kr_ HO_301001) hb); replace HO_301002 := ak_ (Kd.R_below (kr_ HO_301002) hb); replace HO_311000 := ak_ (Kd.R_below (kr_ HO_311000) hb); replace HO_311001 := ak_ (Kd.R_below (kr_ HO_311001) hb); replace HO_311002 := ak_ (Kd.R_below (kr_ HO_311002) hb); replace HO_322000 := ak_ (Kd.R_below (kr_ HO_322000) hb); replace HO_322001 := ak_ (Kd.R_below (kr_ HO_322001) hb); replace HO_322002 := ak_ (Kd.R_below (kr_ HO_322002) hb); replace BK279 := ak_ (blk_below (g := gb279) (o := .cells #[.slice A0_0 l0_0.length c0_0, .slice A0_1 l0_1.length c0_1, .slice A0_2 l0_2.length c0_2] 26 (0, 0)) (bk_ BK279) hb); replace BK300 := ak_ (blk_below (g := gb300) (o := .cells #[.slice Ao25 t290.length co25, .slice Ao28 t293.length co28, .slice Ao29 t296.length co29] 31 (0, 0)) (bk_ BK300) hb); replace BK310 := ak_ (blk_below (g := gb310) (o := .cells #[.slice Ao33 t334.length co33, .slice Ao37 t335.length co37, .slice Ao38 t336.length co38] 31 (0, 0)) (bk_ BK310) hb); replace BK321 := ak_ (blk_below (g := gb321) (o := .cells #[.slice Ao41 t311.length co41, .slice Ao46 t314.length co46, .slice Ao47 t317.length co47] 31 (0, 0)) (bk_ BK321) hb); replace HB := ak_ (below_step (by repeat (first | (with_reducible first | exact HB.out | apply below_alloc | apply pw_below_drewN | apply below_drew1 | refine below_set ?_ GE279.out | refine below_set ?_ GE300.out | refine below_set ?_ GE310.out | refine below_set ?_ GE321.out) | exact HB.out)) hb); skip; clear hb))
          go_ret
          exact ⟨ew_, by repeat (first | (with_reducible first | exact HB.out | apply below_alloc | apply pw_below_drewN | apply below_drew1 | refine below_set ?_ GE279.out | refine below_set ?_ GE300.out | refine below_set ?_ GE310.out | refine below_set ?_ GE321.out) | exact HB.out)⟩
    ·replace c69 := Bool.eq_false_iff.mpr c69
     subst c69
     have H1 : (some false) = some r := by rw [if_neg (show ¬ (false = true) by decide)] at H; exact H
     clear H
     have H := H1
     clear H1
     obtain rfl := Option.some.inj H
     try go_wp2
     have n0_ := ak_ (Kd.R_drew HO_301000.out)
     have n1_ := ak_ (Kd.R_drew HO_301001.out)
     have n2_ := ak_ (Kd.R_drew HO_301002.out)
     have n3_ := ak_ (Kd.R_drew HO_311000.out)
     have n4_ := ak_ (Kd.R_drew HO_311001.out)
     have n5_ := ak_ (Kd.R_drew HO_311002.out)
     have n6_ := ak_ (Kd.R_drew HO_322000.out)
     have n7_ := ak_ (Kd.R_drew HO_322001.out)
     have n8_ := ak_ (Kd.R_drew HO_322002.out)
     have n9_ := ak_ (blk_drew BK279.out)
     have n10_ := ak_ (blk_drew BK300.out)
     have n11_ := ak_ (blk_drew BK310.out)
     have n12_ := ak_ (blk_drew BK321.out)
     have n13_ := ak_ (below_drew1 HB.out)
     clear HO_301000
     clear HO_301001
     clear HO_301002
     clear HO_311000
     clear HO_311001
     clear HO_311002
     clear HO_322000
     clear HO_322001
     clear HO_322002
     clear BK279
     clear BK300
     clear BK310
     clear BK321
     clear HB
     have HO_301000 := n0_
     have HO_301001 := n1_
     have HO_301002 := n2_
     have HO_311000 := n3_
     have HO_311001 := n4_
     have HO_311002 := n5_
     have HO_322000 := n6_
     have HO_322001 := n7_
     have HO_322002 := n8_
     have BK279 := n9_
     have BK300 := n10_
     have BK310 := n11_
     have BK321 := n12_
     have HB := n13_
     clear n0_ n1_ n2_ n3_ n4_ n5_ n6_ n7_ n8_ n9_ n10_ n11_ n12_ n13_
     refine start_ (n := 5) (S := fun w' => w'.cell? ⟨gb310, 0, none⟩ = some (.slice Ao33 t301.length co33) ∧ w'.cell? ⟨gb310, 1, none⟩ = some (.slice Ao37 t304.length co37) ∧ w'.cell? ⟨gb310, 2, none⟩ = some (.slice Ao38 t307.length co38) ∧ w'.cell? ⟨gb279, 0, none⟩ = some (.slice A0_0 l0_0.length c0_0) ∧ w'.cell? ⟨gb279, 1, none⟩ = some (.slice A0_1 l0_1.length c0_1) ∧ w'.cell? ⟨gb279, 2, none⟩ = some (.slice A0_2 l0_2.length c0_2)) (ds := []) #[F_,F_,F_,F_,F_] (by kernel_rfl) rfl rfl ⟨(blk_cell BK310.out 0).trans rfl, (blk_cell BK310.out 1).trans rfl, (blk_cell BK310.out 2).trans rfl, (blk_cell BK279.out 0).trans rfl, (blk_cell BK279.out 1).trans rfl, (blk_cell BK279.out 2).trans rfl⟩ (fun hHeld => ?_)
     generalize wc.drew = w192 at HO_301000 HO_301001 HO_301002 HO_311000 HO_311001 HO_311002 HO_322000 HO_322001 HO_322002 BK279 BK300 BK310 BK321 HB hHeld ⊢
     refine take_ (i := 0) (N := some 48) (v := ?_) (a' := ?_) #[T_,F_,F_,F_,F_] rfl rfl (by kernel_rfl) (fun _ _ _ h => h) (Or.inl ⟨by rfl, ?_⟩) hHeld ?_ ?_
     rotate_left
     ·rintro w' ⟨s0, s1, s2, s3, s4, s5⟩
      go_simp
      with_reducible rfl
     rotate_left
     ·simp only [Act.put, sT_, s0_, sS_, i64_w, i32_w]
      rfl
     refine take_ (i := 1) (N := some 49) (v := ?_) (a' := ?_) #[T_,T_,F_,F_,F_] rfl rfl (by kernel_rfl) (fun _ _ _ h => h) (Or.inl ⟨by rfl, ?_⟩) hHeld ?_ ?_
     rotate_left
     ·rintro w' ⟨s0, s1, s2, s3, s4, s5⟩
      go_simp
      with_reducible rfl
     rotate_left
     ·simp only [Act.put, sT_, s0_, sS_, i64_w, i32_w]
      rfl
     refine one_ (i := 2) (N := some 50) #[T_,T_,T_,F_,F_] rfl rfl (by kernel_rfl) (by decide) (fun K hK => ?_)
     refine goes_ Try.func7 (by kernel_rfl) rfl #[.agg #[.slice A0_0 l0_0.length c0_0, .slice A0_1 l0_1.length c0_1, .slice A0_2 l0_2.length c0_2]] (by rfl) rfl rfl ln_ ?_
     with_reducible refine (laws_toRig.calls kj13 _ _ l0_0 _ _ l0_1 _ _ l0_2 t323 t326 t329 _ ?side1 ?side2 ?side3 ?side4 ?side5 ?side6 A67.out).mono ?_
     (case side1 => exact kc_ (Kd.C_below HR0_0.out HB.out))
     (case side2 => exact HC0_0.out)
     (case side3 => exact kc_ (Kd.C_below HR0_1.out HB.out))
     (case side4 => exact HC0_1.out)
     (case side5 => exact kc_ (Kd.C_below HR0_2.out HB.out))
     (case side6 => exact HC0_2.out)
     rintro e w193 ⟨v324, v327, v330, rfl, ho0, ho1, ho2, hb⟩
     refine ⟨_, rfl, ?_⟩
     have n0_ := ak_ (Kd.R_elder' (kr_ HO_301000) (Kd.R_base ho0) hb)
     have n1_ := ak_ (Kd.R_elder' (kr_ HO_301001) (Kd.R_base ho1) hb)
     have n2_ := ak_ (Kd.R_elder' (kr_ HO_301002) (Kd.R_base ho2) hb)
     have n3_ := ak_ (Kd.R_elder' (kr_ HO_311000) (Kd.R_base ho0) hb)
     have n4_ := ak_ (Kd.R_elder' (kr_ HO_311001) (Kd.R_base ho1) hb)
     have n5_ := ak_ (Kd.R_elder' (kr_ HO_311002) (Kd.R_base ho2) hb)
     have n6_ := ak_ (Kd.R_elder' (kr_ HO_322000) (Kd.R_base ho0) hb)
     have n7_ := ak_ (Kd.R_elder' (kr_ HO_322001) (Kd.R_base ho1) hb)
     have n8_ := ak_ (Kd.R_elder' (kr_ HO_322002) (Kd.R_base ho2) hb)
     have n9_ := ak_ (Kd.R_lower (Kd.R_new' (Kd.R_new' (Kd.R_new' ho0 (Kd.R_lt (kr_ HO_301000))) (Kd.R_lt (kr_ HO_311000))) (Kd.R_lt (kr_ HO_322000))) (below_size (by repeat (first | (with_reducible first | exact HB.out | apply below_alloc | apply pw_below_drewN | apply below_drew1 | refine below_set ?_ GE279.out | refine below_set ?_ GE300.out | refine below_set ?_ GE310.out | refine below_set ?_ GE321.out) | exact HB.out))))
     have n10_ := ak_ (Kd.R_lower (Kd.R_new' (Kd.R_new' (Kd.R_new' ho1 (Kd.R_lt (kr_ HO_301001))) (Kd.R_lt (kr_ HO_311001))) (Kd.R_lt (kr_ HO_322001))) (below_size (by repeat (first | (with_reducible first | exact HB.out | apply below_alloc | apply pw_below_drewN | apply below_drew1 | refine below_set ?_ GE279.out | refine below_set ?_ GE300.out | refine below_set ?_ GE310.out | refine below_set ?_ GE321.out) | exact HB.out))))
     have n11_ := ak_ (Kd.R_lower (Kd.R_new' (Kd.R_new' (Kd.R_new' ho2 (Kd.R_lt (kr_ HO_301002))) (Kd.R_lt (kr_ HO_311002))) (Kd.R_lt (kr_ HO_322002))) (below_size (by repeat (first | (with_reducible first | exact HB.out | apply below_alloc | apply pw_below_drewN | apply below_drew1 | refine below_set ?_ GE279.out | refine below_set ?_ GE300.out | refine below_set ?_ GE310.out | refine below_set ?_ GE321.out) | exact HB.out))))
     have n12_ := ak_ (blk_below (g := gb279) (o := .cells #[.slice A0_0 l0_0.length c0_0, .slice A0_1 l0_1.length c0_1, .slice A0_2 l0_2.length c0_2] 26 (0, 0)) (bk_ BK279) hb)
     have n13_ := ak_ (blk_below (g := gb300) (o := .cells #[.slice Ao25 t290.length co25, .slice Ao28 t293.length co28, .slice Ao29 t296.length co29] 31 (0, 0)) (bk_ BK300) hb)
     have n14_ := ak_ (blk_below (g := gb310) (o := .cells #[.slice Ao33 t301.length co33, .slice Ao37 t304.length co37, .slice Ao38 t307.length co38] 31 (0, 0)) (bk_ BK310) hb)
     have n15_ := ak_ (blk_below (g := gb321) (o := .cells #[.slice Ao41 t311.length co41, .slice Ao46 t314.length co46, .slice Ao47 t317.length co47] 31 (0, 0)) (bk_ BK321) hb)
     have n16_ := ak_ (below_step (by repeat (first | (with_reducible first | exact HB.out | apply below_alloc | apply pw_below_drewN | apply below_drew1 | refine below_set ?_ GE279.out | refine below_set ?_ GE300.out | refine below_set ?_ GE310.out | refine below_set ?_ GE321.out) | exact HB.out)) hb)
     clear HO_301000
     clear HO_301001
     clear HO_301002
     clear HO_311000
     clear HO_311001
     clear HO_311002
     clear HO_322000
     clear HO_322001
     clear HO_322002
     clear BK279
     clear BK300
     clear BK310
     clear BK321
     clear HB
     have HO_301000 := n0_
     have HO_301001 := n1_
     have HO_301002 := n2_
     have HO_311000 := n3_
     have HO_311001 := n4_
     have HO_311002 := n5_
     have HO_322000 := n6_
     have HO_322001 := n7_
     have HO_322002 := n8_
     have HO325 := n9_
     have HO328 := n10_
     have HO331 := n11_
     have BK279 := n12_
     have BK300 := n13_
     have BK310 := n14_
     have BK321 := n15_
     have HB := n16_
     clear n0_ n1_ n2_ n3_ n4_ n5_ n6_ n7_ n8_ n9_ n10_ n11_ n12_ n13_ n14_ n15_ n16_
     (try clear hb)
     (try clear hb2)
     (try clear hk)
     (try clear hi)
     (try clear ho0)
     (try clear ho1)
     (try clear ho2)
     obtain ⟨Ao194, co194, eo194⟩ := Kd.R_slice HO325.out
     (first | subst eo194 | (injection eo194 with f1_ f2_ f3_; have f4_ := f1_.symm; have f5_ := f3_.symm; clear f1_ f2_ f3_; subst f4_; subst f5_))
     obtain ⟨Ao195, co195, eo195⟩ := Kd.R_slice HO328.out
     (first | subst eo195 | (injection eo195 with f1_ f2_ f3_; have f4_ := f1_.symm; have f5_ := f3_.symm; clear f1_ f2_ f3_; subst f4_; subst f5_))
     obtain ⟨Ao196, co196, eo196⟩ := Kd.R_slice HO331.out
     (first | subst eo196 | (injection eo196 with f1_ f2_ f3_; have f4_ := f1_.symm; have f5_ := f3_.symm; clear f1_ f2_ f3_; subst f4_; subst f5_))
     refine hK.out _ _ ⟨(blk_cell BK310.out 0).trans rfl, (blk_cell BK310.out 1).trans rfl, (blk_cell BK310.out 2).trans rfl, (blk_cell BK279.out 0).trans rfl, (blk_cell BK279.out 1).trans rfl, (blk_cell BK279.out 2).trans rfl⟩ (fun hHeld => ?_)
     clear hK K
     refine norm_ (a' := ?_) ?_ ?_
     rotate_left
     ·show Act.put _ (some 50) _ = _
      simp only [Act.put, sT_, s0_, sS_, i64_w, i32_w]
      rfl
     refine one_ (i := 3) (N := some 51) #[T_,T_,T_,T_,F_] rfl rfl (by kernel_rfl) (by decide) (fun K hK => ?_)
     refine goes_ Try.func9 (by kernel_rfl) rfl #[.agg #[.slice Ao33 t301.length co33, .slice Ao37 t304.length co37, .slice Ao38 t307.length co38], .agg #[.slice Ao194 t323.length co194, .slice Ao195 t326.length co195, .slice Ao196 t329.length co196]] (by rfl) rfl rfl ln_ ?_
     with_reducible refine (laws_eqRig.calls kj13 _ _ t301 _ _ t304 _ _ t307 _ _ t323 _ _ t326 _ _ t329 false _ ?side1 ?side2 ?side3 ?side4 ?side5 ?side6 ?side7 ?side8 ?side9 ?side10 ?side11 ?side12 A68.out).mono ?_
     (case side1 => repeat (first | exact (Kd.R_reads' HO_311000.out).2.2 | (with_reducible refine Kd.C_alloc ?_ _) | (with_reducible refine Kd.C_drewN ?_ _) | (with_reducible refine Kd.C_drew ?_)))
     (case side2 => exact (Kd.R_reads' HO_311000.out).2.1)
     (case side3 => repeat (first | exact (Kd.R_reads' HO_311001.out).2.2 | (with_reducible refine Kd.C_alloc ?_ _) | (with_reducible refine Kd.C_drewN ?_ _) | (with_reducible refine Kd.C_drew ?_)))
     (case side4 => exact (Kd.R_reads' HO_311001.out).2.1)
     (case side5 => repeat (first | exact (Kd.R_reads' HO_311002.out).2.2 | (with_reducible refine Kd.C_alloc ?_ _) | (with_reducible refine Kd.C_drewN ?_ _) | (with_reducible refine Kd.C_drew ?_)))
     (case side6 => exact (Kd.R_reads' HO_311002.out).2.1)
     (case side7 => repeat (first | exact (Kd.R_reads' HO325.out).2.2 | (with_reducible refine Kd.C_alloc ?_ _) | (with_reducible refine Kd.C_drewN ?_ _) | (with_reducible refine Kd.C_drew ?_)))
     (case side8 => exact (Kd.R_reads' HO325.out).2.1)
     (case side9 => repeat (first | exact (Kd.R_reads' HO328.out).2.2 | (with_reducible refine Kd.C_alloc ?_ _) | (with_reducible refine Kd.C_drewN ?_ _) | (with_reducible refine Kd.C_drew ?_)))
     (case side10 => exact (Kd.R_reads' HO328.out).2.1)
     (case side11 => repeat (first | exact (Kd.R_reads' HO331.out).2.2 | (with_reducible refine Kd.C_alloc ?_ _) | (with_reducible refine Kd.C_drewN ?_ _) | (with_reducible refine Kd.C_drew ?_)))
     (case side12 => exact (Kd.R_reads' HO331.out).2.1)
     rintro e w197 ⟨rfl, hb⟩
     refine ⟨_, rfl, ?_⟩
     have n0_ := ak_ (Kd.R_below (kr_ HO_301000) hb)
     have n1_ := ak_ (Kd.R_below (kr_ HO_301001) hb)
     have n2_ := ak_ (Kd.R_below (kr_ HO_301002) hb)
     have n3_ := ak_ (Kd.R_below (kr_ HO_311000) hb)
     have n4_ := ak_ (Kd.R_below (kr_ HO_311001) hb)
     have n5_ := ak_ (Kd.R_below (kr_ HO_311002) hb)
     have n6_ := ak_ (Kd.R_below (kr_ HO_322000) hb)
     have n7_ := ak_ (Kd.R_below (kr_ HO_322001) hb)
     have n8_ := ak_ (Kd.R_below (kr_ HO_322002) hb)
     have n9_ := ak_ (Kd.R_below (kr_ HO325) hb)
     have n10_ := ak_ (Kd.R_below (kr_ HO328) hb)
     have n11_ := ak_ (Kd.R_below (kr_ HO331) hb)
     have n12_ := ak_ (blk_below (g := gb279) (o := .cells #[.slice A0_0 l0_0.length c0_0, .slice A0_1 l0_1.length c0_1, .slice A0_2 l0_2.length c0_2] 26 (0, 0)) (bk_ BK279) hb)
     have n13_ := ak_ (blk_below (g := gb300) (o := .cells #[.slice Ao25 t290.length co25, .slice Ao28 t293.length co28, .slice Ao29 t296.length co29] 31 (0, 0)) (bk_ BK300) hb)
     have n14_ := ak_ (blk_below (g := gb310) (o := .cells #[.slice Ao33 t301.length co33, .slice Ao37 t304.length co37, .slice Ao38 t307.length co38] 31 (0, 0)) (bk_ BK310) hb)
     have n15_ := ak_ (blk_below (g := gb321) (o := .cells #[.slice Ao41 t311.length co41, .slice Ao46 t314.length co46, .slice Ao47 t317.length co47] 31 (0, 0)) (bk_ BK321) hb)
     have n16_ := ak_ (below_step (by repeat (first | (with_reducible first | exact HB.out | apply below_alloc | apply pw_below_drewN | apply below_drew1 | refine below_set ?_ GE279.out | refine below_set ?_ GE300.out | refine below_set ?_ GE310.out | refine below_set ?_ GE321.out) | exact HB.out)) hb)
     clear HO_301000
     clear HO_301001
     clear HO_301002
     clear HO_311000
     clear HO_311001
     clear HO_311002
     clear HO_322000
     clear HO_322001
     clear HO_322002
     clear HO325
     clear HO328
     clear HO331
     clear BK279
     clear BK300
     clear BK310
     clear BK321
     clear HB
     have HO_301000 := n0_
     have HO_301001 := n1_
     have HO_301002 := n2_
     have HO_311000 := n3_
     have HO_311001 := n4_
     have HO_311002 := n5_
     have HO_322000 := n6_
     have HO_322001 := n7_
     have HO_322002 := n8_
     have HO325 := n9_
     have HO328 := n10_
     have HO331 := n11_
     have BK279 := n12_
     have BK300 := n13_
     have BK310 := n14_
     have BK321 := n15_
     have HB := n16_
     clear n0_ n1_ n2_ n3_ n4_ n5_ n6_ n7_ n8_ n9_ n10_ n11_ n12_ n13_ n14_ n15_ n16_
     (try clear hb)
     (try clear hb2)
     (try clear hk)
     (try clear hi)
     refine hK.out _ _ ⟨(blk_cell BK310.out 0).trans rfl, (blk_cell BK310.out 1).trans rfl, (blk_cell BK310.out 2).trans rfl, (blk_cell BK279.out 0).trans rfl, (blk_cell BK279.out 1).trans rfl, (blk_cell BK279.out 2).trans rfl⟩ (fun hHeld => ?_)
     clear hK K
     refine norm_ (a' := ?_) ?_ ?_
     rotate_left
     ·show Act.put _ (some 51) _ = _
      simp only [Act.put, sT_, s0_, sS_, i64_w, i32_w]
      rfl
     refine pure_ (i := 4) (N := some 52) (v := ?_) (a' := ?_) #[T_,T_,T_,T_,T_] rfl rfl (by kernel_rfl) (fun _ _ _ h => h) (Or.inl ⟨by rfl, ?_⟩) ?_ ?_
     rotate_left
     ·intro w'
      go_simp
      with_reducible rfl
     rotate_left
     ·simp only [Act.put, sT_, s0_, sS_, i64_w, i32_w]
      rfl
     refine done_ (by kernel_rfl) ?_
     try go_wp2
     go_ret
     exact ⟨ew_, by repeat (first | (with_reducible first | exact HB.out | apply below_alloc | apply pw_below_drewN | apply below_drew1 | refine below_set ?_ GE279.out | refine below_set ?_ GE300.out | refine below_set ?_ GE310.out | refine below_set ?_ GE321.out) | exact HB.out)⟩

end Go.Proofs.Ytcenjcgfdghfnaa.P
end
