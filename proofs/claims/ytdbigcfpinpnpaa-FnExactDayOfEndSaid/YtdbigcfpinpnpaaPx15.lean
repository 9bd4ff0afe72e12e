-- Written by gprint.py (own program, over the printer of the kit) out of the translation. Lean checks it.
import Derived.Test.YtdbigcfpinpnpaaPx0
import Derived.Test.YtdbigcfpinpnpaaPx11
import Derived.Test.YtdbigcfpinpnpaaWPk
namespace Go.Proofs.Ytdbigcfpinpnpaa.P
open Go.RowKit Go.Proofs.YtdbigcfpinpnpaaW.PrintWords Go.Proofs.YtdbigcfpinpnpaaW.PrintLast Go.Proofs.YtdbigcfpinpnpaaW.PrintMore Go.Proofs.YtdbigcfpinpnpaaW.Pk
open Bool renaming true → T_, false → F_
open List renaming setIfInBounds_toArray → sT_, set_cons_zero → s0_, set_cons_succ → sS_
attribute [local go_sem] max2_int min2_int max_two min_two max_three min_three max_four min_four   -- for this text's walks alone
set_option linter.unusedVariables false
set_option linter.unusedSimpArgs false

/-! ### spec_l21End: function 73 -/
def spec_l21End.j0 : Nat → Int → Int → ByteArray → Int → Int → Int → Option (Int)
 | 0, _, _, _, _, _, _ => none
 | k + 1, x5, x6, x1000, x1001, x1002, x1003 => if x6 > x1003 then (some x5) else (if x1002 = 0 then (some (-1)) else (if (wrap64 ((wrap64 (x5 + (wrap64 (Int.tdiv (wrap64 (x1003 - x6)) x1002)))) + 1)) > 20000 then (some (-1)) else (some (wrap64 ((wrap64 (x5 + (wrap64 (Int.tdiv (wrap64 (x1003 - x6)) x1002)))) + 1)))))
def spec_l21End.f (k : Nat) (s0_0 : ByteArray) (s0_1 : Int) (s0_2 : Int) (s0_3 : Int) (l1 : List (S53)) : Option (Int) := (spec_l21Last.f k l1 s0_0 20000).bind fun bt403 => (if bt403.2.2.2 = true then (spec_l21End.j0 k bt403.2.1 bt403.2.2.1 s0_0 s0_1 s0_2 s0_3) else (spec_l21End.j0 k s0_1 0 s0_0 s0_1 s0_2 s0_3))
theorem spec_l21End.mono_l : ∀ k, (∀ y0 y1 y2 y3 y4 y5, LeO (spec_l21End.j0 k y0 y1 y2 y3 y4 y5) (spec_l21End.j0 (k + 1) y0 y1 y2 y3 y4 y5))
 | 0 => fun _ _ _ _ _ _ r h => by simp [spec_l21End.j0] at h
 | k + 1 => by
  have ih0 := spec_l21End.mono_l k
  ·intro y0 y1 y2 y3 y4 y5
   unfold spec_l21End.j0
   repeat' first
   | (with_reducible exact ih0 _ _ _ _ _ _)
   | (with_reducible exact spec_l21Last.mono _ _ _ _)
   | (with_reducible exact LeO.refl _)
   | (with_reducible exact LeO.none _)
   | (with_reducible refine LeO.ite ?_ ?_)
   | (with_reducible refine LeO.bind ?_ (fun _ => ?_))
   | exact ih0 _ _ _ _ _ _
   | exact spec_l21Last.mono _ _ _ _
   | exact LeO.none _
   | refine LeO.ite ?_ ?_
   | refine LeO.bind ?_ (fun _ => ?_)
theorem spec_l21End.mono : ∀ a0 a1 a2 a3 a4 k, LeO (spec_l21End.f k a0 a1 a2 a3 a4) (spec_l21End.f (k + 1) a0 a1 a2 a3 a4) := by
 intro a0 a1 a2 a3 a4 k
 have ih0 := spec_l21End.mono_l k
 unfold spec_l21End.f
 repeat' first
   | (with_reducible exact ih0 _ _ _ _ _ _)
   | (with_reducible exact spec_l21Last.mono _ _ _ _)
   | (with_reducible exact LeO.refl _)
   | (with_reducible exact LeO.none _)
   | (with_reducible refine LeO.ite ?_ ?_)
   | (with_reducible refine LeO.bind ?_ (fun _ => ?_))
   | exact ih0 _ _ _ _ _ _
   | exact spec_l21Last.mono _ _ _ _
   | exact LeO.none _
   | refine LeO.ite ?_ ?_
   | refine LeO.bind ?_ (fun _ => ?_)
set_option maxHeartbeats 8000000 in
set_option maxRecDepth 100000 in
theorem spec_l21End.calls0 (k : Nat) (g o : Nat) (z : Option Nat) (s0_0 : ByteArray) (s0_1 : Int) (s0_2 : Int) (s0_3 : Int) (A1 : Option Addr) (c1 : Nat) (l1 : List (S53)) (r : Int) (w0 w : World) (hI : IsE73 w0 w g o z s0_0 s0_1 s0_2 s0_3) (hB : Below w0.heap.size w0 w) (hr1 : ∀ W_, KeepBut w W_ w.heap.size none → Kd.C k53 W_ A1 l1.length l1) (hc1 : l1.length ≤ c1) (h : spec_l21End.f k s0_0 s0_1 s0_2 s0_3 l1 = some r) :
  Calls Try.prog 73 #[.pointer (some ⟨g, o, z⟩), .slice A1 l1.length c1] w fun e w' => e = .returned (.int .i64 r) ∧ IsE73 w0 w' g o z s0_0 s0_1 s0_2 s0_3 ∧ Below w0.heap.size w0 w' ∧ KeepBut w w' w.heap.size none := by
 have hu53 := Try.underlying53
 have HR1 := Aside0.mk hr1
 have HC1 := Aside0.mk hc1
 clear hr1 hc1
 have HI0 := Aside0.mk hI
 have HK := Aside0.mk (KeepBut.refl w w.heap.size none)
 have HL := Aside0.mk hB.size
 clear hI
 have HW0 := Aside0.mk hB.size
 have HB := Aside0.mk hB
 clear hB
 have H : ((spec_l21Last.f k l1 s0_0 20000).bind fun bt403 => (if bt403.2.2.2 = true then (spec_l21End.j0 k bt403.2.1 bt403.2.2.1 s0_0 s0_1 s0_2 s0_3) else (spec_l21End.j0 k s0_1 0 s0_0 s0_1 s0_2 s0_3))) = some r := h
 clear h
 replace H := Option.bind_eq_some_iff.mp H
 obtain ⟨⟨t403, t404, t405, t406⟩, A30, H⟩ := H
 replace H : (if t406 = true then (spec_l21End.j0 k t404 t405 s0_0 s0_1 s0_2 s0_3) else (spec_l21End.j0 k s0_1 0 s0_0 s0_1 s0_2 s0_3)) = some r := H
 have A3 := Aside0.mk A30
 clear A30
 have HC4 := Aside0.mk H
 clear H
 obtain ⟨HGz5, hgz5⟩ := HI0.out
 have hcz5_0 := cellE73_0 HGz5
 have hcz5_1 := cellE73_1 HGz5
 have hcz5_2 := cellE73_2 HGz5
 have hcz5_3 := cellE73_3 HGz5
 clear HGz5 hgz5
 go_enter Try.func73, Try.ntmps73
 go_upto_if 23 with (first | (go_at_call 77; (with_reducible refine (spec_l21Last.calls k _ _ l1 s0_0 20000 t403 t404 t405 t406 _ ?side1 ?side2 A3.out).mono ?_); (case side1 => exact Kd.C_foot_now HR1.out (by repeat (first | (with_reducible first | exact HK.out | apply keep_drewN | apply keep_drew | apply keep_alloc) | exact HK.out))); (case side2 => exact HC1.out); rintro e w6 ⟨rfl, hb⟩; have n0_ := Aside0.mk (IsE73.below (by repeat (first | (with_reducible first | exact HI0.out | apply IsE73.alloc | apply IsE73.drewN | apply IsE73.drew) | exact HI0.out)) hb); have n1_ := Aside0.mk (KeepBut.trans (by repeat (first | (with_reducible first | exact HK.out | apply keep_drewN | apply keep_drew | apply keep_alloc) | exact HK.out)) (KeepBut.of_below hb w.heap.size none) (.inl rfl)); have n2_ := Aside0.mk (below_step hb_ hb); clear HI0; clear HK; clear HB; have HI0 := n0_; have HK := n1_; have HB := n2_; clear n0_ n1_ n2_; (try clear hb); (try clear hb2); (try clear hk); (try clear hi)) | ((with_reducible refine gate_dst (N := 7) rfl ?_); refine box_event ?hg (N := 7) ?hd (cs := #[.string (⟨#[]⟩ : ByteArray), .int .i64 0, .int .i64 0]) (t := 53) ?hr ?_; (case hd => rfl); (case hg => rfl); (case hr => first | (go_simp; done) | (go_simp; rfl)); intro gb407 hg w7 hbox hb; have n0_ := Aside0.mk (IsE73.below (by repeat (first | (with_reducible first | exact HI0.out | apply IsE73.alloc | apply IsE73.drewN | apply IsE73.drew) | exact HI0.out)) hb); have n1_ := Aside0.mk (KeepBut.trans (by repeat (first | (with_reducible first | exact HK.out | apply keep_drewN | apply keep_drew | apply keep_alloc) | exact HK.out)) (KeepBut.of_below hb w.heap.size none) (.inl rfl)); have n2_ := Aside0.mk (below_step hb_ hb); have n3_ := Aside0.mk (hbox); have n4_ := Aside0.mk ((by rw [hg]; exact (keep_size (w := w) (g := w.heap.size) (row := none) (by repeat (first | (with_reducible first | exact HK.out | apply keep_drewN | apply keep_drew | apply keep_alloc) | exact HK.out))) : w.heap.size ≤ gb407)); have n5_ := Aside0.mk ((Nat.le_trans HW0.out (by rw [hg]; exact (keep_size (w := w) (g := w.heap.size) (row := none) (by repeat (first | (with_reducible first | exact HK.out | apply keep_drewN | apply keep_drew | apply keep_alloc) | exact HK.out))) : w.heap.size ≤ gb407) : w0.heap.size ≤ gb407)); have n6_ := Aside0.mk ((by rw [hg]; exact Nat.ne_of_lt (IsE73.lt (show IsE73 w0 _ g o z s0_0 s0_1 s0_2 s0_3 from by repeat (first | (with_reducible first | exact HI0.out | apply IsE73.alloc | apply IsE73.drewN | apply IsE73.drew) | exact HI0.out))) : g ≠ gb407)); have n7_ := Aside0.mk ((by rw [hg]; exact Nat.ne_of_gt (IsE73.lt (show IsE73 w0 _ g o z s0_0 s0_1 s0_2 s0_3 from by repeat (first | (with_reducible first | exact HI0.out | apply IsE73.alloc | apply IsE73.drewN | apply IsE73.drew) | exact HI0.out))) : gb407 ≠ g)); clear HI0; clear HK; clear HB; have HI0 := n0_; have HK := n1_; have HB := n2_; have BK407 := n3_; have GW407 := n4_; have GE407 := n5_; have NB0_407 := n6_; have NB407_0 := n7_; clear n0_ n1_ n2_ n3_ n4_ n5_ n6_ n7_; clear hb hbox hg; have hnb8 := NB407_0.out; have hnc8 := NB0_407.out; have hcz9_0 : w7.cell? ⟨gb407, 0, none⟩ = some (.string (⟨#[]⟩ : ByteArray)) := (blk_cell BK407.out 0).trans rfl; have hcz9_1 : w7.cell? ⟨gb407, 1, none⟩ = some (.int .i64 0) := (blk_cell BK407.out 1).trans rfl; have hcz9_2 : w7.cell? ⟨gb407, 2, none⟩ = some (.int .i64 0) := (blk_cell BK407.out 2).trans rfl; have hfz9_0 := blk_frozen BK407.out 0; have hfz9_1 := blk_frozen BK407.out 1; have hfz9_2 := blk_frozen BK407.out 2))
 repeat (go_quiet (first | (go_at_call 77; (with_reducible refine (spec_l21Last.calls k _ _ l1 s0_0 20000 t403 t404 t405 t406 _ ?side1 ?side2 A3.out).mono ?_); (case side1 => exact Kd.C_foot_now HR1.out (by repeat (first | (with_reducible first | exact HK.out | apply keep_drewN | apply keep_drew | apply keep_alloc) | exact HK.out))); (case side2 => exact HC1.out); rintro e w6 ⟨rfl, hb⟩; have n0_ := Aside0.mk (IsE73.below (by repeat (first | (with_reducible first | exact HI0.out | apply IsE73.alloc | apply IsE73.drewN | apply IsE73.drew) | exact HI0.out)) hb); have n1_ := Aside0.mk (KeepBut.trans (by repeat (first | (with_reducible first | exact HK.out | apply keep_drewN | apply keep_drew | apply keep_alloc) | exact HK.out)) (KeepBut.of_below hb w.heap.size none) (.inl rfl)); have n2_ := Aside0.mk (below_step hb_ hb); clear HI0; clear HK; clear HB; have HI0 := n0_; have HK := n1_; have HB := n2_; clear n0_ n1_ n2_; (try clear hb); (try clear hb2); (try clear hk); (try clear hi)) | ((with_reducible refine gate_dst (N := 7) rfl ?_); refine box_event ?hg (N := 7) ?hd (cs := #[.string (⟨#[]⟩ : ByteArray), .int .i64 0, .int .i64 0]) (t := 53) ?hr ?_; (case hd => rfl); (case hg => rfl); (case hr => first | (go_simp; done) | (go_simp; rfl)); intro gb407 hg w7 hbox hb; have n0_ := Aside0.mk (IsE73.below (by repeat (first | (with_reducible first | exact HI0.out | apply IsE73.alloc | apply IsE73.drewN | apply IsE73.drew) | exact HI0.out)) hb); have n1_ := Aside0.mk (KeepBut.trans (by repeat (first | (with_reducible first | exact HK.out | apply keep_drewN | apply keep_drew | apply keep_alloc) | exact HK.out)) (KeepBut.of_below hb w.heap.size none) (.inl rfl)); have n2_ := Aside0.mk (below_step hb_ hb); have n3_ := Aside0.mk (hbox); have n4_ := Aside0.mk ((by rw [hg]; exact (keep_size (w := w) (g := w.heap.size) (row := none) (by repeat (first | (with_reducible first | exact HK.out | apply keep_drewN | apply keep_drew | apply keep_alloc) | exact HK.out))) : w.heap.size ≤ gb407)); have n5_ := Aside0.mk ((Nat.le_trans HW0.out (by rw [hg]; exact (keep_size (w := w) (g := w.heap.size) (row := none) (by repeat (first | (with_reducible first | exact HK.out | apply keep_drewN | apply keep_drew | apply keep_alloc) | exact HK.out))) : w.heap.size ≤ gb407) : w0.heap.size ≤ gb407)); have n6_ := Aside0.mk ((by rw [hg]; exact Nat.ne_of_lt (IsE73.lt (show IsE73 w0 _ g o z s0_0 s0_1 s0_2 s0_3 from by repeat (first | (with_reducible first | exact HI0.out | apply IsE73.alloc | apply IsE73.drewN | apply IsE73.drew) | exact HI0.out))) : g ≠ gb407)); have n7_ := Aside0.mk ((by rw [hg]; exact Nat.ne_of_gt (IsE73.lt (show IsE73 w0 _ g o z s0_0 s0_1 s0_2 s0_3 from by repeat (first | (with_reducible first | exact HI0.out | apply IsE73.alloc | apply IsE73.drewN | apply IsE73.drew) | exact HI0.out))) : gb407 ≠ g)); clear HI0; clear HK; clear HB; have HI0 := n0_; have HK := n1_; have HB := n2_; have BK407 := n3_; have GW407 := n4_; have GE407 := n5_; have NB0_407 := n6_; have NB407_0 := n7_; clear n0_ n1_ n2_ n3_ n4_ n5_ n6_ n7_; clear hb hbox hg; have hnb8 := NB407_0.out; have hnc8 := NB0_407.out; have hcz9_0 : w7.cell? ⟨gb407, 0, none⟩ = some (.string (⟨#[]⟩ : ByteArray)) := (blk_cell BK407.out 0).trans rfl; have hcz9_1 : w7.cell? ⟨gb407, 1, none⟩ = some (.int .i64 0) := (blk_cell BK407.out 1).trans rfl; have hcz9_2 : w7.cell? ⟨gb407, 2, none⟩ = some (.int .i64 0) := (blk_cell BK407.out 2).trans rfl; have hfz9_0 := blk_frozen BK407.out 0; have hfz9_1 := blk_frozen BK407.out 1; have hfz9_2 := blk_frozen BK407.out 2)); go_upto_if 23 with (first | (go_at_call 77; (with_reducible refine (spec_l21Last.calls k _ _ l1 s0_0 20000 t403 t404 t405 t406 _ ?side1 ?side2 A3.out).mono ?_); (case side1 => exact Kd.C_foot_now HR1.out (by repeat (first | (with_reducible first | exact HK.out | apply keep_drewN | apply keep_drew | apply keep_alloc) | exact HK.out))); (case side2 => exact HC1.out); rintro e w6 ⟨rfl, hb⟩; have n0_ := Aside0.mk (IsE73.below (by repeat (first | (with_reducible first | exact HI0.out | apply IsE73.alloc | apply IsE73.drewN | apply IsE73.drew) | exact HI0.out)) hb); have n1_ := Aside0.mk (KeepBut.trans (by repeat (first | (with_reducible first | exact HK.out | apply keep_drewN | apply keep_drew | apply keep_alloc) | exact HK.out)) (KeepBut.of_below hb w.heap.size none) (.inl rfl)); have n2_ := Aside0.mk (below_step hb_ hb); clear HI0; clear HK; clear HB; have HI0 := n0_; have HK := n1_; have HB := n2_; clear n0_ n1_ n2_; (try clear hb); (try clear hb2); (try clear hk); (try clear hi)) | ((with_reducible refine gate_dst (N := 7) rfl ?_); refine box_event ?hg (N := 7) ?hd (cs := #[.string (⟨#[]⟩ : ByteArray), .int .i64 0, .int .i64 0]) (t := 53) ?hr ?_; (case hd => rfl); (case hg => rfl); (case hr => first | (go_simp; done) | (go_simp; rfl)); intro gb407 hg w7 hbox hb; have n0_ := Aside0.mk (IsE73.below (by repeat (first | (with_reducible first | exact HI0.out | apply IsE73.alloc | apply IsE73.drewN | apply IsE73.drew) | exact HI0.out)) hb); have n1_ := Aside0.mk (KeepBut.trans (by repeat (first | (with_reducible first | exact HK.out | apply keep_drewN | apply keep_drew | apply keep_alloc) | exact HK.out)) (KeepBut.of_below hb w.heap.size none) (.inl rfl)); have n2_ := Aside0.mk (below_step hb_ hb); have n3_ := Aside0.mk (hbox); have n4_ := Aside0.mk ((by rw [hg]; exact (keep_size (w := w) (g := w.heap.size) (row := none) (by repeat (first | (with_reducible first | exact HK.out | apply keep_drewN | apply keep_drew | apply keep_alloc) | exact HK.out))) : w.heap.size ≤ gb407)); have n5_ := Aside0.mk ((Nat.le_trans HW0.out (by rw [hg]; exact (keep_size (w := w) (g := w.heap.size) (row := none) (by repeat (first | (with_reducible first | exact HK.out | apply keep_drewN | apply keep_drew | apply keep_alloc) | exact HK.out))) : w.heap.size ≤ gb407) : w0.heap.size ≤ gb407)); have n6_ := Aside0.mk ((by rw [hg]; exact Nat.ne_of_lt (IsE73.lt (show IsE73 w0 _ g o z s0_0 s0_1 s0_2 s0_3 from by repeat (first | (with_reducible first | exact HI0.out | apply IsE73.alloc | apply IsE73.drewN | apply IsE73.drew) | exact HI0.out))) : g ≠ gb407)); have n7_ := Aside0.mk ((by rw [hg]; exact Nat.ne_of_gt (IsE73.lt (show IsE73 w0 _ g o z s0_0 s0_1 s0_2 s0_3 from by repeat (first | (with_reducible first | exact HI0.out | apply IsE73.alloc | apply IsE73.drewN | apply IsE73.drew) | exact HI0.out))) : gb407 ≠ g)); clear HI0; clear HK; clear HB; have HI0 := n0_; have HK := n1_; have HB := n2_; have BK407 := n3_; have GW407 := n4_; have GE407 := n5_; have NB0_407 := n6_; have NB407_0 := n7_; clear n0_ n1_ n2_ n3_ n4_ n5_ n6_ n7_; clear hb hbox hg; have hnb8 := NB407_0.out; have hnc8 := NB0_407.out; have hcz9_0 : w7.cell? ⟨gb407, 0, none⟩ = some (.string (⟨#[]⟩ : ByteArray)) := (blk_cell BK407.out 0).trans rfl; have hcz9_1 : w7.cell? ⟨gb407, 1, none⟩ = some (.int .i64 0) := (blk_cell BK407.out 1).trans rfl; have hcz9_2 : w7.cell? ⟨gb407, 2, none⟩ = some (.int .i64 0) := (blk_cell BK407.out 2).trans rfl; have hfz9_0 := blk_frozen BK407.out 0; have hfz9_1 := blk_frozen BK407.out 1; have hfz9_2 := blk_frozen BK407.out 2)))
 (try simp only [Act.put, List.setIfInBounds_toArray, List.set_cons_zero, List.set_cons_succ])
 go_cut [5, 6] (fun v5 v6 wc => ∃ (kq : Nat) (x5_3 : Int) (x6_3 : Int), v5 = .int .i64 x5_3 ∧ v6 = .int .i64 x6_3 ∧ Aside0 (spec_l21End.j0 kq x5_3 x6_3 s0_0 s0_1 s0_2 s0_3 = some r) ∧ Aside0 (kq ≤ k) ∧ Aside0 (wc.heap[gb407]? = some (.cells #[.string t403, .int .i64 t404, .int .i64 t405] 53 (0, 0))) ∧ Aside0 (IsE73 w0 wc g o z s0_0 s0_1 s0_2 s0_3) ∧ Aside0 (KeepBut w wc w.heap.size none) ∧ Aside0 (Below w0.heap.size w0 wc))
 case first =>
  have H := HC4.out
  clear HC4
  by_cases c10 : t406 = true
  ·subst c10
   have H1 : (spec_l21End.j0 k t404 t405 s0_0 s0_1 s0_2 s0_3) = some r := by rw [if_pos rfl] at H; exact H
   clear H
   have H := H1
   clear H1
   have H' := Aside0.mk H
   clear H
   have hnb11 := NB407_0.out
   have hnc11 := NB0_407.out
   have hcz12_0 : w7.cell? ⟨gb407, 0, none⟩ = some (.string (⟨#[]⟩ : ByteArray)) := (blk_cell BK407.out 0).trans rfl
   have hcz12_1 : w7.cell? ⟨gb407, 1, none⟩ = some (.int .i64 0) := (blk_cell BK407.out 1).trans rfl
   have hcz12_2 : w7.cell? ⟨gb407, 2, none⟩ = some (.int .i64 0) := (blk_cell BK407.out 2).trans rfl
   have hfz12_0 := blk_frozen BK407.out 0
   have hfz12_1 := blk_frozen BK407.out 1
   have hfz12_2 := blk_frozen BK407.out 2
   go_wp2
   repeat (go_quiet (fail); try go_wp2)
   go_meet
   case rel => exact ⟨_, (t404), (t405), (by first | rfl | (simp; done) | (simp [*]; done)), (by first | rfl | (simp; done) | (simp [*]; done)), H', ⟨by first | omega | exact Nat.le_refl _⟩, ⟨by (with_reducible repeat (first | refine blk_drewN ?_ _ | refine blk_drew ?_ | refine blk_alloc ?_ _)); refine blk_put (cs := #[.string t403, .int .i64 t404, .int .i64 0]) ?_ 2 _ rfl; (with_reducible repeat (first | refine blk_drewN ?_ _ | refine blk_drew ?_ | refine blk_alloc ?_ _)); refine blk_put (cs := #[.string t403, .int .i64 0, .int .i64 0]) ?_ 1 _ rfl; (with_reducible repeat (first | refine blk_drewN ?_ _ | refine blk_drew ?_ | refine blk_alloc ?_ _)); refine blk_put (cs := #[.string (⟨#[]⟩ : ByteArray), .int .i64 0, .int .i64 0]) ?_ 0 _ rfl; (with_reducible repeat (first | refine blk_drewN ?_ _ | refine blk_drew ?_ | refine blk_alloc ?_ _)); exact BK407.out⟩, ⟨by repeat (first | (with_reducible first | exact HI0.out | apply IsE73.alloc | apply IsE73.drewN | apply IsE73.drew | refine IsE73.far ?_ NB0_407.out _) | exact HI0.out)⟩, ⟨by repeat (first | (with_reducible first | exact HK.out | apply keep_drewN | apply keep_drew | apply keep_alloc | refine keep_far ?_ GW407.out _) | exact HK.out)⟩, ⟨(hg_ GE407)⟩⟩
  ·replace c10 := Bool.eq_false_iff.mpr c10
   subst c10
   have H1 : (spec_l21End.j0 k s0_1 0 s0_0 s0_1 s0_2 s0_3) = some r := by rw [if_neg (show ¬ (false = true) by decide)] at H; exact H
   clear H
   have H := H1
   clear H1
   have H' := Aside0.mk H
   clear H
   go_wp2
   repeat (go_quiet (fail); try go_wp2)
   go_meet
   case rel => exact ⟨_, (s0_1), (0), (by first | rfl | (simp; done) | (simp [*]; done)), (by first | rfl | (simp; done) | (simp [*]; done)), H', ⟨by first | omega | exact Nat.le_refl _⟩, ⟨by (with_reducible repeat (first | refine blk_drewN ?_ _ | refine blk_drew ?_ | refine blk_alloc ?_ _)); refine blk_put (cs := #[.string t403, .int .i64 t404, .int .i64 0]) ?_ 2 _ rfl; (with_reducible repeat (first | refine blk_drewN ?_ _ | refine blk_drew ?_ | refine blk_alloc ?_ _)); refine blk_put (cs := #[.string t403, .int .i64 0, .int .i64 0]) ?_ 1 _ rfl; (with_reducible repeat (first | refine blk_drewN ?_ _ | refine blk_drew ?_ | refine blk_alloc ?_ _)); refine blk_put (cs := #[.string (⟨#[]⟩ : ByteArray), .int .i64 0, .int .i64 0]) ?_ 0 _ rfl; (with_reducible repeat (first | refine blk_drewN ?_ _ | refine blk_drew ?_ | refine blk_alloc ?_ _)); exact BK407.out⟩, ⟨by repeat (first | (with_reducible first | exact HI0.out | apply IsE73.alloc | apply IsE73.drewN | apply IsE73.drew | refine IsE73.far ?_ NB0_407.out _) | exact HI0.out)⟩, ⟨by repeat (first | (with_reducible first | exact HK.out | apply keep_drewN | apply keep_drew | apply keep_alloc | refine keep_far ?_ GW407.out _) | exact HK.out)⟩, ⟨(hg_ GE407)⟩⟩
 case rest =>
  clear HC4
  try clear c1
  try clear p2
  try clear c7
  try clear c8
  try clear c10
  try clear c11
  try clear hcz12_0
  try clear hcz12_1
  try clear hcz12_2
  try clear hcz5_0
  try clear hcz5_1
  try clear hcz5_2
  try clear hcz5_3
  try clear hcz9_0
  try clear hcz9_1
  try clear hcz9_2
  try clear hfz12_0
  try clear hfz12_1
  try clear hfz12_2
  try clear hfz5_0
  try clear hfz5_1
  try clear hfz5_2
  try clear hfz5_3
  try clear hfz9_0
  try clear hfz9_1
  try clear hfz9_2
  obtain ⟨kq, x5_3, x6_3, rfl, rfl, HA, HJ3, BK407, HI0, HK, HB⟩ := hcut
  cases kq with
  | zero => exact absurd HA.out (by simp [spec_l21End.j0])
  | succ kj3 =>
   have H := HA.out
   clear HA
   simp only [spec_l21End.j0] at H
   by_cases c13 : x6_3 > s0_3
   ·rw [if_pos c13] at H
    have c13b0 : decide (s0_3 < x6_3) = true := decide_eq_true c13
    clear c13
    obtain rfl := Option.some.inj H
    obtain ⟨HGz14, hgz14⟩ := HI0.out
    have hcz14_0 := cellE73_0 HGz14
    have hcz14_1 := cellE73_1 HGz14
    have hcz14_2 := cellE73_2 HGz14
    have hcz14_3 := cellE73_3 HGz14
    clear HGz14 hgz14
    go_wp2
    repeat (go_quiet (fail); try go_wp2)
    go_ret
    exact ⟨ew_, by repeat (first | (with_reducible first | exact HI0.out | apply IsE73.alloc | apply IsE73.drewN | apply IsE73.drew | refine IsE73.far ?_ NB0_407.out _) | exact HI0.out), (hg_ GE407), by repeat (first | (with_reducible first | exact HK.out | apply keep_drewN | apply keep_drew | apply keep_alloc | refine keep_far ?_ GW407.out _) | exact HK.out)⟩
   ·rw [if_neg c13] at H
    have c13b0 : decide (s0_3 < x6_3) = false := decide_eq_false c13
    clear c13
    by_cases c15 : s0_2 = 0
    ·rw [if_pos c15] at H
     have c15b0 : (s0_2 == 0) = true := beq_iff_eq.mpr c15
     have c15b1 : (s0_2 != 0) = false := bne_eq_false_iff_eq.mpr c15
     clear c15
     obtain rfl := Option.some.inj H
     obtain ⟨HGz16, hgz16⟩ := HI0.out
     have hcz16_0 := cellE73_0 HGz16
     have hcz16_1 := cellE73_1 HGz16
     have hcz16_2 := cellE73_2 HGz16
     have hcz16_3 := cellE73_3 HGz16
     clear HGz16 hgz16
     go_wp2
     repeat (go_quiet (fail); try go_wp2)
     go_ret
     exact ⟨ew_, by repeat (first | (with_reducible first | exact HI0.out | apply IsE73.alloc | apply IsE73.drewN | apply IsE73.drew | refine IsE73.far ?_ NB0_407.out _) | exact HI0.out), (hg_ GE407), by repeat (first | (with_reducible first | exact HK.out | apply keep_drewN | apply keep_drew | apply keep_alloc | refine keep_far ?_ GW407.out _) | exact HK.out)⟩
    ·rw [if_neg c15] at H
     have c15b0 : (s0_2 == 0) = false := beq_eq_false_iff_ne.mpr c15
     have c15b1 : (s0_2 != 0) = true := bne_iff_ne.mpr c15
     by_cases c17 : (wrap64 ((wrap64 (x5_3 + (wrap64 (Int.tdiv (wrap64 (s0_3 - x6_3)) s0_2)))) + 1)) > 20000
     ·rw [if_pos c17] at H
      have c17b0 : decide (20000 < (wrap64 ((wrap64 (x5_3 + (wrap64 (Int.tdiv (wrap64 (s0_3 - x6_3)) s0_2)))) + 1))) = true := decide_eq_true c17
      clear c17
      obtain rfl := Option.some.inj H
      obtain ⟨HGz18, hgz18⟩ := HI0.out
      have hcz18_0 := cellE73_0 HGz18
      have hcz18_1 := cellE73_1 HGz18
      have hcz18_2 := cellE73_2 HGz18
      have hcz18_3 := cellE73_3 HGz18
      clear HGz18 hgz18
      go_wp2
      repeat (go_quiet (fail); try go_wp2)
      go_ret
      exact ⟨ew_, by repeat (first | (with_reducible first | exact HI0.out | apply IsE73.alloc | apply IsE73.drewN | apply IsE73.drew | refine IsE73.far ?_ NB0_407.out _) | exact HI0.out), (hg_ GE407), by repeat (first | (with_reducible first | exact HK.out | apply keep_drewN | apply keep_drew | apply keep_alloc | refine keep_far ?_ GW407.out _) | exact HK.out)⟩
     ·rw [if_neg c17] at H
      have c17b0 : decide (20000 < (wrap64 ((wrap64 (x5_3 + (wrap64 (Int.tdiv (wrap64 (s0_3 - x6_3)) s0_2)))) + 1))) = false := decide_eq_false c17
      clear c17
      obtain rfl := Option.some.inj H
      obtain ⟨HGz19, hgz19⟩ := HI0.out
      have hcz19_0 := cellE73_0 HGz19
      have hcz19_1 := cellE73_1 HGz19
      have hcz19_2 := cellE73_2 HGz19
      have hcz19_3 := cellE73_3 HGz19
      clear HGz19 hgz19
      go_wp2
      repeat (go_quiet (fail); try go_wp2)
      go_ret
      exact ⟨ew_, by repeat (first | (with_reducible first | exact HI0.out | apply IsE73.alloc | apply IsE73.drewN | apply IsE73.drew | refine IsE73.far ?_ NB0_407.out _) | exact HI0.out), (hg_ GE407), by repeat (first | (with_reducible first | exact HK.out | apply keep_drewN | apply keep_drew | apply keep_alloc | refine keep_far ?_ GW407.out _) | exact HK.out)⟩
theorem spec_l21End.calls (k : Nat) (g : Addr) (s0_0 : ByteArray) (s0_1 : Int) (s0_2 : Int) (s0_3 : Int) (A1 : Option Addr) (c1 : Nat) (l1 : List (S53)) (r : Int) (w : World) (hr1 : Kd.C k53 w A1 l1.length l1) (hc1 : l1.length ≤ c1) (he0 : w.cell? g = some (.string s0_0)) (he1 : w.cell? ⟨g.block, g.off + 1, none⟩ = some (.int .i64 s0_1)) (he2 : w.cell? ⟨g.block, g.off + 2, none⟩ = some (.int .i64 s0_2)) (he3 : w.cell? ⟨g.block, g.off + 3, none⟩ = some (.int .i64 s0_3)) (h : spec_l21End.f k s0_0 s0_1 s0_2 s0_3 l1 = some r) :
  Calls Try.prog 73 #[.pointer (some g), .slice A1 l1.length c1] w fun e w' => e = .returned (.int .i64 r) ∧ Below w.heap.size w w' := by
 refine (spec_l21End.calls0 k g.block g.off g.spot s0_0 s0_1 s0_2 s0_3 A1 c1 l1 r w w ⟨⟨he0, he1, he2, he3⟩, trivial⟩ (Below.refl _ _) (Kd.C_foot_came k53_heap hr1 (Below.refl _ _) (Nat.le_refl _)) hc1 h).mono ?_
 rintro e w' ⟨rfl, _, hb, _⟩
 exact ⟨rfl, hb⟩


/-! ### impl_dayOfEnd: function 74 -/
def impl_dayOfEnd.j0 : Nat → Int → Int → ByteArray → Int → Int → Int → Option (Int)
 | 0, _, _, _, _, _, _ => none
 | k + 1, x5, x6, x413000, x413001, x413002, x413003 => if x5 ≤ x413003 then (if x413002 = 0 then (some (-1)) else (if (wrap64 (x6 + (wrap64 ((wrap64 (Int.tdiv (wrap64 (x413003 - x5)) x413002)) + 1)))) > 20000 then (some (-1)) else (some (wrap64 (x6 + (wrap64 ((wrap64 (Int.tdiv (wrap64 (x413003 - x5)) x413002)) + 1))))))) else (if x6 > 20000 then (some (-1)) else (some x6))
def impl_dayOfEnd.f (k : Nat) (a0_0 : ByteArray) (a0_1 : Int) (a0_2 : Int) (a0_3 : Int) (l1 : List (S53)) : Option (Int) := (impl_checksOf.f k l1 a0_0).bind fun t413 => (if (t413.length : Int) > 0 then (if 0 ≤ (wrap64 ((t413.length : Int) - 1)) then (if (wrap64 ((t413.length : Int) - 1)) < (t413.length : Int) then (impl_dayOfEnd.j0 k ((rd_T53 t413 (wrap64 ((t413.length : Int) - 1))).f2) ((rd_T53 t413 (wrap64 ((t413.length : Int) - 1))).f1) a0_0 a0_1 a0_2 a0_3) else (none)) else (none)) else (impl_dayOfEnd.j0 k 0 a0_1 a0_0 a0_1 a0_2 a0_3))
theorem impl_dayOfEnd.mono_l : ∀ k, (∀ y0 y1 y2 y3 y4 y5, LeO (impl_dayOfEnd.j0 k y0 y1 y2 y3 y4 y5) (impl_dayOfEnd.j0 (k + 1) y0 y1 y2 y3 y4 y5))
 | 0 => fun _ _ _ _ _ _ r h => by simp [impl_dayOfEnd.j0] at h
 | k + 1 => by
  have ih0 := impl_dayOfEnd.mono_l k
  ·intro y0 y1 y2 y3 y4 y5
   unfold impl_dayOfEnd.j0
   repeat' first
   | (with_reducible exact ih0 _ _ _ _ _ _)
   | (with_reducible exact impl_checksOf.mono _ _ _)
   | (with_reducible exact LeO.refl _)
   | (with_reducible exact LeO.none _)
   | (with_reducible refine LeO.ite ?_ ?_)
   | (with_reducible refine LeO.bind ?_ (fun _ => ?_))
   | exact ih0 _ _ _ _ _ _
   | exact impl_checksOf.mono _ _ _
   | exact LeO.none _
   | refine LeO.ite ?_ ?_
   | refine LeO.bind ?_ (fun _ => ?_)
theorem impl_dayOfEnd.mono : ∀ a0 a1 a2 a3 a4 k, LeO (impl_dayOfEnd.f k a0 a1 a2 a3 a4) (impl_dayOfEnd.f (k + 1) a0 a1 a2 a3 a4) := by
 intro a0 a1 a2 a3 a4 k
 have ih0 := impl_dayOfEnd.mono_l k
 unfold impl_dayOfEnd.f
 repeat' first
   | (with_reducible exact ih0 _ _ _ _ _ _)
   | (with_reducible exact impl_checksOf.mono _ _ _)
   | (with_reducible exact LeO.refl _)
   | (with_reducible exact LeO.none _)
   | (with_reducible refine LeO.ite ?_ ?_)
   | (with_reducible refine LeO.bind ?_ (fun _ => ?_))
   | exact ih0 _ _ _ _ _ _
   | exact impl_checksOf.mono _ _ _
   | exact LeO.none _
   | refine LeO.ite ?_ ?_
   | refine LeO.bind ?_ (fun _ => ?_)
set_option maxHeartbeats 8000000 in
set_option maxRecDepth 100000 in
theorem impl_dayOfEnd.calls (k : Nat) (a0_0 : ByteArray) (a0_1 : Int) (a0_2 : Int) (a0_3 : Int) (A1 : Option Addr) (c1 : Nat) (l1 : List (S53)) (r : Int) (w : World) (hr1 : Kd.C k53 w A1 l1.length l1) (hc1 : l1.length ≤ c1) (h : impl_dayOfEnd.f k a0_0 a0_1 a0_2 a0_3 l1 = some r) :
  Calls Try.prog 74 #[.agg #[.string a0_0, .int .i64 a0_1, .int .i64 a0_2, .int .i64 a0_3], .slice A1 l1.length c1] w fun e w' => e = .returned (.int .i64 r) ∧ Below w.heap.size w w' := by
 have hu73 := Try.underlying73
 have HR1 := Aside0.mk hr1
 have HC1 := Aside0.mk hc1
 clear hr1 hc1
 have HB := Aside0.mk (Below.refl w.heap.size w)
 have H : ((impl_checksOf.f k l1 a0_0).bind fun t413 => (if (t413.length : Int) > 0 then (if 0 ≤ (wrap64 ((t413.length : Int) - 1)) then (if (wrap64 ((t413.length : Int) - 1)) < (t413.length : Int) then (impl_dayOfEnd.j0 k ((rd_T53 t413 (wrap64 ((t413.length : Int) - 1))).f2) ((rd_T53 t413 (wrap64 ((t413.length : Int) - 1))).f1) a0_0 a0_1 a0_2 a0_3) else (none)) else (none)) else (impl_dayOfEnd.j0 k 0 a0_1 a0_0 a0_1 a0_2 a0_3))) = some r := h
 clear h
 replace H := Option.bind_eq_some_iff.mp H
 obtain ⟨t413, A30, H⟩ := H
 replace H : (if (t413.length : Int) > 0 then (if 0 ≤ (wrap64 ((t413.length : Int) - 1)) then (if (wrap64 ((t413.length : Int) - 1)) < (t413.length : Int) then (impl_dayOfEnd.j0 k ((rd_T53 t413 (wrap64 ((t413.length : Int) - 1))).f2) ((rd_T53 t413 (wrap64 ((t413.length : Int) - 1))).f1) a0_0 a0_1 a0_2 a0_3) else (none)) else (none)) else (impl_dayOfEnd.j0 k 0 a0_1 a0_0 a0_1 a0_2 a0_3)) = some r := H
 have A3 := Aside0.mk A30
 clear A30
 have HC4 := Aside0.mk H
 clear H
 go_enter Try.func74, Try.ntmps74
 go_upto_if 16 with (first | ((with_reducible refine gate_dst (N := 2) rfl ?_); refine box_event ?hg (N := 2) ?hd (cs := #[.string a0_0, .int .i64 a0_1, .int .i64 a0_2, .int .i64 a0_3]) (t := 73) ?hr ?_; (case hd => rfl); (case hg => rfl); (case hr => first | (go_simp; done) | (go_simp; rfl)); intro gb412 hg w5 hbox hb; have n0_ := Aside0.mk (below_step hb_ hb); have n1_ := Aside0.mk (hbox); have n2_ := Aside0.mk ((by rw [hg]; exact (below_size hb_) : w.heap.size ≤ gb412)); have n3_ := Aside0.mk ((by rw [hg]; exact (below_size hb_) : w.heap.size ≤ gb412)); clear HB; have HB := n0_; have BK412 := n1_; have GW412 := n2_; have GE412 := n3_; clear n0_ n1_ n2_ n3_; clear hb hbox hg; have hcz6_0 : w5.cell? ⟨gb412, 0, none⟩ = some (.string a0_0) := (blk_cell BK412.out 0).trans rfl; have hcz6_1 : w5.cell? ⟨gb412, 1, none⟩ = some (.int .i64 a0_1) := (blk_cell BK412.out 1).trans rfl; have hcz6_2 : w5.cell? ⟨gb412, 2, none⟩ = some (.int .i64 a0_2) := (blk_cell BK412.out 2).trans rfl; have hcz6_3 : w5.cell? ⟨gb412, 3, none⟩ = some (.int .i64 a0_3) := (blk_cell BK412.out 3).trans rfl; have hfz6_0 := blk_frozen BK412.out 0; have hfz6_1 := blk_frozen BK412.out 1; have hfz6_2 := blk_frozen BK412.out 2; have hfz6_3 := blk_frozen BK412.out 3) | (go_at_call 78; (with_reducible refine (impl_checksOf.calls k _ _ l1 a0_0 t413 _ ?side1 ?side2 A3.out).mono ?_); (case side1 => exact kc_ (Kd.C_below HR1.out HB.out)); (case side2 => exact HC1.out); rintro e w7 ⟨v414, rfl, ho0, hb⟩; have n0_ := Aside0.mk (Kd.R_lower ho0 (below_size (hg_ GE412))); have n1_ := Aside0.mk (blk_below (g := gb412) (o := .cells #[.string a0_0, .int .i64 a0_1, .int .i64 a0_2, .int .i64 a0_3] 73 (0, 0)) (bk_ BK412) hb); have n2_ := Aside0.mk (below_step (hg_ GE412) hb); clear BK412; clear HB; have HO415 := n0_; have BK412 := n1_; have HB := n2_; clear n0_ n1_ n2_; (try clear hb); (try clear hb2); (try clear hk); (try clear hi); (try clear ho0); obtain ⟨Ao8, co8, eo8⟩ := Kd.R_slice HO415.out; subst eo8))
 repeat (go_quiet (first | ((with_reducible refine gate_dst (N := 2) rfl ?_); refine box_event ?hg (N := 2) ?hd (cs := #[.string a0_0, .int .i64 a0_1, .int .i64 a0_2, .int .i64 a0_3]) (t := 73) ?hr ?_; (case hd => rfl); (case hg => rfl); (case hr => first | (go_simp; done) | (go_simp; rfl)); intro gb412 hg w5 hbox hb; have n0_ := Aside0.mk (below_step hb_ hb); have n1_ := Aside0.mk (hbox); have n2_ := Aside0.mk ((by rw [hg]; exact (below_size hb_) : w.heap.size ≤ gb412)); have n3_ := Aside0.mk ((by rw [hg]; exact (below_size hb_) : w.heap.size ≤ gb412)); clear HB; have HB := n0_; have BK412 := n1_; have GW412 := n2_; have GE412 := n3_; clear n0_ n1_ n2_ n3_; clear hb hbox hg; have hcz6_0 : w5.cell? ⟨gb412, 0, none⟩ = some (.string a0_0) := (blk_cell BK412.out 0).trans rfl; have hcz6_1 : w5.cell? ⟨gb412, 1, none⟩ = some (.int .i64 a0_1) := (blk_cell BK412.out 1).trans rfl; have hcz6_2 : w5.cell? ⟨gb412, 2, none⟩ = some (.int .i64 a0_2) := (blk_cell BK412.out 2).trans rfl; have hcz6_3 : w5.cell? ⟨gb412, 3, none⟩ = some (.int .i64 a0_3) := (blk_cell BK412.out 3).trans rfl; have hfz6_0 := blk_frozen BK412.out 0; have hfz6_1 := blk_frozen BK412.out 1; have hfz6_2 := blk_frozen BK412.out 2; have hfz6_3 := blk_frozen BK412.out 3) | (go_at_call 78; (with_reducible refine (impl_checksOf.calls k _ _ l1 a0_0 t413 _ ?side1 ?side2 A3.out).mono ?_); (case side1 => exact kc_ (Kd.C_below HR1.out HB.out)); (case side2 => exact HC1.out); rintro e w7 ⟨v414, rfl, ho0, hb⟩; have n0_ := Aside0.mk (Kd.R_lower ho0 (below_size (hg_ GE412))); have n1_ := Aside0.mk (blk_below (g := gb412) (o := .cells #[.string a0_0, .int .i64 a0_1, .int .i64 a0_2, .int .i64 a0_3] 73 (0, 0)) (bk_ BK412) hb); have n2_ := Aside0.mk (below_step (hg_ GE412) hb); clear BK412; clear HB; have HO415 := n0_; have BK412 := n1_; have HB := n2_; clear n0_ n1_ n2_; (try clear hb); (try clear hb2); (try clear hk); (try clear hi); (try clear ho0); obtain ⟨Ao8, co8, eo8⟩ := Kd.R_slice HO415.out; subst eo8)); go_upto_if 16 with (first | ((with_reducible refine gate_dst (N := 2) rfl ?_); refine box_event ?hg (N := 2) ?hd (cs := #[.string a0_0, .int .i64 a0_1, .int .i64 a0_2, .int .i64 a0_3]) (t := 73) ?hr ?_; (case hd => rfl); (case hg => rfl); (case hr => first | (go_simp; done) | (go_simp; rfl)); intro gb412 hg w5 hbox hb; have n0_ := Aside0.mk (below_step hb_ hb); have n1_ := Aside0.mk (hbox); have n2_ := Aside0.mk ((by rw [hg]; exact (below_size hb_) : w.heap.size ≤ gb412)); have n3_ := Aside0.mk ((by rw [hg]; exact (below_size hb_) : w.heap.size ≤ gb412)); clear HB; have HB := n0_; have BK412 := n1_; have GW412 := n2_; have GE412 := n3_; clear n0_ n1_ n2_ n3_; clear hb hbox hg; have hcz6_0 : w5.cell? ⟨gb412, 0, none⟩ = some (.string a0_0) := (blk_cell BK412.out 0).trans rfl; have hcz6_1 : w5.cell? ⟨gb412, 1, none⟩ = some (.int .i64 a0_1) := (blk_cell BK412.out 1).trans rfl; have hcz6_2 : w5.cell? ⟨gb412, 2, none⟩ = some (.int .i64 a0_2) := (blk_cell BK412.out 2).trans rfl; have hcz6_3 : w5.cell? ⟨gb412, 3, none⟩ = some (.int .i64 a0_3) := (blk_cell BK412.out 3).trans rfl; have hfz6_0 := blk_frozen BK412.out 0; have hfz6_1 := blk_frozen BK412.out 1; have hfz6_2 := blk_frozen BK412.out 2; have hfz6_3 := blk_frozen BK412.out 3) | (go_at_call 78; (with_reducible refine (impl_checksOf.calls k _ _ l1 a0_0 t413 _ ?side1 ?side2 A3.out).mono ?_); (case side1 => exact kc_ (Kd.C_below HR1.out HB.out)); (case side2 => exact HC1.out); rintro e w7 ⟨v414, rfl, ho0, hb⟩; have n0_ := Aside0.mk (Kd.R_lower ho0 (below_size (hg_ GE412))); have n1_ := Aside0.mk (blk_below (g := gb412) (o := .cells #[.string a0_0, .int .i64 a0_1, .int .i64 a0_2, .int .i64 a0_3] 73 (0, 0)) (bk_ BK412) hb); have n2_ := Aside0.mk (below_step (hg_ GE412) hb); clear BK412; clear HB; have HO415 := n0_; have BK412 := n1_; have HB := n2_; clear n0_ n1_ n2_; (try clear hb); (try clear hb2); (try clear hk); (try clear hi); (try clear ho0); obtain ⟨Ao8, co8, eo8⟩ := Kd.R_slice HO415.out; subst eo8)))
 (try simp only [Act.put, List.setIfInBounds_toArray, List.set_cons_zero, List.set_cons_succ])
 go_cut [5, 6] (fun v5 v6 wc => ∃ (kq : Nat) (x5_3 : Int) (x6_3 : Int), v5 = .int .i64 x5_3 ∧ v6 = .int .i64 x6_3 ∧ Aside0 (impl_dayOfEnd.j0 kq x5_3 x6_3 a0_0 a0_1 a0_2 a0_3 = some r) ∧ Aside0 (kq ≤ k) ∧ Aside0 (wc.heap[gb412]? = some (.cells #[.string a0_0, .int .i64 a0_1, .int .i64 a0_2, .int .i64 a0_3] 73 (0, 0))) ∧ Aside0 (Below w.heap.size w wc))
 case first =>
  have H := HC4.out
  clear HC4
  by_cases c9 : (t413.length : Int) > 0
  ·rw [if_pos c9] at H
   have c9b0 : decide (0 < (t413.length : Int)) = true := decide_eq_true c9
   have c9b1 : decide (0 < t413.length) = true := decide_eq_true (by omega)
   have c9b2 : 0 < t413.length := by omega
   clear c9
   (first | rw [c9b0] | (simp only [i64_w, i32_w]; rw [c9b0]) | skip)
   obtain ⟨ji10, hji10⟩ : ∃ j_ : Int, (wrap64 ((t413.length : Int) - 1)) = j_ := ⟨_, rfl⟩
   replace H : (if 0 ≤ (ji10) then (if (ji10) < (t413.length : Int) then (impl_dayOfEnd.j0 k ((rd_T53 t413 (ji10)).f2) ((rd_T53 t413 (ji10)).f1) a0_0 a0_1 a0_2 a0_3) else (none)) else (none)) = some r := by first | (rw [hji10] at H; exact H) | (simp only [hji10] at H ⊢; exact H)
   have hji10w : (IntKind.i64.wrap ((t413.length : Int) - 1)) = ji10 := (i64_w _).trans hji10
   by_cases c11 : 0 ≤ (ji10)
   ·rw [if_pos c11] at H
    have c11b0 : decide (0 ≤ (ji10)) = true := decide_eq_true c11
    clear c11
    by_cases c12 : (ji10) < (t413.length : Int)
    ·rw [if_pos c12] at H
     have c12b0 : decide ((ji10) < (t413.length : Int)) = true := decide_eq_true c12
     clear c12
     have H' := Aside0.mk H
     clear H
     have p416 : 0 ≤ ((ji10) : Int) := od_
     have q416 : (ji10) < (t413.length : Int) := od_
     obtain ⟨ad416, e416, hx416_0, hx416_1, hx416_2⟩ := at_T53 (Kd.R_reads' HO415.out).2.2 (ji10) p416 q416
     cases e416
     replace p416 := eq_true p416
     replace q416 := eq_true q416
     have p417 : 0 ≤ ((ji10) : Int) := od_
     have q417 : (ji10) < (t413.length : Int) := od_
     obtain ⟨ad417, e417, hx417_0, hx417_1, hx417_2⟩ := at_T53 (Kd.R_reads' HO415.out).2.2 (ji10) p417 q417
     obtain rfl : ad416 = ad417 := (by injection e417)
     replace p417 := eq_true p417
     replace q417 := eq_true q417
     go_wp2
     repeat (go_quiet (fail); try go_wp2)
     go_meet
     case rel => exact ⟨_, ((rd_T53 t413 (ji10)).f2), ((rd_T53 t413 (ji10)).f1), (by first | rfl | (simp; done) | (simp only [← hji10] <;> (first | rfl | simp)) | (simp [*]; done)), (by first | rfl | (simp; done) | (simp only [← hji10] <;> (first | rfl | simp)) | (simp [*]; done)), H', ⟨by first | omega | exact Nat.le_refl _⟩, ⟨by (with_reducible repeat (first | refine blk_drewN ?_ _ | refine blk_drew ?_ | refine blk_alloc ?_ _)); exact BK412.out⟩, ⟨(hg_ GE412)⟩⟩
    ·rw [if_neg c12] at H
     exact absurd H (by simp)
   ·rw [if_neg c11] at H
    exact absurd H (by simp)
  ·rw [if_neg c9] at H
   have c9b0 : decide (0 < (t413.length : Int)) = false := decide_eq_false c9
   have c9b1 : decide (0 < t413.length) = false := decide_eq_false (by omega)
   have c9b2 : ¬ (0 < t413.length) := by omega
   clear c9
   (first | rw [c9b0] | (simp only [i64_w, i32_w]; rw [c9b0]) | skip)
   have H' := Aside0.mk H
   clear H
   go_wp2
   repeat (go_quiet (fail); try go_wp2)
   go_meet
   case rel => exact ⟨_, (0), (a0_1), (by first | rfl | (simp; done) | (simp [*]; done)), (by first | rfl | (simp; done) | (simp [*]; done)), H', ⟨by first | omega | exact Nat.le_refl _⟩, ⟨by (with_reducible repeat (first | refine blk_drewN ?_ _ | refine blk_drew ?_ | refine blk_alloc ?_ _)); exact BK412.out⟩, ⟨(hg_ GE412)⟩⟩
 case rest =>
  clear HC4
  try clear c1
  try clear p2
  try clear p4
  try clear q4
  try clear hx4
  try clear p6
  try clear c7
  try clear c9
  try clear c9b0
  try clear c9b1
  try clear c9b2
  try clear c11
  try clear c11b0
  try clear c12
  try clear c12b0
  try clear hcz6_0
  try clear hcz6_1
  try clear hcz6_2
  try clear hcz6_3
  try clear hfz6_0
  try clear hfz6_1
  try clear hfz6_2
  try clear hfz6_3
  try clear hx416_0
  try clear hx416_1
  try clear hx416_2
  try clear hx417_0
  try clear hx417_1
  try clear hx417_2
  try clear p416
  try clear p417
  try clear q416
  try clear q417
  obtain ⟨kq, x5_3, x6_3, rfl, rfl, HA, HJ3, BK412, HB⟩ := hcut
  cases kq with
  | zero => exact absurd HA.out (by simp [impl_dayOfEnd.j0])
  | succ kj3 =>
   have H := HA.out
   clear HA
   simp only [impl_dayOfEnd.j0] at H
   by_cases c13 : x5_3 ≤ a0_3
   ·rw [if_pos c13] at H
    have c13b0 : decide (x5_3 ≤ a0_3) = true := decide_eq_true c13
    clear c13
    by_cases c14 : a0_2 = 0
    ·rw [if_pos c14] at H
     have c14b0 : (a0_2 == 0) = true := beq_iff_eq.mpr c14
     have c14b1 : (a0_2 != 0) = false := bne_eq_false_iff_eq.mpr c14
     clear c14
     obtain rfl := Option.some.inj H
     have hcz15_0 : wc.cell? ⟨gb412, 0, none⟩ = some (.string a0_0) := (blk_cell BK412.out 0).trans rfl
     have hcz15_1 : wc.cell? ⟨gb412, 1, none⟩ = some (.int .i64 a0_1) := (blk_cell BK412.out 1).trans rfl
     have hcz15_2 : wc.cell? ⟨gb412, 2, none⟩ = some (.int .i64 a0_2) := (blk_cell BK412.out 2).trans rfl
     have hcz15_3 : wc.cell? ⟨gb412, 3, none⟩ = some (.int .i64 a0_3) := (blk_cell BK412.out 3).trans rfl
     have hfz15_0 := blk_frozen BK412.out 0
     have hfz15_1 := blk_frozen BK412.out 1
     have hfz15_2 := blk_frozen BK412.out 2
     have hfz15_3 := blk_frozen BK412.out 3
     go_wp2
     repeat (go_quiet (fail); try go_wp2)
     go_ret
     exact ⟨ew_, (hg_ GE412)⟩
    ·rw [if_neg c14] at H
     have c14b0 : (a0_2 == 0) = false := beq_eq_false_iff_ne.mpr c14
     have c14b1 : (a0_2 != 0) = true := bne_iff_ne.mpr c14
     by_cases c16 : (wrap64 (x6_3 + (wrap64 ((wrap64 (Int.tdiv (wrap64 (a0_3 - x5_3)) a0_2)) + 1)))) > 20000
     ·rw [if_pos c16] at H
      have c16b0 : decide (20000 < (wrap64 (x6_3 + (wrap64 ((wrap64 (Int.tdiv (wrap64 (a0_3 - x5_3)) a0_2)) + 1))))) = true := decide_eq_true c16
      clear c16
      obtain rfl := Option.some.inj H
      have hcz17_0 : wc.cell? ⟨gb412, 0, none⟩ = some (.string a0_0) := (blk_cell BK412.out 0).trans rfl
      have hcz17_1 : wc.cell? ⟨gb412, 1, none⟩ = some (.int .i64 a0_1) := (blk_cell BK412.out 1).trans rfl
      have hcz17_2 : wc.cell? ⟨gb412, 2, none⟩ = some (.int .i64 a0_2) := (blk_cell BK412.out 2).trans rfl
      have hcz17_3 : wc.cell? ⟨gb412, 3, none⟩ = some (.int .i64 a0_3) := (blk_cell BK412.out 3).trans rfl
      have hfz17_0 := blk_frozen BK412.out 0
      have hfz17_1 := blk_frozen BK412.out 1
      have hfz17_2 := blk_frozen BK412.out 2
      have hfz17_3 := blk_frozen BK412.out 3
      go_wp2
      repeat (go_quiet (fail); try go_wp2)
      go_ret
      exact ⟨ew_, (hg_ GE412)⟩
     ·rw [if_neg c16] at H
      have c16b0 : decide (20000 < (wrap64 (x6_3 + (wrap64 ((wrap64 (Int.tdiv (wrap64 (a0_3 - x5_3)) a0_2)) + 1))))) = false := decide_eq_false c16
      clear c16
      obtain rfl := Option.some.inj H
      have hcz18_0 : wc.cell? ⟨gb412, 0, none⟩ = some (.string a0_0) := (blk_cell BK412.out 0).trans rfl
      have hcz18_1 : wc.cell? ⟨gb412, 1, none⟩ = some (.int .i64 a0_1) := (blk_cell BK412.out 1).trans rfl
      have hcz18_2 : wc.cell? ⟨gb412, 2, none⟩ = some (.int .i64 a0_2) := (blk_cell BK412.out 2).trans rfl
      have hcz18_3 : wc.cell? ⟨gb412, 3, none⟩ = some (.int .i64 a0_3) := (blk_cell BK412.out 3).trans rfl
      have hfz18_0 := blk_frozen BK412.out 0
      have hfz18_1 := blk_frozen BK412.out 1
      have hfz18_2 := blk_frozen BK412.out 2
      have hfz18_3 := blk_frozen BK412.out 3
      go_wp2
      repeat (go_quiet (fail); try go_wp2)
      go_ret
      exact ⟨ew_, (hg_ GE412)⟩
   ·rw [if_neg c13] at H
    have c13b0 : decide (x5_3 ≤ a0_3) = false := decide_eq_false c13
    clear c13
    by_cases c19 : x6_3 > 20000
    ·rw [if_pos c19] at H
     have c19b0 : decide (20000 < x6_3) = true := decide_eq_true c19
     clear c19
     obtain rfl := Option.some.inj H
     have hcz20_0 : wc.cell? ⟨gb412, 0, none⟩ = some (.string a0_0) := (blk_cell BK412.out 0).trans rfl
     have hcz20_1 : wc.cell? ⟨gb412, 1, none⟩ = some (.int .i64 a0_1) := (blk_cell BK412.out 1).trans rfl
     have hcz20_2 : wc.cell? ⟨gb412, 2, none⟩ = some (.int .i64 a0_2) := (blk_cell BK412.out 2).trans rfl
     have hcz20_3 : wc.cell? ⟨gb412, 3, none⟩ = some (.int .i64 a0_3) := (blk_cell BK412.out 3).trans rfl
     have hfz20_0 := blk_frozen BK412.out 0
     have hfz20_1 := blk_frozen BK412.out 1
     have hfz20_2 := blk_frozen BK412.out 2
     have hfz20_3 := blk_frozen BK412.out 3
     go_wp2
     repeat (go_quiet (fail); try go_wp2)
     go_ret
     exact ⟨ew_, (hg_ GE412)⟩
    ·rw [if_neg c19] at H
     have c19b0 : decide (20000 < x6_3) = false := decide_eq_false c19
     clear c19
     obtain rfl := Option.some.inj H
     have hcz21_0 : wc.cell? ⟨gb412, 0, none⟩ = some (.string a0_0) := (blk_cell BK412.out 0).trans rfl
     have hcz21_1 : wc.cell? ⟨gb412, 1, none⟩ = some (.int .i64 a0_1) := (blk_cell BK412.out 1).trans rfl
     have hcz21_2 : wc.cell? ⟨gb412, 2, none⟩ = some (.int .i64 a0_2) := (blk_cell BK412.out 2).trans rfl
     have hcz21_3 : wc.cell? ⟨gb412, 3, none⟩ = some (.int .i64 a0_3) := (blk_cell BK412.out 3).trans rfl
     have hfz21_0 := blk_frozen BK412.out 0
     have hfz21_1 := blk_frozen BK412.out 1
     have hfz21_2 := blk_frozen BK412.out 2
     have hfz21_3 := blk_frozen BK412.out 3
     go_wp2
     repeat (go_quiet (fail); try go_wp2)
     go_ret
     exact ⟨ew_, (hg_ GE412)⟩

end Go.Proofs.Ytdbigcfpinpnpaa.P
