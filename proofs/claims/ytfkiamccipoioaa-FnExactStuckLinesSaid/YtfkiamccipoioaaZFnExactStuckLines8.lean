/- Texts of this claim, packed: H10. -/
import Derived.Test.YtfkiamccipoioaaZFnExactStuckLines7
section
namespace Go.Proofs.Ytfkiamccipoioaa.P
open Go.RowKit Go.Proofs.YtfkiamccipoioaaW.Hand Go.Proofs.YtfkiamccipoioaaW.PrintWords Go.Proofs.YtfkiamccipoioaaW.PrintLast Go.Proofs.YtfkiamccipoioaaW.PrintMore Go.Proofs.YtfkiamccipoioaaW.Pk
set_option linter.unusedVariables false
set_option linter.unusedSimpArgs false


def stuckAll (k : Nat) (n : List Int) (ys : List (List Int)) (xs : List Int) : Nat → Nat → List Int → Option (List Int)
  | 0, _, acc => some acc
  | d + 1, j, acc => (stuckGo k n ys (j : Int) xs 0).bind fun q => if 0 ≤ q then stuckAll k n ys xs d (j + 1) acc else stuckAll k n ys xs d (j + 1) (acc ++ [(j : Int)])
def impl_StuckLines.f (k : Nat) (l0_0 : List Int) (l0_1 : List (List Int)) (a1 : ByteArray) : Option (List Int × Int) := (impl_deckCode.f k l0_0 l0_1 [a1]).bind fun c => if c = 0 then (impl_setOf.f k a1).bind fun s1 => (impl_reachedSets.f k l0_0 l0_1 s1).bind fun r => if r.1.length ≤ 1048576 ∧ l0_0.length ≤ 1048576 then (stuckAll k l0_0 l0_1 r.1 l0_0.length 0 []).bind fun out => some (out, 0) else none else some ([], c)
def rd42.T4 : Bool × List (List Nat × List Nat) := (true, [([], []), ([], []), ([1], [1]), ([0, 2, 2], [0, 2]), ([3], [3]), ([4], [4]), ([4], [4]), ([5, 3, 0, 1, 2, 3, 4, 5], [5]), ([6, 7, 0, 1, 2, 3, 4, 5, 6, 7], [6])])
def rd42.B4 : List Nat := [0, 0, 2, 7, 15, 31, 31, 63, 255]
theorem rd42.tab4 : rtab .any (opsOf Try.f42 4) = rd42.T4 := by kernel_rfl
theorem rd42.bits4 : waitsOk rd42.T4.2 rd42.B4 = true := by kernel_rfl
set_option maxRecDepth 100000 in
set_option maxHeartbeats 8000000 in
theorem impl_StuckLines.calls (k : Nat) (A0_0 : Option Addr) (c0_0 : Nat) (l0_0 : List Int) (A0_1 : Option Addr) (c0_1 : Nat) (l0_1 : List (List Int)) (a1 : ByteArray) (r1 : List Int) (r2 : Int) (w : World) (hr0_0 : Kd.C (Kd.int .i64) w A0_0 l0_0.length l0_0) (hc0_0 : l0_0.length ≤ c0_0) (hr0_1 : Kd.C (Kd.slice 2 (Kd.int .i64)) w A0_1 l0_1.length l0_1) (hc0_1 : l0_1.length ≤ c0_1) (h : impl_StuckLines.f k l0_0 l0_1 a1 = some (r1, r2)) :
    Calls Try.prog 42 #[.agg #[.slice A0_0 l0_0.length c0_0, .slice A0_1 l0_1.length c0_1], .string a1] w fun e w' => ∃ v0_ : Value, e = .returned (.tuple #[v0_, .int .i64 r2]) ∧ Kd.R (Kd.int .i64) 2 w' w.heap.size (fun _ => True) v0_ r1 ∧ Below w.heap.size w w' := by
  have hu28 := Try.underlying28
  have HR0_0 := Aside0.mk hr0_0
  have HC0_0 := Aside0.mk hc0_0
  have HR0_1 := Aside0.mk hr0_1
  have HC0_1 := Aside0.mk hc0_1
  clear hr0_0 hc0_0 hr0_1 hc0_1
  unfold impl_StuckLines.f at h
  replace h := Option.bind_eq_some_iff.mp h
  obtain ⟨c, ac, h⟩ := h
  have AC := Aside0.mk ac
  clear ac
  by_cases hc : c = 0
  rotate_left
  · rw [if_neg hc] at h
    simp only [Option.some.injEq, Prod.mk.injEq] at h
    obtain ⟨rfl, rfl⟩ := h
    have hcb : (c != 0) = true := bne_iff_ne.mpr hc
    clear hc
    go_enter Try.func42, Try.ntmps42
    go_wp2_with (first
    | ((with_reducible refine gate_dst (N := 2) rfl ?_); refine box_event ?hg (N := 2) ?hd (cs := #[.slice A0_0 l0_0.length c0_0, .slice A0_1 l0_1.length c0_1]) (t := 28) ?hr ?_; (case hd => rfl); (case hg => rfl); (case hr => first | (go_simp; done) | (go_simp; rfl)); intro gb hg w1 hbox hb; have M1 : Aside0 (DI w w1 gb #[.slice A0_0 l0_0.length c0_0, .slice A0_1 l0_1.length c0_1]) := ⟨⟨hb, hbox, by rw [hg]; exact Nat.le_refl _⟩⟩; clear hb hbox hg; have hzgb_0 : w1.cell? ⟨gb, 0, none⟩ = some (.slice A0_0 l0_0.length c0_0) := (blk_cell M1.out.box 0).trans rfl; have hzgb_1 : w1.cell? ⟨gb, 1, none⟩ = some (.slice A0_1 l0_1.length c0_1) := (blk_cell M1.out.box 1).trans rfl)
    | ((with_reducible refine gate_dst (N := 14) rfl ?_); refine Kd.R_lit Kd.string _ 9 ?hg (N := 14) ?hd (xs := ([a1] : List ByteArray)) (inner := [.string a1]) (ok := fun _ => True) (okp := fun _ => True) ?hr ?hp (fun _ hk => hk) trivial (Below.refl _ _) (Nat.le_refl _) (by simp) ?_; (case hd => rfl); (case hg => rfl); (case hr => first | (go_simp; done) | (go_simp; rfl)); (case hp => exact (Reps.one (show Kd.M Kd.string _ _ _ a1 [.string a1] from rfl) (Reps.none _ _))); intro u w2 ho hb hg_ hn_; clear hg_ hn_; obtain ⟨Au, cu, eu⟩ := Kd.R_slice ho; subst eu; have M2 := Aside0.mk (M1.out.step hb); have UU := Aside0.mk ho; clear ho hb hzgb_0 hzgb_1)
    | ((with_reducible refine gate_callee (f := 58) rfl ?_); refine goesL_ (some 15) rfl rfl Try.func58 (by kernel_rfl) rfl #[.agg #[.slice A0_0 l0_0.length c0_0, .slice A0_1 l0_1.length c0_1], .slice Au 1 cu] rfl ln_ ?_; refine (impl_deckCode.calls k _ _ l0_0 _ _ l0_1 _ _ [a1] c _ (Kd.C_below HR0_0.out M2.out.below) HC0_0.out (Kd.C_below HR0_1.out M2.out.below) HC0_1.out (Kd.R_reads' UU.out).2.2 (Kd.R_reads' UU.out).2.1 AC.out).mono ?_; rintro e w3 ⟨rfl, hb⟩; refine ⟨_, rfl, ?_⟩; have M3 := Aside0.mk (M2.out.step hb); clear hb UU; have hzgb_0 : w3.cell? ⟨gb, 0, none⟩ = some (.slice A0_0 l0_0.length c0_0) := (blk_cell M3.out.box 0).trans rfl; have hzgb_1 : w3.cell? ⟨gb, 1, none⟩ = some (.slice A0_1 l0_1.length c0_1) := (blk_cell M3.out.box 1).trans rfl))
    go_ret2
    exact ⟨_, rfl, Kd.R_nil _ _ _ _ _, M3.out.below⟩
  rw [if_pos hc] at h
  have hcb : (c != 0) = false := by rw [hc]; rfl
  clear hc
  replace h := Option.bind_eq_some_iff.mp h
  obtain ⟨s1, as1, h⟩ := h
  have AS := Aside0.mk as1
  clear as1
  replace h := Option.bind_eq_some_iff.mp h
  obtain ⟨⟨xs, vs⟩, ax, h⟩ := h
  have AX := Aside0.mk ax
  have HH := Aside0.mk h
  clear ax h
  go_enter Try.func42, Try.ntmps42
  go_upto_region 4 with (first
    | ((with_reducible refine gate_dst (N := 2) rfl ?_); refine box_event ?hg (N := 2) ?hd (cs := #[.slice A0_0 l0_0.length c0_0, .slice A0_1 l0_1.length c0_1]) (t := 28) ?hr ?_; (case hd => rfl); (case hg => rfl); (case hr => first | (go_simp; done) | (go_simp; rfl)); intro gb hg w1 hbox hb; have M1 : Aside0 (DI w w1 gb #[.slice A0_0 l0_0.length c0_0, .slice A0_1 l0_1.length c0_1]) := ⟨⟨hb, hbox, by rw [hg]; exact Nat.le_refl _⟩⟩; clear hb hbox hg; have hzgb_0 : w1.cell? ⟨gb, 0, none⟩ = some (.slice A0_0 l0_0.length c0_0) := (blk_cell M1.out.box 0).trans rfl; have hzgb_1 : w1.cell? ⟨gb, 1, none⟩ = some (.slice A0_1 l0_1.length c0_1) := (blk_cell M1.out.box 1).trans rfl)
    | ((with_reducible refine gate_dst (N := 14) rfl ?_); refine Kd.R_lit Kd.string _ 9 ?hg (N := 14) ?hd (xs := ([a1] : List ByteArray)) (inner := [.string a1]) (ok := fun _ => True) (okp := fun _ => True) ?hr ?hp (fun _ hk => hk) trivial (Below.refl _ _) (Nat.le_refl _) (by simp) ?_; (case hd => rfl); (case hg => rfl); (case hr => first | (go_simp; done) | (go_simp; rfl)); (case hp => exact (Reps.one (show Kd.M Kd.string _ _ _ a1 [.string a1] from rfl) (Reps.none _ _))); intro u w2 ho hb hg_ hn_; clear hg_ hn_; obtain ⟨Au, cu, eu⟩ := Kd.R_slice ho; subst eu; have M2 := Aside0.mk (M1.out.step hb); have UU := Aside0.mk ho; clear ho hb hzgb_0 hzgb_1)
    | ((with_reducible refine gate_callee (f := 58) rfl ?_); refine goesL_ (some 15) rfl rfl Try.func58 (by kernel_rfl) rfl #[.agg #[.slice A0_0 l0_0.length c0_0, .slice A0_1 l0_1.length c0_1], .slice Au 1 cu] rfl ln_ ?_; refine (impl_deckCode.calls k _ _ l0_0 _ _ l0_1 _ _ [a1] c _ (Kd.C_below HR0_0.out M2.out.below) HC0_0.out (Kd.C_below HR0_1.out M2.out.below) HC0_1.out (Kd.R_reads' UU.out).2.2 (Kd.R_reads' UU.out).2.1 AC.out).mono ?_; rintro e w3 ⟨rfl, hb⟩; refine ⟨_, rfl, ?_⟩; have M3 := Aside0.mk (M2.out.step hb); clear hb UU; have hzgb_0 : w3.cell? ⟨gb, 0, none⟩ = some (.slice A0_0 l0_0.length c0_0) := (blk_cell M3.out.box 0).trans rfl; have hzgb_1 : w3.cell? ⟨gb, 1, none⟩ = some (.slice A0_1 l0_1.length c0_1) := (blk_cell M3.out.box 1).trans rfl))
  have hdr := below_drew (Below.refl w3.heap.size w3)
  have M4 := Aside0.mk (M3.out.step hdr)
  clear hdr M3 hzgb_0 hzgb_1
  refine start_ (n := 9) (S := fun w' => w'.cell? ⟨gb, 0, none⟩ = some (.slice A0_0 l0_0.length c0_0) ∧ w'.cell? ⟨gb, 1, none⟩ = some (.slice A0_1 l0_1.length c0_1)) (ds := []) #[false, false, false, false, false, false, false, false, false] (by kernel_rfl) rfl rfl ⟨(blk_cell M4.out.box 0).trans rfl, (blk_cell M4.out.box 1).trans rfl⟩ (fun hHeld => ?_); refine with_tabW rd42.tab4 rd42.bits4 (fun HT_ HW_ => ?_)
  generalize w3.drew = w4 at M4 hHeld ⊢
  refine pu (i := 1) (N := some 21) #[false, true, false, false, false, false, false, false, false] HT_ ?_
  refine take_ (i := 0) (N := some 20) (v := ?_) (a' := ?_) #[true, true, false, false, false, false, false, false, false] rfl rfl (take_ofW HT_.out HW_.out (by kernel_rfl)) (fun _ _ _ h => h) (Or.inl ⟨by rfl, ?_⟩) hHeld ?_ ?_
  rotate_left
  · rintro w' ⟨s0, s1⟩
    go_simp
    with_reducible rfl
  rotate_left
  · simp only [Act.put, List.setIfInBounds_toArray, List.set_cons_zero, List.set_cons_succ, i64_w, i32_w]
    rfl
  refine one_ (i := 2) (N := (some 22)) #[true, true, true, false, false, false, false, false, false] rfl rfl (one_of HT_.out (by kernel_rfl)) (by decide) (fun K hK => ?_)
  refine goes_ Try.func60 (by kernel_rfl) rfl #[.string a1] (by rfl) rfl rfl ln_ ?_
  refine (impl_setOf.calls k a1 s1 _ AS.out).mono ?_
  rintro e w5 ⟨rfl, hd⟩
  refine ⟨_, rfl, ?_⟩
  have hb := hd.below
  have M5 := Aside0.mk (M4.out.step hb)
  clear hb hd M4
  refine hK.out _ _ ⟨(blk_cell M5.out.box 0).trans rfl, (blk_cell M5.out.box 1).trans rfl⟩ (fun hHeld => ?_)
  clear hK K
  refine norm_ (a' := ?_) ?_ ?_
  rotate_left
  · show Act.put _ (some 22) _ = _
    simp only [Act.put, List.setIfInBounds_toArray, List.set_cons_zero, List.set_cons_succ, i64_w, i32_w]
    rfl
  refine one_ (i := 3) (N := (some 23)) #[true, true, true, true, false, false, false, false, false] rfl rfl (one_of HT_.out (by kernel_rfl)) (by decide) (fun K hK => ?_)
  refine goes_ Try.func69 (by kernel_rfl) rfl #[.agg #[.slice A0_0 l0_0.length c0_0, .slice A0_1 l0_1.length c0_1], .int .i64 s1] (by rfl) rfl rfl ln_ ?_
  refine (impl_reachedSets.calls k _ _ l0_0 _ _ l0_1 s1 xs vs _ (Kd.C_below HR0_0.out M5.out.below) HC0_0.out (Kd.C_below HR0_1.out M5.out.below) HC0_1.out AX.out).mono ?_
  rintro e w6 ⟨v0, v1, rfl, hs0, hs1, hb⟩
  refine ⟨_, rfl, ?_⟩
  have M6 := Aside0.mk (M5.out.step hb)
  have SS := Aside0.mk (Kd.R_lower hs0 M5.out.below.size)
  have WW := Aside0.mk (Kd.R_lower hs1 M5.out.below.size)
  clear hb hs0 hs1 M5
  obtain ⟨As, cs_, es⟩ := Kd.R_slice SS.out
  subst es
  obtain ⟨Aw, cw, ew⟩ := Kd.R_slice WW.out
  subst ew
  refine hK.out _ _ ⟨(blk_cell M6.out.box 0).trans rfl, (blk_cell M6.out.box 1).trans rfl⟩ (fun hHeld => ?_)
  clear hK K
  refine norm_ (a' := ?_) ?_ ?_
  rotate_left
  · show Act.put _ (some 23) _ = _
    simp only [Act.put, List.setIfInBounds_toArray, List.set_cons_zero, List.set_cons_succ, i64_w, i32_w]
    rfl
  refine pu (i := 4) (N := some 19) #[true, true, true, true, true, false, false, false, false] HT_ ?_
  refine pu (i := 5) (N := some 24) #[true, true, true, true, true, true, false, false, false] HT_ ?_
  refine pu (i := 6) (N := some 25) #[true, true, true, true, true, true, true, false, false] HT_ ?_
  refine pu (i := 7) (N := some 7) #[true, true, true, true, true, true, true, true, false] HT_ ?_
  refine pu (i := 8) (N := some 8) #[true, true, true, true, true, true, true, true, true] HT_ ?_
  refine done_ (done_of HT_.out (by kernel_rfl)) ?_
  have h := HH.out
  clear HH hHeld WW
  by_cases hsz : xs.length ≤ 1048576 ∧ l0_0.length ≤ 1048576
  rotate_left
  · rw [if_neg hsz] at h; exact absurd h (by simp)
  rw [if_pos hsz] at h
  obtain ⟨hx9, hn9⟩ := hsz
  replace h := Option.bind_eq_some_iff.mp h
  obtain ⟨out, ao, h⟩ := h
  try dsimp only at h ao
  have AO := Aside0.mk ao
  simp only [Option.some.injEq, Prod.mk.injEq] at h
  obtain ⟨rfl, rfl⟩ := h
  clear ao
  go_wp2_with (first
    | ((with_reducible refine gate_dst (N := 26) rfl ?_); refine Kd.R_lit (Kd.int .i64) _ 2 ?hg (N := 26) ?hd (xs := ([] : List Int)) (inner := []) (ok := fun _ => True) (okp := fun _ => True) ?hr ?hp (fun _ hk => hk) trivial (Below.refl _ _) (Nat.le_refl _) (by simp) ?_; (case hd => rfl); (case hg => rfl); (case hr => first | (go_simp; done) | (go_simp; rfl)); (case hp => exact (Reps.none _ _)); intro u7 w7 ho hb hg_ hn_; clear hg_ hn_; have M7 := Aside0.mk (M6.out.step hb); have S7 := Aside0.mk (Kd.R_below SS.out hb); have O7 := Aside0.mk (Kd.R_lower ho M6.out.below.size); clear hb ho M6 SS; have hz7 : w7.cell? ⟨gb, 0, none⟩ = some (.slice A0_0 l0_0.length c0_0) := (blk_cell M7.out.box 0).trans rfl))
  go_loopg [9, 30] l0_0.length (fun gg v9 v30 wr => ∃ (j : Nat) (acc : List Int), v30 = .int .i64 (j : Int) ∧ Aside0 (j ≤ l0_0.length ∧ l0_0.length - j ≤ gg) ∧ Aside0 (stuckAll k l0_0 l0_1 xs (l0_0.length - j) j acc = some out) ∧ Aside0 (acc.length ≤ j) ∧ Aside0 (DI w wr gb #[.slice A0_0 l0_0.length c0_0, .slice A0_1 l0_1.length c0_1]) ∧ Aside0 (Kd.R (Kd.int .i64) 3 wr w.heap.size (fun _ => True) (.slice As xs.length cs_) xs) ∧ Aside0 (Kd.R (Kd.int .i64) 2 wr w.heap.size (fun _ => True) v9 acc))
  case atStart => exact ⟨0, [], rfl, ⟨Nat.zero_le _, by omega⟩, AO, ⟨Nat.le_refl _⟩, M7, S7, O7⟩
  case round =>
  clear AO M7 S7 O7 hz7
  obtain ⟨j, acc, rfl, HJ, HA, HL, HM, HS, HO⟩ := hrel
  obtain ⟨Ao, co, eo⟩ := Kd.R_slice HO.out
  subst eo
  by_cases hj : j < l0_0.length
  rotate_left
  · have hjb : decide (j < l0_0.length) = false := decide_eq_false hj
    have h2 := HA.out
    rw [show l0_0.length - j = 0 by omega, stuckAll] at h2
    have h3 := Aside0.mk (Option.some.inj h2)
    clear h2 hj
    go_wp2_with fail
    go_ret2
    exact ⟨_, rfl, by rw [← h3.out]; exact HO.out, HM.out.below⟩
  have hjb : decide (j < l0_0.length) = true := decide_eq_true hj
  obtain ⟨d, hd⟩ : ∃ d, l0_0.length - j = d + 1 := ⟨l0_0.length - j - 1, by omega⟩
  have h2 := HA.out
  rw [hd, stuckAll] at h2
  replace h2 := Option.bind_eq_some_iff.mp h2
  obtain ⟨q, aq, h2⟩ := h2
  have AQ := Aside0.mk aq
  have H2 := Aside0.mk h2
  have HD := Aside0.mk hd
  have HJL := Aside0.mk hj
  clear aq h2 HA hd hj
  by_cases hq : 0 ≤ q
  · have h3 := H2.out
    rw [if_pos hq] at h3
    have HN := Aside0.mk h3
    have hqb : decide (0 ≤ q) = true := decide_eq_true hq
    clear h3 hq
    go_wp2_with (first
      | ((with_reducible refine gate_dst (N := 10) rfl ?_); refine box_event ?hg (N := 10) ?hd (cs := #[.int .i64 0]) (t := 3) ?hr ?_; (case hd => rfl); (case hg => rfl); (case hr => first | (go_simp; done) | (go_simp; rfl)); intro gl hg w8 hbox hb; have B8 := Aside0.mk (⟨hb, hbox, hg⟩ : Below wr.heap.size wr w8 ∧ w8.heap[gl]? = some (.cells #[.int .i64 0] 3 (0, 0)) ∧ gl = wr.heap.size); clear hb hbox hg)
      | (refine hand_store (fun W_ => Below wr.heap.size wr W_ ∧ W_.heap[gl]? = some (.cells #[.int .i64 (j : Int)] 3 (0, 0))) (t := 3) (p := 10) (v := .tmp 32) (w1 := w8.setCell ⟨gl, 0, none⟩ (.int .i64 (j : Int))) ?hg rfl ?hN ?hr ?hF ?_; (case hg => rfl); (case hN => rfl); (case hr => have hz0 : w8.cell? ⟨gl, 0, none⟩ = some (.int .i64 0) := (blk_cell B8.out.2.1 0).trans rfl; have hf0 := blk_frozen B8.out.2.1 0; first | (go_simp; done) | (go_simp; rfl)); (case hF => exact ⟨B8.out.1.setCell (p := ⟨gl, 0, none⟩) (Nat.le_of_eq B8.out.2.2.symm) _, blk_put (cs := #[.int .i64 0]) B8.out.2.1 0 _ rfl⟩); intro w9 h9; have B9 := Aside0.mk h9.2; have M9 := Aside0.mk (HM.out.step h9.1); have S9 := Aside0.mk (Kd.R_below HS.out h9.1); have O9 := Aside0.mk (Kd.R_below HO.out h9.1); clear h9 B8 HM HS HO)
      | ((with_reducible refine gate_callee (f := 72) rfl ?_); refine goesL_ (some 36) rfl rfl Try.func72 (by kernel_rfl) rfl #[.slice As xs.length cs_, .func (.func 71) #[] #[.pointer (some ⟨gb, 0, none⟩), .pointer (some ⟨gl, 0, none⟩)]] rfl ln_ ?_; refine (stuck_contains k A0_0 c0_0 l0_0 A0_1 c0_1 l0_1 gb gl (j : Int) As cs_ xs q hx9 AQ.out _ (Kd.C_below HR0_0.out M9.out.below) HC0_0.out (Kd.C_below HR0_1.out M9.out.below) HC0_1.out M9.out.box ((blk_cell B9.out 0).trans rfl) (Kd.R_reads' S9.out).2.2).mono ?_; rintro e w10 ⟨rfl, hb⟩; refine ⟨_, rfl, ?_⟩; have M10 := Aside0.mk (M9.out.step hb); have S10 := Aside0.mk (Kd.R_below S9.out hb); have O10 := Aside0.mk (Kd.R_below O9.out hb); have B10 := Aside0.mk (blk_below B9.out hb); clear hb M9 S9 O9 B9; have hzl : w10.cell? ⟨gl, 0, none⟩ = some (.int .i64 (j : Int)) := (blk_cell B10.out 0).trans rfl))
    go_roundg d
    case measure => have := HJ.out; have := HD.out; omega
    case rel => exact ⟨j + 1, acc, by rw [show wrap64 ((j : Int) + 1) = ((j + 1 : Nat) : Int) by unfold wrap64; have := HJL.out; omega], ⟨by have := HJL.out; omega, by have := HD.out; omega⟩, ⟨by have := HD.out; rw [show l0_0.length - (j + 1) = d by omega]; exact HN.out⟩, ⟨by have := HL.out; omega⟩, M10, S10, O10⟩
  · have h3 := H2.out
    rw [if_neg hq] at h3
    have HN := Aside0.mk h3
    have hqb : decide (0 ≤ q) = false := decide_eq_false hq
    clear h3 hq
    go_wp2_with (first
      | ((with_reducible refine gate_dst (N := 10) rfl ?_); refine box_event ?hg (N := 10) ?hd (cs := #[.int .i64 0]) (t := 3) ?hr ?_; (case hd => rfl); (case hg => rfl); (case hr => first | (go_simp; done) | (go_simp; rfl)); intro gl hg w8 hbox hb; have B8 := Aside0.mk (⟨hb, hbox, hg⟩ : Below wr.heap.size wr w8 ∧ w8.heap[gl]? = some (.cells #[.int .i64 0] 3 (0, 0)) ∧ gl = wr.heap.size); clear hb hbox hg)
      | (refine hand_store (fun W_ => Below wr.heap.size wr W_ ∧ W_.heap[gl]? = some (.cells #[.int .i64 (j : Int)] 3 (0, 0))) (t := 3) (p := 10) (v := .tmp 32) (w1 := w8.setCell ⟨gl, 0, none⟩ (.int .i64 (j : Int))) ?hg rfl ?hN ?hr ?hF ?_; (case hg => rfl); (case hN => rfl); (case hr => have hz0 : w8.cell? ⟨gl, 0, none⟩ = some (.int .i64 0) := (blk_cell B8.out.2.1 0).trans rfl; have hf0 := blk_frozen B8.out.2.1 0; first | (go_simp; done) | (go_simp; rfl)); (case hF => exact ⟨B8.out.1.setCell (p := ⟨gl, 0, none⟩) (Nat.le_of_eq B8.out.2.2.symm) _, blk_put (cs := #[.int .i64 0]) B8.out.2.1 0 _ rfl⟩); intro w9 h9; have B9 := Aside0.mk h9.2; have M9 := Aside0.mk (HM.out.step h9.1); have S9 := Aside0.mk (Kd.R_below HS.out h9.1); have O9 := Aside0.mk (Kd.R_below HO.out h9.1); clear h9 B8 HM HS HO)
      | ((with_reducible refine gate_callee (f := 72) rfl ?_); refine goesL_ (some 36) rfl rfl Try.func72 (by kernel_rfl) rfl #[.slice As xs.length cs_, .func (.func 71) #[] #[.pointer (some ⟨gb, 0, none⟩), .pointer (some ⟨gl, 0, none⟩)]] rfl ln_ ?_; refine (stuck_contains k A0_0 c0_0 l0_0 A0_1 c0_1 l0_1 gb gl (j : Int) As cs_ xs q hx9 AQ.out _ (Kd.C_below HR0_0.out M9.out.below) HC0_0.out (Kd.C_below HR0_1.out M9.out.below) HC0_1.out M9.out.box ((blk_cell B9.out 0).trans rfl) (Kd.R_reads' S9.out).2.2).mono ?_; rintro e w10 ⟨rfl, hb⟩; refine ⟨_, rfl, ?_⟩; have M10 := Aside0.mk (M9.out.step hb); have S10 := Aside0.mk (Kd.R_below S9.out hb); have O10 := Aside0.mk (Kd.R_below O9.out hb); have B10 := Aside0.mk (blk_below B9.out hb); clear hb M9 S9 O9 B9; have hzl : w10.cell? ⟨gl, 0, none⟩ = some (.int .i64 (j : Int)) := (blk_cell B10.out 0).trans rfl)
      | ((with_reducible refine gate_builtin (b := .append) (xs := #[.tmp 38, .tmp 40]) rfl ?_); at_builtin; refine Kd.R_append (Kd.int .i64) (w0 := w) w.heap.size rfl (.tmp 38) (.tmp 40) 22 2 (.int .i64 0) 8 rfl Try.underlying22 info2 rfl (by decide) (by omega) _ acc (j : Int) [.int .i64 (j : Int)] (fun _ => True) (fun _ => False) rfl rfl rfl (fun _ hk => hk.elim) (fun _ _ => trivial) O10.out M10.out.below M10.out.below.size (by have := HL.out; have := HJL.out; omega) ?_; intro v11 w11 ho hb hg hat; obtain ⟨inn, hown⟩ := Kd.R_own O10.out; have M11 := Aside0.mk (M10.out.grown hg (Kd.R_base O10.out) (own_ne hown M10.out.box (by decide))); have S11 := Aside0.mk (Kd.R_over' S10.out (Kd.R_typed O10.out) (by decide) hg); have O11 := Aside0.mk ho; clear ho hb hg hat hown M10 S10 O10))
    go_roundg d
    case measure => have := HJ.out; have := HD.out; omega
    case rel => exact ⟨j + 1, acc ++ [(j : Int)], by rw [show wrap64 ((j : Int) + 1) = ((j + 1 : Nat) : Int) by unfold wrap64; have := HJL.out; omega], ⟨by have := HJL.out; omega, by have := HD.out; omega⟩, ⟨by have := HD.out; rw [show l0_0.length - (j + 1) = d by omega]; exact HN.out⟩, ⟨by rw [List.length_append, List.length_singleton]; have := HL.out; omega⟩, M11, S11, O11⟩
end Go.Proofs.Ytfkiamccipoioaa.P
end
