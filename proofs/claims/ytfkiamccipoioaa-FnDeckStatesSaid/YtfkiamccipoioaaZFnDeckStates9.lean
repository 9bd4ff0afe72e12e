/- Texts of this claim, packed: Px31. -/
import Derived.Test.YtfkiamccipoioaaZFnDeckStates8
section
-- Written by gprint.py (own program, over the printer of the kit) out of the translation. Lean checks it.
namespace Go.Proofs.Ytfkiamccipoioaa.P
open Go.RowKit Go.Proofs.YtfkiamccipoioaaW.PrintWords Go.Proofs.YtfkiamccipoioaaW.PrintLast Go.Proofs.YtfkiamccipoioaaW.PrintMore Go.Proofs.YtfkiamccipoioaaW.Pk
open Bool renaming true → T_, false → F_
open List renaming setIfInBounds_toArray → sT_, set_cons_zero → s0_, set_cons_succ → sS_
attribute [local go_sem] max2_int min2_int max_two min_two max_three min_three max_four min_four   -- for this text's walks alone
set_option linter.unusedVariables false
set_option linter.unusedSimpArgs false

/-! ### impl_StuckLines: function 42 -/
-- (by hand)
open Go.Proofs.YtfkiamccipoioaaW.Hand
def stuckGo (k : Nat) (n : List Int) (ys : List (List Int)) (j : Int) : List Int → Int → Option Int
 | [], _ => some (-1)
 | x :: xs, i => (impl_changeCode.f k n ys x j).bind fun c => if c = 0 then some i else stuckGo k n ys j xs (i + 1)
set_option maxRecDepth 100000 in
set_option maxHeartbeats 4000000 in
theorem stuck_pred (k : Nat) (A0_0 : Option Addr) (c0_0 : Nat) (l0_0 : List Int) (A0_1 : Option Addr) (c0_1 : Nat) (l0_1 : List (List Int)) (gb gl : Nat) (j : Int) (x c : Int) (h : impl_changeCode.f k l0_0 l0_1 x j = some c) (w : World) (hr0_0 : Kd.C (Kd.int .i64) w A0_0 l0_0.length l0_0) (hc0_0 : l0_0.length ≤ c0_0) (hr0_1 : Kd.C (Kd.slice 2 (Kd.int .i64)) w A0_1 l0_1.length l0_1) (hc0_1 : l0_1.length ≤ c0_1) (hbx : w.heap[gb]? = some (.cells #[.slice A0_0 l0_0.length c0_0, .slice A0_1 l0_1.length c0_1] 28 (0, 0))) (hln : w.cell? ⟨gl, 0, none⟩ = some (.int .i64 j)) :
  Calls Try.prog 71 #[.int .i64 x, .pointer (some ⟨gb, 0, none⟩), .pointer (some ⟨gl, 0, none⟩)] w fun e w' => e = .returned (.bool (c == 0)) ∧ Below w.heap.size w w' := by
 have hu28 := Try.underlying28
 have HC0 := Aside0.mk hr0_0
 have HC1 := Aside0.mk hr0_1
 have HL0 := Aside0.mk hc0_0
 have HL1 := Aside0.mk hc0_1
 have HH := Aside0.mk h
 have hz0 : w.cell? ⟨gb, 0, none⟩ = some (.slice A0_0 l0_0.length c0_0) := (blk_cell hbx 0).trans rfl
 have hz1 : w.cell? ⟨gb, 1, none⟩ = some (.slice A0_1 l0_1.length c0_1) := (blk_cell hbx 1).trans rfl
 clear hr0_0 hr0_1 hc0_0 hc0_1 h hbx
 go_enter Try.func71, Try.ntmps71
 go_wp2_with (go_at_call 66; refine (impl_changeCode.calls k _ _ l0_0 _ _ l0_1 x j c _ HC0.out HL0.out HC1.out HL1.out HH.out).mono ?_; rintro e w1 ⟨rfl, hb⟩; have HB := Aside0.mk hb; clear hb hz0 hz1 hln)
 go_ret
 exact ⟨rfl, HB.out⟩
theorem stuckGo_step (k : Nat) (n : List Int) (ys : List (List Int)) (j : Int) (l : List Int) (i : Nat) (h : i < l.length) : stuckGo k n ys j (l.drop i) (i : Int) = (impl_changeCode.f k n ys (rd l (i : Int)) j).bind fun c => if c = 0 then some (i : Int) else stuckGo k n ys j (l.drop (i + 1)) ((i + 1 : Nat) : Int) := by
 rw [List.drop_eq_getElem_cons h, stuckGo]
 have e : rd l (i : Int) = l[i] := by
  show l.getD ((i : Int)).toNat 0 = _
  rw [Int.toNat_natCast, List.getD_eq_getElem?_getD, List.getElem?_eq_getElem h]
  rfl
 rw [e]
 rfl
set_option maxRecDepth 100000 in
set_option maxHeartbeats 4000000 in
theorem stuck_loop (k : Nat) (A0_0 : Option Addr) (c0_0 : Nat) (l0_0 : List Int) (A0_1 : Option Addr) (c0_1 : Nat) (l0_1 : List (List Int)) (gb gl : Nat) (j : Int) (As : Option Addr) (cs_ : Nat) (xs : List Int) (r : Int) (hlen : xs.length ≤ 1048576) (h : stuckGo k l0_0 l0_1 j xs 0 = some r) (w : World) (hr0_0 : Kd.C (Kd.int .i64) w A0_0 l0_0.length l0_0) (hc0_0 : l0_0.length ≤ c0_0) (hr0_1 : Kd.C (Kd.slice 2 (Kd.int .i64)) w A0_1 l0_1.length l0_1) (hc0_1 : l0_1.length ≤ c0_1) (hbx : w.heap[gb]? = some (.cells #[.slice A0_0 l0_0.length c0_0, .slice A0_1 l0_1.length c0_1] 28 (0, 0))) (hln : w.cell? ⟨gl, 0, none⟩ = some (.int .i64 j)) (hs : Kd.C (Kd.int .i64) w As xs.length xs) :
  Calls Try.prog 79 #[.slice As xs.length cs_, .func (.func 71) #[] #[.pointer (some ⟨gb, 0, none⟩), .pointer (some ⟨gl, 0, none⟩)]] w fun e w' => e = .returned (.int .i64 r) ∧ Below w.heap.size w w' := by
 have eg : ∀ args w, (callFunc 71 args).run Try.prog w = .ok (.enter 71 args) w := enters_of Try.func71 (by kernel_rfl) rfl
 have HC0 := Aside0.mk hr0_0
 have HC1 := Aside0.mk hr0_1
 have HL0 := Aside0.mk hc0_0
 have HL1 := Aside0.mk hc0_1
 have HBX := Aside0.mk hbx
 have HLN := Aside0.mk hln
 have HS := Aside0.mk hs
 have HG : Aside0 (stuckGo k l0_0 l0_1 j (xs.drop 0) ((0 : Nat) : Int) = some r) := ⟨h⟩
 clear hr0_0 hr0_1 hc0_0 hc0_1 hbx hln hs h
 go_enter Try.func79, Try.ntmps79
 go_wp2
 go_loopg [5, 8] xs.length (fun gg _ v8 wr => ∃ i : Nat, v8 = .int .i64 (i : Int) ∧ Aside0 (i ≤ xs.length ∧ xs.length - i ≤ gg) ∧ Aside0 (stuckGo k l0_0 l0_1 j (xs.drop i) (i : Int) = some r) ∧ Aside0 (Below w.heap.size w wr))
 case atStart => exact ⟨0, rfl, ⟨Nat.zero_le _, by omega⟩, HG, ⟨Below.refl _ _⟩⟩
 case round =>
  clear HG
  obtain ⟨i, rfl, HJ, HG, HB⟩ := hrel
  by_cases hlt : i < xs.length
  ·have p0 : (0 : Int) ≤ (i : Int) := Int.natCast_nonneg i
   have q0 : (i : Int) < (xs.length : Int) := by omega
   obtain ⟨ad, e0, hx0⟩ := Kd.at_int (Kd.C_below HS.out HB.out) (i : Int) p0 q0
   subst e0
   rw [Int.toNat_natCast] at hx0
   have h2 := HG.out
   rw [stuckGo_step _ _ _ _ _ _ hlt] at h2
   replace h2 := Option.bind_eq_some_iff.mp h2
   obtain ⟨c, ac, h2⟩ := h2
   have hcall := stuck_pred k A0_0 c0_0 l0_0 A0_1 c0_1 l0_1 gb gl j (rd xs (i : Int)) c ac wr (Kd.C_below HC0.out HB.out) HL0.out (Kd.C_below HC1.out HB.out) HL1.out (blk_below HBX.out HB.out) ((HB.out.cell (World.block_lt_of_cell? w _ HLN.out)).trans HLN.out)
   have HCA := Aside0.mk hcall
   have H2 := Aside0.mk h2
   have hltb : (i < xs.length) = True := eq_true hlt
   have hltd : decide (i < xs.length) = true := decide_eq_true hlt
   clear hcall h2 ac HG p0 q0 hlt
   by_cases hc : c = 0
   ·have hcb : (c == 0) = true := by rw [hc]; rfl
    have h3 := H2.out
    rw [if_pos hc] at h3
    have h4 := Aside0.mk (Option.some.inj h3)
    rw [hcb] at HCA
    clear hcb h3 hc
    go_wp2_with (go_at_fn 71; refine HCA.out.mono ?_; rintro e w' ⟨rfl, hb⟩)
    go_ret
    exact ⟨by rw [← h4.out]; rfl, HB.out.trans (hb.mono HB.out.size)⟩
   ·have hcb : (c == 0) = false := beq_eq_false_iff_ne.mpr hc
    have h3 := H2.out
    rw [if_neg hc] at h3
    have HN := Aside0.mk h3
    rw [hcb] at HCA
    clear hcb h3 hc
    go_wp2_with (go_at_fn 71; refine HCA.out.mono ?_; rintro e w' ⟨rfl, hb⟩)
    go_roundg (xs.length - (i + 1))
    case measure => have := HJ.out; have := of_eq_true hltb; omega
    case rel => exact ⟨i + 1, by rw [show wrap64 ((i : Int) + 1) = ((i + 1 : Nat) : Int) by unfold wrap64; have := HJ.out; omega], ⟨by have := of_eq_true hltb; omega, by omega⟩, HN, ⟨HB.out.trans (hb.mono HB.out.size)⟩⟩
  ·have he : i = xs.length := by have := HJ.out; omega
   have h2 := HG.out
   rw [he, List.drop_length, stuckGo] at h2
   have h3 := Aside0.mk (Option.some.inj h2)
   have hlt2 : decide (i < xs.length) = false := decide_eq_false hlt
   clear HG he hlt h2
   go_wp2
   go_ret
   exact ⟨by rw [← h3.out]; rfl, HB.out⟩
set_option maxRecDepth 100000 in
set_option maxHeartbeats 4000000 in
theorem stuck_contains (k : Nat) (A0_0 : Option Addr) (c0_0 : Nat) (l0_0 : List Int) (A0_1 : Option Addr) (c0_1 : Nat) (l0_1 : List (List Int)) (gb gl : Nat) (j : Int) (As : Option Addr) (cs_ : Nat) (xs : List Int) (r : Int) (hlen : xs.length ≤ 1048576) (h : stuckGo k l0_0 l0_1 j xs 0 = some r) (w : World) (hr0_0 : Kd.C (Kd.int .i64) w A0_0 l0_0.length l0_0) (hc0_0 : l0_0.length ≤ c0_0) (hr0_1 : Kd.C (Kd.slice 2 (Kd.int .i64)) w A0_1 l0_1.length l0_1) (hc0_1 : l0_1.length ≤ c0_1) (hbx : w.heap[gb]? = some (.cells #[.slice A0_0 l0_0.length c0_0, .slice A0_1 l0_1.length c0_1] 28 (0, 0))) (hln : w.cell? ⟨gl, 0, none⟩ = some (.int .i64 j)) (hs : Kd.C (Kd.int .i64) w As xs.length xs) :
  Calls Try.prog 72 #[.slice As xs.length cs_, .func (.func 71) #[] #[.pointer (some ⟨gb, 0, none⟩), .pointer (some ⟨gl, 0, none⟩)]] w fun e w' => e = .returned (.bool (decide (0 ≤ r))) ∧ Below w.heap.size w w' := by
 have HC := Aside0.mk (stuck_loop k A0_0 c0_0 l0_0 A0_1 c0_1 l0_1 gb gl j As cs_ xs r hlen h w hr0_0 hc0_0 hr0_1 hc0_1 hbx hln hs)
 clear h hr0_0 hc0_0 hr0_1 hc0_1 hbx hln hs
 go_enter Try.func72, Try.ntmps72
 go_wp2_with (go_at_call 79; refine HC.out.mono ?_; rintro e w1 ⟨rfl, hb⟩)
 go_ret
 exact ⟨rfl, hb⟩
def stuckAll (k : Nat) (n : List Int) (ys : List (List Int)) (xs : List Int) : Nat → Nat → List Int → Option (List Int)
 | 0, _, acc => some acc
 | d + 1, j, acc => (stuckGo k n ys (j : Int) xs 0).bind fun q => if 0 ≤ q then stuckAll k n ys xs d (j + 1) acc else stuckAll k n ys xs d (j + 1) (acc ++ [(j : Int)])
def impl_StuckLines.f (k : Nat) (l0_0 : List Int) (l0_1 : List (List Int)) (a1 : ByteArray) : Option (List Int × Int) := (impl_deckCode.f k l0_0 l0_1 [a1]).bind fun c => if c = 0 then (impl_setOf.f k a1).bind fun s1 => (impl_reachedSets.f k l0_0 l0_1 s1).bind fun r => if r.1.length ≤ 1048576 ∧ l0_0.length ≤ 1048576 then (stuckAll k l0_0 l0_1 r.1 l0_0.length 0 []).bind fun out => some (out, 0) else none else some ([], c)
def rd42.T4 : Bool × List (List Nat × List Nat) := (true, [([], []), ([], []), ([1], [1]), ([0, 2, 2], [0, 2]), ([3], [3]), ([4], [4]), ([4], [4]), ([5, 3, 0, 1, 2, 3, 4, 5], [5]), ([6, 7, 0, 1, 2, 3, 4, 5, 6, 7], [6])])
def rd42.B4 : List Nat := [0, 0, 2, 7, 15, 31, 31, 63, 255]
theorem rd42.tab4 : rtab .any (opsOf Try.f42 4) = rd42.T4 := by kernel_rfl
theorem rd42.bits4 : waitsOk rd42.T4.2 rd42.B4 = true := by kernel_rfl
set_option maxRecDepth 100000 in
set_option maxHeartbeats 8000000 in
theorem impl_StuckLines.calls (k : Nat) (A0_0 : Option Addr) (c0_0 : Nat) (l0_0 : List Int) (A0_1 : Option Addr) (c0_1 : Nat) (l0_1 : List (List Int)) (a1 : ByteArray) (r1 : List Int) (r2 : Int) (w : World) (hr0_0 : Kd.C (Kd.int .i64) w A0_0 l0_0.length l0_0) (hc0_0 : l0_0.length ≤ c0_0) (hr0_1 : Kd.C (Kd.slice 2 (Kd.int .i64)) w A0_1 l0_1.length l0_1) (hc0_1 : l0_1.length ≤ c0_1) (h : impl_StuckLines.f k l0_0 l0_1 a1 = some (r1, r2)) :
  Calls Try.prog 42 #[.agg #[.slice A0_0 l0_0.length c0_0, .slice A0_1 l0_1.length c0_1], .string a1] w fun e w' => ∃ v0_ : Value, e = .returned (.tuple #[v0_, .int .i64 r2]) ∧ Kd.R (Kd.int .i64) 2 w' w.heap.size (fun _ => True) v0_ r1 ∧ Below w.heap.size w w' := by
 have hu28 := Try.underlying28
 have HR0_0 := Aside0.mk hr0_0
 have HC0_0 := Aside0.mk hc0_0
 have HR0_1 := Aside0.mk hr0_1
 have HC0_1 := Aside0.mk hc0_1
 clear hr0_0 hc0_0 hr0_1 hc0_1
 unfold impl_StuckLines.f at h
 replace h := Option.bind_eq_some_iff.mp h
 obtain ⟨c, ac, h⟩ := h
 have AC := Aside0.mk ac
 clear ac
 by_cases hc : c = 0
 rotate_left
 ·rw [if_neg hc] at h
  simp only [Option.some.injEq, Prod.mk.injEq] at h
  obtain ⟨rfl, rfl⟩ := h
  have hcb : (c != 0) = true := bne_iff_ne.mpr hc
  clear hc
  go_enter Try.func42, Try.ntmps42
  go_wp2_with (first
  | ((with_reducible refine gate_dst (N := 2) rfl ?_); refine box_event ?hg (N := 2) ?hd (cs := #[.slice A0_0 l0_0.length c0_0, .slice A0_1 l0_1.length c0_1]) (t := 28) ?hr ?_; (case hd => rfl); (case hg => rfl); (case hr => first | (go_simp; done) | (go_simp; rfl)); intro gb hg w1 hbox hb; have M1 : Aside0 (DI w w1 gb #[.slice A0_0 l0_0.length c0_0, .slice A0_1 l0_1.length c0_1]) := ⟨⟨hb, hbox, by rw [hg]; exact Nat.le_refl _⟩⟩; clear hb hbox hg; have hzgb_0 : w1.cell? ⟨gb, 0, none⟩ = some (.slice A0_0 l0_0.length c0_0) := (blk_cell M1.out.box 0).trans rfl; have hzgb_1 : w1.cell? ⟨gb, 1, none⟩ = some (.slice A0_1 l0_1.length c0_1) := (blk_cell M1.out.box 1).trans rfl)
  | ((with_reducible refine gate_dst (N := 14) rfl ?_); refine Kd.R_lit Kd.string _ 9 ?hg (N := 14) ?hd (xs := ([a1] : List ByteArray)) (inner := [.string a1]) (ok := fun _ => True) (okp := fun _ => True) ?hr ?hp (fun _ hk => hk) trivial (Below.refl _ _) (Nat.le_refl _) (by simp) ?_; (case hd => rfl); (case hg => rfl); (case hr => first | (go_simp; done) | (go_simp; rfl)); (case hp => exact (Reps.one (show Kd.M Kd.string _ _ _ a1 [.string a1] from rfl) (Reps.none _ _))); intro u w2 ho hb hg_ hn_; clear hg_ hn_; obtain ⟨Au, cu, eu⟩ := Kd.R_slice ho; subst eu; have M2 := Aside0.mk (M1.out.step hb); have UU := Aside0.mk ho; clear ho hb hzgb_0 hzgb_1)
  | ((with_reducible refine gate_callee (f := 58) rfl ?_); refine goesL_ (some 15) rfl rfl Try.func58 (by kernel_rfl) rfl #[.agg #[.slice A0_0 l0_0.length c0_0, .slice A0_1 l0_1.length c0_1], .slice Au 1 cu] rfl ln_ ?_; refine (impl_deckCode.calls k _ _ l0_0 _ _ l0_1 _ _ [a1] c _ (Kd.C_below HR0_0.out M2.out.below) HC0_0.out (Kd.C_below HR0_1.out M2.out.below) HC0_1.out (Kd.R_reads' UU.out).2.2 (Kd.R_reads' UU.out).2.1 AC.out).mono ?_; rintro e w3 ⟨rfl, hb⟩; refine ⟨_, rfl, ?_⟩; have M3 := Aside0.mk (M2.out.step hb); clear hb UU; have hzgb_0 : w3.cell? ⟨gb, 0, none⟩ = some (.slice A0_0 l0_0.length c0_0) := (blk_cell M3.out.box 0).trans rfl; have hzgb_1 : w3.cell? ⟨gb, 1, none⟩ = some (.slice A0_1 l0_1.length c0_1) := (blk_cell M3.out.box 1).trans rfl))
  go_ret2
  exact ⟨_, rfl, Kd.R_nil _ _ _ _ _, M3.out.below⟩
 rw [if_pos hc] at h
 have hcb : (c != 0) = false := by rw [hc]; rfl
 clear hc
 replace h := Option.bind_eq_some_iff.mp h
 obtain ⟨s1, as1, h⟩ := h
 have AS := Aside0.mk as1
 clear as1
 replace h := Option.bind_eq_some_iff.mp h
 obtain ⟨⟨xs, vs⟩, ax, h⟩ := h
 have AX := Aside0.mk ax
 have HH := Aside0.mk h
 clear ax h
 go_enter Try.func42, Try.ntmps42
 go_upto_region 4 with (first
  | ((with_reducible refine gate_dst (N := 2) rfl ?_); refine box_event ?hg (N := 2) ?hd (cs := #[.slice A0_0 l0_0.length c0_0, .slice A0_1 l0_1.length c0_1]) (t := 28) ?hr ?_; (case hd => rfl); (case hg => rfl); (case hr => first | (go_simp; done) | (go_simp; rfl)); intro gb hg w1 hbox hb; have M1 : Aside0 (DI w w1 gb #[.slice A0_0 l0_0.length c0_0, .slice A0_1 l0_1.length c0_1]) := ⟨⟨hb, hbox, by rw [hg]; exact Nat.le_refl _⟩⟩; clear hb hbox hg; have hzgb_0 : w1.cell? ⟨gb, 0, none⟩ = some (.slice A0_0 l0_0.length c0_0) := (blk_cell M1.out.box 0).trans rfl; have hzgb_1 : w1.cell? ⟨gb, 1, none⟩ = some (.slice A0_1 l0_1.length c0_1) := (blk_cell M1.out.box 1).trans rfl)
  | ((with_reducible refine gate_dst (N := 14) rfl ?_); refine Kd.R_lit Kd.string _ 9 ?hg (N := 14) ?hd (xs := ([a1] : List ByteArray)) (inner := [.string a1]) (ok := fun _ => True) (okp := fun _ => True) ?hr ?hp (fun _ hk => hk) trivial (Below.refl _ _) (Nat.le_refl _) (by simp) ?_; (case hd => rfl); (case hg => rfl); (case hr => first | (go_simp; done) | (go_simp; rfl)); (case hp => exact (Reps.one (show Kd.M Kd.string _ _ _ a1 [.string a1] from rfl) (Reps.none _ _))); intro u w2 ho hb hg_ hn_; clear hg_ hn_; obtain ⟨Au, cu, eu⟩ := Kd.R_slice ho; subst eu; have M2 := Aside0.mk (M1.out.step hb); have UU := Aside0.mk ho; clear ho hb hzgb_0 hzgb_1)
  | ((with_reducible refine gate_callee (f := 58) rfl ?_); refine goesL_ (some 15) rfl rfl Try.func58 (by kernel_rfl) rfl #[.agg #[.slice A0_0 l0_0.length c0_0, .slice A0_1 l0_1.length c0_1], .slice Au 1 cu] rfl ln_ ?_; refine (impl_deckCode.calls k _ _ l0_0 _ _ l0_1 _ _ [a1] c _ (Kd.C_below HR0_0.out M2.out.below) HC0_0.out (Kd.C_below HR0_1.out M2.out.below) HC0_1.out (Kd.R_reads' UU.out).2.2 (Kd.R_reads' UU.out).2.1 AC.out).mono ?_; rintro e w3 ⟨rfl, hb⟩; refine ⟨_, rfl, ?_⟩; have M3 := Aside0.mk (M2.out.step hb); clear hb UU; have hzgb_0 : w3.cell? ⟨gb, 0, none⟩ = some (.slice A0_0 l0_0.length c0_0) := (blk_cell M3.out.box 0).trans rfl; have hzgb_1 : w3.cell? ⟨gb, 1, none⟩ = some (.slice A0_1 l0_1.length c0_1) := (blk_cell M3.out.box 1).trans rfl))
 have hdr := below_drew (Below.refl w3.heap.size w3)
 have M4 := Aside0.mk (M3.out.step hdr)
 clear hdr M3 hzgb_0 hzgb_1
 refine start_ (n := 9) (S := fun w' => w'.cell? ⟨gb, 0, none⟩ = some (.slice A0_0 l0_0.length c0_0) ∧ w'.cell? ⟨gb, 1, none⟩ = some (.slice A0_1 l0_1.length c0_1)) (ds := []) #[F_,F_,F_,F_,F_,F_,F_,F_,F_] (by kernel_rfl) rfl rfl ⟨(blk_cell M4.out.box 0).trans rfl, (blk_cell M4.out.box 1).trans rfl⟩ (fun hHeld => ?_); refine with_tabW rd42.tab4 rd42.bits4 (fun HT_ HW_ => ?_)
 generalize w3.drew = w4 at M4 hHeld ⊢
 refine pu (i := 1) (N := some 21) #[F_,T_,F_,F_,F_,F_,F_,F_,F_] HT_ ?_
 refine take_ (i := 0) (N := some 20) (v := ?_) (a' := ?_) #[T_,T_,F_,F_,F_,F_,F_,F_,F_] rfl rfl (take_ofW HT_.out HW_.out (by kernel_rfl)) (fun _ _ _ h => h) (Or.inl ⟨by rfl, ?_⟩) hHeld ?_ ?_
 rotate_left
 ·rintro w' ⟨s0, s1⟩
  go_simp
  with_reducible rfl
 rotate_left
 ·simp only [Act.put, sT_, s0_, sS_, i64_w, i32_w]
  rfl
 refine one_ (i := 2) (N := (some 22)) #[T_,T_,T_,F_,F_,F_,F_,F_,F_] rfl rfl (one_of HT_.out (by kernel_rfl)) (by decide) (fun K hK => ?_)
 refine goes_ Try.func60 (by kernel_rfl) rfl #[.string a1] (by rfl) rfl rfl ln_ ?_
 refine (impl_setOf.calls k a1 s1 _ AS.out).mono ?_
 rintro e w5 ⟨rfl, hd⟩
 refine ⟨_, rfl, ?_⟩
 have hb := hd.below
 have M5 := Aside0.mk (M4.out.step hb)
 clear hb hd M4
 refine hK.out _ _ ⟨(blk_cell M5.out.box 0).trans rfl, (blk_cell M5.out.box 1).trans rfl⟩ (fun hHeld => ?_)
 clear hK K
 refine norm_ (a' := ?_) ?_ ?_
 rotate_left
 ·show Act.put _ (some 22) _ = _
  simp only [Act.put, sT_, s0_, sS_, i64_w, i32_w]
  rfl
 refine one_ (i := 3) (N := (some 23)) #[T_,T_,T_,T_,F_,F_,F_,F_,F_] rfl rfl (one_of HT_.out (by kernel_rfl)) (by decide) (fun K hK => ?_)
 refine goes_ Try.func69 (by kernel_rfl) rfl #[.agg #[.slice A0_0 l0_0.length c0_0, .slice A0_1 l0_1.length c0_1], .int .i64 s1] (by rfl) rfl rfl ln_ ?_
 refine (impl_reachedSets.calls k _ _ l0_0 _ _ l0_1 s1 xs vs _ (Kd.C_below HR0_0.out M5.out.below) HC0_0.out (Kd.C_below HR0_1.out M5.out.below) HC0_1.out AX.out).mono ?_
 rintro e w6 ⟨v0, v1, rfl, hs0, hs1, hb⟩
 refine ⟨_, rfl, ?_⟩
 have M6 := Aside0.mk (M5.out.step hb)
 have SS := Aside0.mk (Kd.R_lower hs0 M5.out.below.size)
 have WW := Aside0.mk (Kd.R_lower hs1 M5.out.below.size)
 clear hb hs0 hs1 M5
 obtain ⟨As, cs_, es⟩ := Kd.R_slice SS.out
 subst es
 obtain ⟨Aw, cw, ew⟩ := Kd.R_slice WW.out
 subst ew
 refine hK.out _ _ ⟨(blk_cell M6.out.box 0).trans rfl, (blk_cell M6.out.box 1).trans rfl⟩ (fun hHeld => ?_)
 clear hK K
 refine norm_ (a' := ?_) ?_ ?_
 rotate_left
 ·show Act.put _ (some 23) _ = _
  simp only [Act.put, sT_, s0_, sS_, i64_w, i32_w]
  rfl
 refine pu (i := 4) (N := some 19) #[T_,T_,T_,T_,T_,F_,F_,F_,F_] HT_ ?_
 refine pu (i := 5) (N := some 24) #[T_,T_,T_,T_,T_,T_,F_,F_,F_] HT_ ?_
 refine pu (i := 6) (N := some 25) #[T_,T_,T_,T_,T_,T_,T_,F_,F_] HT_ ?_
 refine pu (i := 7) (N := some 7) #[T_,T_,T_,T_,T_,T_,T_,T_,F_] HT_ ?_
 refine pu (i := 8) (N := some 8) #[T_,T_,T_,T_,T_,T_,T_,T_,T_] HT_ ?_
 refine done_ (done_of HT_.out (by kernel_rfl)) ?_
 have h := HH.out
 clear HH hHeld WW
 by_cases hsz : xs.length ≤ 1048576 ∧ l0_0.length ≤ 1048576
 rotate_left
 ·rw [if_neg hsz] at h; exact absurd h (by simp)
 rw [if_pos hsz] at h
 obtain ⟨hx9, hn9⟩ := hsz
 replace h := Option.bind_eq_some_iff.mp h
 obtain ⟨out, ao, h⟩ := h
 try dsimp only at h ao
 have AO := Aside0.mk ao
 simp only [Option.some.injEq, Prod.mk.injEq] at h
 obtain ⟨rfl, rfl⟩ := h
 clear ao
 go_wp2_with (first
  | ((with_reducible refine gate_dst (N := 26) rfl ?_); refine Kd.R_lit (Kd.int .i64) _ 2 ?hg (N := 26) ?hd (xs := ([] : List Int)) (inner := []) (ok := fun _ => True) (okp := fun _ => True) ?hr ?hp (fun _ hk => hk) trivial (Below.refl _ _) (Nat.le_refl _) (by simp) ?_; (case hd => rfl); (case hg => rfl); (case hr => first | (go_simp; done) | (go_simp; rfl)); (case hp => exact (Reps.none _ _)); intro u7 w7 ho hb hg_ hn_; clear hg_ hn_; have M7 := Aside0.mk (M6.out.step hb); have S7 := Aside0.mk (Kd.R_below SS.out hb); have O7 := Aside0.mk (Kd.R_lower ho M6.out.below.size); clear hb ho M6 SS; have hz7 : w7.cell? ⟨gb, 0, none⟩ = some (.slice A0_0 l0_0.length c0_0) := (blk_cell M7.out.box 0).trans rfl))
 go_loopg [9, 30] l0_0.length (fun gg v9 v30 wr => ∃ (j : Nat) (acc : List Int), v30 = .int .i64 (j : Int) ∧ Aside0 (j ≤ l0_0.length ∧ l0_0.length - j ≤ gg) ∧ Aside0 (stuckAll k l0_0 l0_1 xs (l0_0.length - j) j acc = some out) ∧ Aside0 (acc.length ≤ j) ∧ Aside0 (DI w wr gb #[.slice A0_0 l0_0.length c0_0, .slice A0_1 l0_1.length c0_1]) ∧ Aside0 (Kd.R (Kd.int .i64) 3 wr w.heap.size (fun _ => True) (.slice As xs.length cs_) xs) ∧ Aside0 (Kd.R (Kd.int .i64) 2 wr w.heap.size (fun _ => True) v9 acc))
 case atStart => exact ⟨0, [], rfl, ⟨Nat.zero_le _, by omega⟩, AO, ⟨Nat.le_refl _⟩, M7, S7, O7⟩
 case round =>
 clear AO M7 S7 O7 hz7
 obtain ⟨j, acc, rfl, HJ, HA, HL, HM, HS, HO⟩ := hrel
 obtain ⟨Ao, co, eo⟩ := Kd.R_slice HO.out
 subst eo
 by_cases hj : j < l0_0.length
 rotate_left
 ·have hjb : decide (j < l0_0.length) = false := decide_eq_false hj
  have h2 := HA.out
  rw [show l0_0.length - j = 0 by omega, stuckAll] at h2
  have h3 := Aside0.mk (Option.some.inj h2)
  clear h2 hj
  go_wp2_with fail
  go_ret2
  exact ⟨_, rfl, by rw [← h3.out]; exact HO.out, HM.out.below⟩
 have hjb : decide (j < l0_0.length) = true := decide_eq_true hj
 obtain ⟨d, hd⟩ : ∃ d, l0_0.length - j = d + 1 := ⟨l0_0.length - j - 1, by omega⟩
 have h2 := HA.out
 rw [hd, stuckAll] at h2
 replace h2 := Option.bind_eq_some_iff.mp h2
 obtain ⟨q, aq, h2⟩ := h2
 have AQ := Aside0.mk aq
 have H2 := Aside0.mk h2
 have HD := Aside0.mk hd
 have HJL := Aside0.mk hj
 clear aq h2 HA hd hj
 by_cases hq : 0 ≤ q
 ·have h3 := H2.out
  rw [if_pos hq] at h3
  have HN := Aside0.mk h3
  have hqb : decide (0 ≤ q) = true := decide_eq_true hq
  clear h3 hq
  go_wp2_with (first
   | ((with_reducible refine gate_dst (N := 10) rfl ?_); refine box_event ?hg (N := 10) ?hd (cs := #[.int .i64 0]) (t := 3) ?hr ?_; (case hd => rfl); (case hg => rfl); (case hr => first | (go_simp; done) | (go_simp; rfl)); intro gl hg w8 hbox hb; have B8 := Aside0.mk (⟨hb, hbox, hg⟩ : Below wr.heap.size wr w8 ∧ w8.heap[gl]? = some (.cells #[.int .i64 0] 3 (0, 0)) ∧ gl = wr.heap.size); clear hb hbox hg)
   | (refine hand_store (fun W_ => Below wr.heap.size wr W_ ∧ W_.heap[gl]? = some (.cells #[.int .i64 (j : Int)] 3 (0, 0))) (t := 3) (p := 10) (v := .tmp 32) (w1 := w8.setCell ⟨gl, 0, none⟩ (.int .i64 (j : Int))) ?hg rfl ?hN ?hr ?hF ?_; (case hg => rfl); (case hN => rfl); (case hr => have hz0 : w8.cell? ⟨gl, 0, none⟩ = some (.int .i64 0) := (blk_cell B8.out.2.1 0).trans rfl; have hf0 := blk_frozen B8.out.2.1 0; first | (go_simp; done) | (go_simp; rfl)); (case hF => exact ⟨B8.out.1.setCell (p := ⟨gl, 0, none⟩) (Nat.le_of_eq B8.out.2.2.symm) _, blk_put (cs := #[.int .i64 0]) B8.out.2.1 0 _ rfl⟩); intro w9 h9; have B9 := Aside0.mk h9.2; have M9 := Aside0.mk (HM.out.step h9.1); have S9 := Aside0.mk (Kd.R_below HS.out h9.1); have O9 := Aside0.mk (Kd.R_below HO.out h9.1); clear h9 B8 HM HS HO)
   | ((with_reducible refine gate_callee (f := 72) rfl ?_); refine goesL_ (some 36) rfl rfl Try.func72 (by kernel_rfl) rfl #[.slice As xs.length cs_, .func (.func 71) #[] #[.pointer (some ⟨gb, 0, none⟩), .pointer (some ⟨gl, 0, none⟩)]] rfl ln_ ?_; refine (stuck_contains k A0_0 c0_0 l0_0 A0_1 c0_1 l0_1 gb gl (j : Int) As cs_ xs q hx9 AQ.out _ (Kd.C_below HR0_0.out M9.out.below) HC0_0.out (Kd.C_below HR0_1.out M9.out.below) HC0_1.out M9.out.box ((blk_cell B9.out 0).trans rfl) (Kd.R_reads' S9.out).2.2).mono ?_; rintro e w10 ⟨rfl, hb⟩; refine ⟨_, rfl, ?_⟩; have M10 := Aside0.mk (M9.out.step hb); have S10 := Aside0.mk (Kd.R_below S9.out hb); have O10 := Aside0.mk (Kd.R_below O9.out hb); have B10 := Aside0.mk (blk_below B9.out hb); clear hb M9 S9 O9 B9; have hzl : w10.cell? ⟨gl, 0, none⟩ = some (.int .i64 (j : Int)) := (blk_cell B10.out 0).trans rfl))
  go_roundg d
  case measure => have := HJ.out; have := HD.out; omega
  case rel => exact ⟨j + 1, acc, by rw [show wrap64 ((j : Int) + 1) = ((j + 1 : Nat) : Int) by unfold wrap64; have := HJL.out; omega], ⟨by have := HJL.out; omega, by have := HD.out; omega⟩, ⟨by have := HD.out; rw [show l0_0.length - (j + 1) = d by omega]; exact HN.out⟩, ⟨by have := HL.out; omega⟩, M10, S10, O10⟩
 ·have h3 := H2.out
  rw [if_neg hq] at h3
  have HN := Aside0.mk h3
  have hqb : decide (0 ≤ q) = false := decide_eq_false hq
  clear h3 hq
  go_wp2_with (first
   | ((with_reducible refine gate_dst (N := 10) rfl ?_); refine box_event ?hg (N := 10) ?hd (cs := #[.int .i64 0]) (t := 3) ?hr ?_; (case hd => rfl); (case hg => rfl); (case hr => first | (go_simp; done) | (go_simp; rfl)); intro gl hg w8 hbox hb; have B8 := Aside0.mk (⟨hb, hbox, hg⟩ : Below wr.heap.size wr w8 ∧ w8.heap[gl]? = some (.cells #[.int .i64 0] 3 (0, 0)) ∧ gl = wr.heap.size); clear hb hbox hg)
   | (refine hand_store (fun W_ => Below wr.heap.size wr W_ ∧ W_.heap[gl]? = some (.cells #[.int .i64 (j : Int)] 3 (0, 0))) (t := 3) (p := 10) (v := .tmp 32) (w1 := w8.setCell ⟨gl, 0, none⟩ (.int .i64 (j : Int))) ?hg rfl ?hN ?hr ?hF ?_; (case hg => rfl); (case hN => rfl); (case hr => have hz0 : w8.cell? ⟨gl, 0, none⟩ = some (.int .i64 0) := (blk_cell B8.out.2.1 0).trans rfl; have hf0 := blk_frozen B8.out.2.1 0; first | (go_simp; done) | (go_simp; rfl)); (case hF => exact ⟨B8.out.1.setCell (p := ⟨gl, 0, none⟩) (Nat.le_of_eq B8.out.2.2.symm) _, blk_put (cs := #[.int .i64 0]) B8.out.2.1 0 _ rfl⟩); intro w9 h9; have B9 := Aside0.mk h9.2; have M9 := Aside0.mk (HM.out.step h9.1); have S9 := Aside0.mk (Kd.R_below HS.out h9.1); have O9 := Aside0.mk (Kd.R_below HO.out h9.1); clear h9 B8 HM HS HO)
   | ((with_reducible refine gate_callee (f := 72) rfl ?_); refine goesL_ (some 36) rfl rfl Try.func72 (by kernel_rfl) rfl #[.slice As xs.length cs_, .func (.func 71) #[] #[.pointer (some ⟨gb, 0, none⟩), .pointer (some ⟨gl, 0, none⟩)]] rfl ln_ ?_; refine (stuck_contains k A0_0 c0_0 l0_0 A0_1 c0_1 l0_1 gb gl (j : Int) As cs_ xs q hx9 AQ.out _ (Kd.C_below HR0_0.out M9.out.below) HC0_0.out (Kd.C_below HR0_1.out M9.out.below) HC0_1.out M9.out.box ((blk_cell B9.out 0).trans rfl) (Kd.R_reads' S9.out).2.2).mono ?_; rintro e w10 ⟨rfl, hb⟩; refine ⟨_, rfl, ?_⟩; have M10 := Aside0.mk (M9.out.step hb); have S10 := Aside0.mk (Kd.R_below S9.out hb); have O10 := Aside0.mk (Kd.R_below O9.out hb); have B10 := Aside0.mk (blk_below B9.out hb); clear hb M9 S9 O9 B9; have hzl : w10.cell? ⟨gl, 0, none⟩ = some (.int .i64 (j : Int)) := (blk_cell B10.out 0).trans rfl)
   | ((with_reducible refine gate_builtin (b := .append) (xs := #[.tmp 38, .tmp 40]) rfl ?_); at_builtin; refine Kd.R_append (Kd.int .i64) (w0 := w) w.heap.size rfl (.tmp 38) (.tmp 40) 22 2 (.int .i64 0) 8 rfl Try.underlying22 info2 rfl (by decide) (by omega) _ acc (j : Int) [.int .i64 (j : Int)] (fun _ => True) (fun _ => False) rfl rfl rfl (fun _ hk => hk.elim) (fun _ _ => trivial) O10.out M10.out.below M10.out.below.size (by have := HL.out; have := HJL.out; omega) ?_; intro v11 w11 ho hb hg hat; obtain ⟨inn, hown⟩ := Kd.R_own O10.out; have M11 := Aside0.mk (M10.out.grown hg (Kd.R_base O10.out) (own_ne hown M10.out.box (by decide))); have S11 := Aside0.mk (Kd.R_over' S10.out (Kd.R_typed O10.out) (by decide) hg); have O11 := Aside0.mk ho; clear ho hb hg hat hown M10 S10 O10))
  go_roundg d
  case measure => have := HJ.out; have := HD.out; omega
  case rel => exact ⟨j + 1, acc ++ [(j : Int)], by rw [show wrap64 ((j : Int) + 1) = ((j + 1 : Nat) : Int) by unfold wrap64; have := HJL.out; omega], ⟨by have := HJL.out; omega, by have := HD.out; omega⟩, ⟨by have := HD.out; rw [show l0_0.length - (j + 1) = d by omega]; exact HN.out⟩, ⟨by rw [List.length_append, List.length_singleton]; have := HL.out; omega⟩, M11, S11, O11⟩
theorem stuckGo.mono (n : List Int) (ys : List (List Int)) (j : Int) (k : Nat) : ∀ xs i, LeO (stuckGo k n ys j xs i) (stuckGo (k + 1) n ys j xs i)
 | [], _ => LeO.refl _
 | x :: xs, i => by
  rw [stuckGo, stuckGo]
  exact LeO.bind (impl_changeCode.mono _ _ _ _ k) (fun c => LeO.ite (LeO.refl _) (stuckGo.mono n ys j k xs _))
theorem stuckAll.mono (n : List Int) (ys : List (List Int)) (xs : List Int) (k : Nat) : ∀ d j acc, LeO (stuckAll k n ys xs d j acc) (stuckAll (k + 1) n ys xs d j acc)
 | 0, _, _ => LeO.refl _
 | d + 1, j, acc => by
  rw [stuckAll, stuckAll]
  exact LeO.bind (stuckGo.mono _ _ _ k _ _) (fun q => LeO.ite (stuckAll.mono n ys xs k d _ _) (stuckAll.mono n ys xs k d _ _))
end Go.Proofs.Ytfkiamccipoioaa.P
end
