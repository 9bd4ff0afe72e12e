/- Texts of this claim, packed: Px3. -/
import Derived.Test.YtcenjcgfdghfnaaZFnExactCastOff2
section
-- Written by gprint.py (own program, over the printer of the kit) out of the translation. Lean checks it.
namespace Go.Proofs.Ytcenjcgfdghfnaa.P
open Go.RowKit Go.Proofs.YtcenjcgfdghfnaaW.PrintWords Go.Proofs.YtcenjcgfdghfnaaW.PrintLast Go.Proofs.YtcenjcgfdghfnaaW.PrintMore Go.Proofs.YtcenjcgfdghfnaaW.Pk
open Bool renaming true → T_, false → F_
open List renaming setIfInBounds_toArray → sT_, set_cons_zero → s0_, set_cons_succ → sS_
attribute [local go_sem] max2_int min2_int max_two min_two max_three min_three max_four min_four   -- for this text's walks alone
set_option linter.unusedVariables false
set_option linter.unusedSimpArgs false

/-! ### impl_hasPin: function 59 -/
def impl_hasPin.f (l0_0 : List (S91)) (l0_1 : List ByteArray) (l0_2 : List (S41)) (a1 : ByteArray) (a2 : Int) : Option (Bool) := (impl_railNamed.f l0_0 l0_1 l0_2 a1).bind fun t175 => (if t175 ≥ 0 then (if 0 ≤ t175 then (if t175 < (l0_0.length : Int) then ((impl_within.f a2 1 ((rd_T91 l0_0 t175).f2)).bind fun t177 => (some t177)) else (none)) else (none)) else (some false))
set_option maxHeartbeats 8000000 in
set_option maxRecDepth 100000 in
theorem impl_hasPin.calls (A0_0 : Option Addr) (c0_0 : Nat) (l0_0 : List (S91)) (A0_1 : Option Addr) (c0_1 : Nat) (l0_1 : List ByteArray) (A0_2 : Option Addr) (c0_2 : Nat) (l0_2 : List (S41)) (a1 : ByteArray) (a2 : Int) (r : Bool) (w : World) (hr0_0 : Kd.C k91 w A0_0 l0_0.length l0_0) (hc0_0 : l0_0.length ≤ c0_0) (hr0_1 : Kd.C Kd.string w A0_1 l0_1.length l0_1) (hc0_1 : l0_1.length ≤ c0_1) (hr0_2 : Kd.C k41 w A0_2 l0_2.length l0_2) (hc0_2 : l0_2.length ≤ c0_2) (h : impl_hasPin.f l0_0 l0_1 l0_2 a1 a2 = some r) :
  Calls Try.prog 59 #[.agg #[.slice A0_0 l0_0.length c0_0, .slice A0_1 l0_1.length c0_1, .slice A0_2 l0_2.length c0_2], .string a1, .int .i64 a2] w fun e w' => e = .returned (.bool r) ∧ Below w.heap.size w w' := by
 have hu31 := Try.underlying31
 have HR0_0 := ak_ hr0_0
 have HC0_0 := ak_ hc0_0
 clear hr0_0 hc0_0
 have HR0_1 := ak_ hr0_1
 have HC0_1 := ak_ hc0_1
 clear hr0_1 hc0_1
 have HR0_2 := ak_ hr0_2
 have HC0_2 := ak_ hc0_2
 clear hr0_2 hc0_2
 have HB := ak_ (Below.refl w.heap.size w)
 have H : ((impl_railNamed.f l0_0 l0_1 l0_2 a1).bind fun t175 => (if t175 ≥ 0 then (if 0 ≤ t175 then (if t175 < (l0_0.length : Int) then ((impl_within.f a2 1 ((rd_T91 l0_0 t175).f2)).bind fun t177 => (some t177)) else (none)) else (none)) else (some false))) = some r := h
 clear h
 replace H := ob_ H
 obtain ⟨t175, A40, H⟩ := H
 (try dsimp only at H)
 have A4 := ak_ A40
 clear A40
 by_cases c5 : t175 ≥ 0
 ·rw [if_pos c5] at H
  have c5b0 : decide (0 ≤ t175) = true := dt_ c5
  clear c5
  by_cases c6 : 0 ≤ t175
  ·rw [if_pos c6] at H
   have c6b0 : decide (0 ≤ t175) = true := dt_ c6
   clear c6
   by_cases c7 : t175 < (l0_0.length : Int)
   ·rw [if_pos c7] at H
    have c7b0 : decide (t175 < (l0_0.length : Int)) = true := dt_ c7
    clear c7
    replace H := ob_ H
    obtain ⟨t177, A80, H⟩ := H
    (try dsimp only at H)
    have A8 := ak_ A80
    clear A80
    obtain rfl := Option.some.inj H
    go_enter Try.func59, Try.ntmps59
    go_wp2_with (first | ((with_reducible refine gate_dst (N := 3) rfl ?_); refine box_event ?hg (N := 3) ?hd (cs := #[.slice A0_0 l0_0.length c0_0, .slice A0_1 l0_1.length c0_1, .slice A0_2 l0_2.length c0_2]) (t := 31) ?hr ?_; (case hd => rfl); (case hg => rfl); (case hr => first | (go_simp; done) | (go_simp; rfl)); intro gb174 hg w9 hbox hb; have BK174 := ak_ (hbox); have GW174 := ak_ ((by rw [hg]; exact (below_size hb_) : w.heap.size ≤ gb174)); have GE174 := ak_ ((by rw [hg]; exact (below_size hb_) : w.heap.size ≤ gb174)); replace HB := ak_ (below_step hb_ hb); skip; clear hb hbox hg; have hcz10_0 : w9.cell? ⟨gb174, 0, none⟩ = some (.slice A0_0 l0_0.length c0_0) := (blk_cell BK174.out 0).trans rfl; have hcz10_1 : w9.cell? ⟨gb174, 1, none⟩ = some (.slice A0_1 l0_1.length c0_1) := (blk_cell BK174.out 1).trans rfl; have hcz10_2 : w9.cell? ⟨gb174, 2, none⟩ = some (.slice A0_2 l0_2.length c0_2) := (blk_cell BK174.out 2).trans rfl; have hfz10_0 := blk_frozen BK174.out 0; have hfz10_1 := blk_frozen BK174.out 1; have hfz10_2 := blk_frozen BK174.out 2) | ((with_reducible refine gate_callee (f := 68) rfl ?_); refine goesL_ (some 10) rfl rfl Try.func68 (by kernel_rfl) rfl #[.agg #[.slice A0_0 l0_0.length c0_0, .slice A0_1 l0_1.length c0_1, .slice A0_2 l0_2.length c0_2], .string a1] rfl ln_ ?_; (with_reducible refine (impl_railNamed.calls _ _ l0_0 _ _ l0_1 _ _ l0_2 a1 t175 _ (kc_ (Kd.C_below HR0_0.out HB.out)) HC0_0.out (kc_ (Kd.C_below HR0_1.out HB.out)) HC0_1.out (kc_ (Kd.C_below HR0_2.out HB.out)) HC0_2.out A4.out).mono ?_); rintro e w11 ⟨rfl, hb⟩; refine ⟨_, rfl, ?_⟩; replace BK174 := ak_ (blk_below (g := gb174) (o := .cells #[.slice A0_0 l0_0.length c0_0, .slice A0_1 l0_1.length c0_1, .slice A0_2 l0_2.length c0_2] 31 (0, 0)) (bk_ BK174) hb); replace HB := ak_ (below_step (hg_ GE174) hb); skip; (try clear hb); (try clear hb2); (try clear hk); (try clear hi); have hcz12_0 : w11.cell? ⟨gb174, 0, none⟩ = some (.slice A0_0 l0_0.length c0_0) := (blk_cell BK174.out 0).trans rfl; have hcz12_1 : w11.cell? ⟨gb174, 1, none⟩ = some (.slice A0_1 l0_1.length c0_1) := (blk_cell BK174.out 1).trans rfl; have hcz12_2 : w11.cell? ⟨gb174, 2, none⟩ = some (.slice A0_2 l0_2.length c0_2) := (blk_cell BK174.out 2).trans rfl; have hfz12_0 := blk_frozen BK174.out 0; have hfz12_1 := blk_frozen BK174.out 1; have hfz12_2 := blk_frozen BK174.out 2; have p176 : 0 ≤ (t175 : Int) := od_; have q176 : t175 < (l0_0.length : Int) := od_; obtain ⟨ad176, e176, hx176_0, hx176_1, hx176_2⟩ := at_T91 HR0_0.out t175 p176 q176; cases e176; replace hx176_0 := cq_ HB hx176_0; replace hx176_1 := cq_ HB hx176_1; replace hx176_2 := cq_ HB hx176_2; replace p176 := eq_true p176; replace q176 := eq_true q176) | (go_at_call 85; (with_reducible refine (impl_within.calls a2 1 ((rd_T91 l0_0 t175).f2) t177 _ A8.out).mono ?_); rintro e w' ⟨rfl, ⟨nd, rfl⟩⟩))
    go_ret
    exact ⟨ew_, (hg_ GE174)⟩
   ·rw [if_neg c7] at H
    exact absurd H (by simp)
  ·rw [if_neg c6] at H
   exact absurd H (by simp)
 ·rw [if_neg c5] at H
  have c5b0 : decide (0 ≤ t175) = false := decide_eq_false c5
  clear c5
  obtain rfl := Option.some.inj H
  go_enter Try.func59, Try.ntmps59
  go_wp2_with (first | ((with_reducible refine gate_dst (N := 3) rfl ?_); refine box_event ?hg (N := 3) ?hd (cs := #[.slice A0_0 l0_0.length c0_0, .slice A0_1 l0_1.length c0_1, .slice A0_2 l0_2.length c0_2]) (t := 31) ?hr ?_; (case hd => rfl); (case hg => rfl); (case hr => first | (go_simp; done) | (go_simp; rfl)); intro gb174 hg w13 hbox hb; have BK174 := ak_ (hbox); have GW174 := ak_ ((by rw [hg]; exact (below_size hb_) : w.heap.size ≤ gb174)); have GE174 := ak_ ((by rw [hg]; exact (below_size hb_) : w.heap.size ≤ gb174)); replace HB := ak_ (below_step hb_ hb); skip; clear hb hbox hg; have hcz14_0 : w13.cell? ⟨gb174, 0, none⟩ = some (.slice A0_0 l0_0.length c0_0) := (blk_cell BK174.out 0).trans rfl; have hcz14_1 : w13.cell? ⟨gb174, 1, none⟩ = some (.slice A0_1 l0_1.length c0_1) := (blk_cell BK174.out 1).trans rfl; have hcz14_2 : w13.cell? ⟨gb174, 2, none⟩ = some (.slice A0_2 l0_2.length c0_2) := (blk_cell BK174.out 2).trans rfl; have hfz14_0 := blk_frozen BK174.out 0; have hfz14_1 := blk_frozen BK174.out 1; have hfz14_2 := blk_frozen BK174.out 2) | ((with_reducible refine gate_callee (f := 68) rfl ?_); refine goesL_ (some 10) rfl rfl Try.func68 (by kernel_rfl) rfl #[.agg #[.slice A0_0 l0_0.length c0_0, .slice A0_1 l0_1.length c0_1, .slice A0_2 l0_2.length c0_2], .string a1] rfl ln_ ?_; (with_reducible refine (impl_railNamed.calls _ _ l0_0 _ _ l0_1 _ _ l0_2 a1 t175 _ (kc_ (Kd.C_below HR0_0.out HB.out)) HC0_0.out (kc_ (Kd.C_below HR0_1.out HB.out)) HC0_1.out (kc_ (Kd.C_below HR0_2.out HB.out)) HC0_2.out A4.out).mono ?_); rintro e w15 ⟨rfl, hb⟩; refine ⟨_, rfl, ?_⟩; replace BK174 := ak_ (blk_below (g := gb174) (o := .cells #[.slice A0_0 l0_0.length c0_0, .slice A0_1 l0_1.length c0_1, .slice A0_2 l0_2.length c0_2] 31 (0, 0)) (bk_ BK174) hb); replace HB := ak_ (below_step (hg_ GE174) hb); skip; clear hb))
  go_ret
  exact ⟨ew_, (hg_ GE174)⟩

/-! ### impl_belayAt: function 60 -/
def impl_belayAt.go : List S41 → ByteArray → Int → Int → Int
 | [], _, _, _ => -1
 | x :: xs, a, p, i => if (x.f1.toList == a.toList && x.f2 == p) = true then i else impl_belayAt.go xs a p (i + 1)
def impl_belayAt.f (l0_0 : List S91) (l0_1 : List ByteArray) (l0_2 : List S41) (a1 : ByteArray) (a2 : Int) : Option Int := some (impl_belayAt.go l0_2 a1 a2 0)
theorem impl_belayAt.pred (x : S41) (name : ByteArray) (p : Int) (b1 b2 : Bool) (hq : (x.f1.toList == name.toList) = b1) (hq2 : (x.f2 == p) = b2) (B C : Nat) (w : World) (hB : w.heap[B]? = some (.cells #[.string name] 9 (0, 0))) (hC : w.heap[C]? = some (.cells #[.int .i64 p] 2 (0, 0))) :
  Calls Try.prog 86 #[.agg #[.string x.f0, .string x.f1, .int .i64 x.f2], .pointer (some ⟨B, 0, none⟩), .pointer (some ⟨C, 0, none⟩)] w fun e w' => e = .returned (.bool (b1 && b2)) ∧ Below w.heap.size w w' := by
 have hc : w.cell? ⟨B, 0, none⟩ = some (.string name) := (blk_cell hB 0).trans rfl
 have hd : w.cell? ⟨C, 0, none⟩ = some (.int .i64 p) := (blk_cell hC 0).trans rfl
 have hlt := blk_lt hB
 have hlt2 := blk_lt hC
 have hne : B ≠ w.heap.size := by omega
 have hne2 : C ≠ w.heap.size := by omega
 have hq3 : decide (x.f2 = p) = b2 := hq2
 clear hB hC
 have hu := Try.underlying41
 cases b1 <;> cases b2 <;>
 ·go_enter Try.func86, Try.ntmps86
  go_wp2
  go_ret
  exact ⟨rfl, (Below.refl _ _).alloc (Nat.le_refl _) _⟩
theorem impl_belayAt.step (l : List S41) (a : ByteArray) (p : Int) (j : Nat) (h : j < l.length) : impl_belayAt.go (l.drop j) a p j = if ((rd_T41 l j).f1.toList == a.toList && (rd_T41 l j).f2 == p) = true then (j : Int) else impl_belayAt.go (l.drop (j + 1)) a p ((j + 1 : Nat) : Int) := by
 rw [List.drop_eq_getElem_cons h, impl_belayAt.go]
 have e : rd_T41 l (j : Int) = l[j] := by
  unfold rd_T41
  rw [Int.toNat_natCast, List.getD_eq_getElem?_getD, List.getElem?_eq_getElem h]
  rfl
 rw [e]
 rfl
set_option maxHeartbeats 2000000 in
theorem impl_belayAt.loop (A0 : Option Addr) (c0 : Nat) (l0 : List S41) (name : ByteArray) (p : Int) (B C : Nat) (w : World) (hr : Kd.C k41 w A0 l0.length l0) (hB : w.heap[B]? = some (.cells #[.string name] 9 (0, 0))) (hC : w.heap[C]? = some (.cells #[.int .i64 p] 2 (0, 0))) :
  Calls Try.prog 78 #[.slice A0 l0.length c0, .func (.func 86) #[] #[.pointer (some ⟨B, 0, none⟩), .pointer (some ⟨C, 0, none⟩)]] w fun e w' => e = .returned (.int .i64 (impl_belayAt.go l0 name p 0)) ∧ Below w.heap.size w w' := by
 have eg : ∀ args w, (callFunc 86 args).run Try.prog w = .ok (.enter 86 args) w := enters_of Try.func86 (by kernel_rfl) rfl
 have HR := ak_ hr
 have hm := hr.2.1
 have HBX := ak_ hB
 have HCX := ak_ hC
 have HG : Aside0 (impl_belayAt.go l0 name p 0 = impl_belayAt.go (l0.drop 0) name p ((0 : Nat) : Int)) := ⟨rfl⟩
 clear hr hB hC
 go_enter Try.func78, Try.ntmps78
 go_wp2
 go_loopg [5, 8] l0.length (fun gg _ v8 wr => ∃ j : Nat, v8 = .int .i64 (j : Int) ∧ Aside0 (j ≤ l0.length ∧ l0.length - j ≤ gg) ∧ Aside0 (impl_belayAt.go l0 name p 0 = impl_belayAt.go (l0.drop j) name p (j : Int)) ∧ Aside0 (Below w.heap.size w wr))
 case atStart => exact ⟨0, rfl, ⟨Nat.zero_le _, by omega⟩, HG, ⟨Below.refl _ _⟩⟩
 case round =>
  clear HG
  obtain ⟨j, rfl, HJ, HG, HB⟩ := hrel
  by_cases hlt : j < l0.length
  ·have p0 : (0 : Int) ≤ (j : Int) := Int.natCast_nonneg j
   have q0 : (j : Int) < (l0.length : Int) := by omega
   obtain ⟨ad, e0, hx0, hx1, hx2⟩ := at_T41 HR.out (j : Int) p0 q0
   cases e0
   replace hx0 := cq_ HB hx0
   replace hx1 := cq_ HB hx1
   replace hx2 := cq_ HB hx2
   have HG2 := ak_ (HG.out.trans (impl_belayAt.step l0 name p j hlt))
   clear HG
   have hBw : wr.heap[B]? = some (.cells #[.string name] 9 (0, 0)) := (HB.out.block B (blk_lt HBX.out)).trans HBX.out
   have hCw : wr.heap[C]? = some (.cells #[.int .i64 p] 2 (0, 0)) := (HB.out.block C (blk_lt HCX.out)).trans HCX.out
   rw [Int.toNat_natCast] at hx0 hx1 hx2
   cases hq : ((rd_T41 l0 (j : Int)).f1.toList == name.toList) with
   | true =>
    cases hq2 : ((rd_T41 l0 (j : Int)).f2 == p) with
    | true =>
     have hcall := impl_belayAt.pred (rd_T41 l0 (j : Int)) name p true true hq hq2 B C wr hBw hCw
     have HC := ak_ hcall
     have HV : Aside0 (impl_belayAt.go l0 name p 0 = (j : Int)) := ⟨by rw [HG2.out, if_pos (by rw [hq, hq2]; rfl)]⟩
     clear hcall hq hq2 hBw hCw HG2
     go_wp2_with (go_at_fn 86; refine HC.out.mono ?_; rintro e w' ⟨rfl, hb⟩)
     go_ret
     exact ⟨by rw [HV.out]; rfl, HB.out.trans (hb.mono HB.out.size)⟩
    | false =>
     have hcall := impl_belayAt.pred (rd_T41 l0 (j : Int)) name p true false hq hq2 B C wr hBw hCw
     have HC := ak_ hcall
     have HV : Aside0 (impl_belayAt.go l0 name p 0 = impl_belayAt.go (l0.drop (j + 1)) name p ((j + 1 : Nat) : Int)) := ⟨by rw [HG2.out, if_neg (by rw [hq, hq2]; simp)]⟩
     clear hcall hq hq2 hBw hCw HG2
     go_wp2_with (go_at_fn 86; refine HC.out.mono ?_; rintro e w' ⟨rfl, hb⟩)
     go_roundg (l0.length - (j + 1))
     case measure => have := HJ.out; omega
     case rel => exact ⟨j + 1, by go_num, ⟨by omega, by omega⟩, HV, ⟨HB.out.trans (hb.mono HB.out.size)⟩⟩
   | false =>
    cases hq2 : ((rd_T41 l0 (j : Int)).f2 == p) with
    | true =>
     have hcall := impl_belayAt.pred (rd_T41 l0 (j : Int)) name p false true hq hq2 B C wr hBw hCw
     have HC := ak_ hcall
     have HV : Aside0 (impl_belayAt.go l0 name p 0 = impl_belayAt.go (l0.drop (j + 1)) name p ((j + 1 : Nat) : Int)) := ⟨by rw [HG2.out, if_neg (by rw [hq, hq2]; simp)]⟩
     clear hcall hq hq2 hBw hCw HG2
     go_wp2_with (go_at_fn 86; refine HC.out.mono ?_; rintro e w' ⟨rfl, hb⟩)
     go_roundg (l0.length - (j + 1))
     case measure => have := HJ.out; omega
     case rel => exact ⟨j + 1, by go_num, ⟨by omega, by omega⟩, HV, ⟨HB.out.trans (hb.mono HB.out.size)⟩⟩
    | false =>
     have hcall := impl_belayAt.pred (rd_T41 l0 (j : Int)) name p false false hq hq2 B C wr hBw hCw
     have HC := ak_ hcall
     have HV : Aside0 (impl_belayAt.go l0 name p 0 = impl_belayAt.go (l0.drop (j + 1)) name p ((j + 1 : Nat) : Int)) := ⟨by rw [HG2.out, if_neg (by rw [hq, hq2]; simp)]⟩
     clear hcall hq hq2 hBw hCw HG2
     go_wp2_with (go_at_fn 86; refine HC.out.mono ?_; rintro e w' ⟨rfl, hb⟩)
     go_roundg (l0.length - (j + 1))
     case measure => have := HJ.out; omega
     case rel => exact ⟨j + 1, by go_num, ⟨by omega, by omega⟩, HV, ⟨HB.out.trans (hb.mono HB.out.size)⟩⟩
  ·have he : j = l0.length := by have := HJ.out; omega
   have HV : Aside0 (impl_belayAt.go l0 name p 0 = -1) := ⟨by rw [HG.out, he, List.drop_length]; rfl⟩
   have hlt2 : decide (j < l0.length) = false := decide_eq_false hlt
   clear HG he hlt
   go_wp2
   go_ret
   exact ⟨by rw [HV.out]; rfl, HB.out⟩
theorem impl_belayAt.calls (A0_0 : Option Addr) (c0_0 : Nat) (l0_0 : List S91) (A0_1 : Option Addr) (c0_1 : Nat) (l0_1 : List ByteArray) (A0_2 : Option Addr) (c0_2 : Nat) (l0_2 : List S41) (a1 : ByteArray) (a2 : Int) (r : Int) (w : World) (_hr0_0 : Kd.C k91 w A0_0 l0_0.length l0_0) (_hc0_0 : l0_0.length ≤ c0_0) (_hr0_1 : Kd.C Kd.string w A0_1 l0_1.length l0_1) (_hc0_1 : l0_1.length ≤ c0_1) (hr0_2 : Kd.C k41 w A0_2 l0_2.length l0_2) (_hc0_2 : l0_2.length ≤ c0_2) (h : impl_belayAt.f l0_0 l0_1 l0_2 a1 a2 = some r) :
  Calls Try.prog 60 #[.agg #[.slice A0_0 l0_0.length c0_0, .slice A0_1 l0_1.length c0_1, .slice A0_2 l0_2.length c0_2], .string a1, .int .i64 a2] w fun e w' => e = .returned (.int .i64 r) ∧ Below w.heap.size w w' := by
 have hr := Option.some.inj h
 have hbb : Below w.heap.size w (((w.alloc (.cells #[.slice A0_0 l0_0.length c0_0, .slice A0_1 l0_1.length c0_1, .slice A0_2 l0_2.length c0_2] 31)).alloc (.cells #[.string a1] 9)).alloc (.cells #[.int .i64 a2] 2)) := below_alloc (below_alloc (below_alloc (Below.refl _ _) _) _) _
 have hcon := impl_belayAt.loop A0_2 c0_2 l0_2 a1 a2 (w.heap.size + 1) (w.heap.size + 2) (((w.alloc (.cells #[.slice A0_0 l0_0.length c0_0, .slice A0_1 l0_1.length c0_1, .slice A0_2 l0_2.length c0_2] 31)).alloc (.cells #[.string a1] 9)).alloc (.cells #[.int .i64 a2] 2)) (Kd.C_below hr0_2 hbb) ((Below.heap_alloc ((w.alloc (.cells #[.slice A0_0 l0_0.length c0_0, .slice A0_1 l0_1.length c0_1, .slice A0_2 l0_2.length c0_2] 31)).alloc (.cells #[.string a1] 9)) _ (w.heap.size + 1) (by simp)).trans (by have := heap_alloc_new (w.alloc (.cells #[.slice A0_0 l0_0.length c0_0, .slice A0_1 l0_1.length c0_1, .slice A0_2 l0_2.length c0_2] 31)) (.cells #[.string a1] 9); simpa using this)) (by have := heap_alloc_new ((w.alloc (.cells #[.slice A0_0 l0_0.length c0_0, .slice A0_1 l0_1.length c0_1, .slice A0_2 l0_2.length c0_2] 31)).alloc (.cells #[.string a1] 9)) (.cells #[.int .i64 a2] 2); simpa using this)
 rw [hr] at hcon
 have HC := ak_ hcon
 have HBB := ak_ hbb
 clear hcon hr h hr0_2 hbb
 have hmf : ∀ (fn : Fn) (first cap : Array Value) (w : World), (Instr.makeFunc fn first cap).run Try.prog w = .ok (.func fn first cap) w := fun _ _ _ _ => rfl
 have hu := Try.underlying31
 have c0 : (((w.alloc (.cells #[.slice A0_0 l0_0.length c0_0, .slice A0_1 l0_1.length c0_1, .slice A0_2 l0_2.length c0_2] 31)).alloc (.cells #[.string a1] 9)).alloc (.cells #[.int .i64 a2] 2)).cell? ⟨w.heap.size, 2, none⟩ = some (.slice A0_2 l0_2.length c0_2) := (blk_cell ((Below.heap_alloc ((w.alloc (.cells #[.slice A0_0 l0_0.length c0_0, .slice A0_1 l0_1.length c0_1, .slice A0_2 l0_2.length c0_2] 31)).alloc (.cells #[.string a1] 9)) _ w.heap.size (by simp; omega)).trans ((Below.heap_alloc (w.alloc (.cells #[.slice A0_0 l0_0.length c0_0, .slice A0_1 l0_1.length c0_1, .slice A0_2 l0_2.length c0_2] 31)) _ w.heap.size (by simp)).trans (heap_alloc_new w (.cells #[.slice A0_0 l0_0.length c0_0, .slice A0_1 l0_1.length c0_1, .slice A0_2 l0_2.length c0_2] 31)))) 2).trans rfl
 go_enter Try.func60, Try.ntmps60
 go_wp2_with (go_at_call 78; refine HC.out.mono ?_; rintro e w' ⟨rfl, hb⟩)
 go_ret
 exact ⟨rfl, HBB.out.trans (hb.mono (by simp; omega))⟩


/-! ### impl_addBelay: function 72 -/
open Go.Proofs.YtcenjcgfdghfnaaW.Hand
def impl_addBelay.f (k : Nat) (f0 : List S91) (f1 : List ByteArray) (f2 : List S41) (a0 a1 : ByteArray) (a2 : Int) : Option (List S41 × Int) :=
 (impl_railNamed.f f0 f1 f2 a1).bind fun i => if i < 0 then some (f2, 6) else ((slices_Contains_string_string.f k f1 a0).bind fun u => if u = true then ((impl_hasPin.f f0 f1 f2 a1 a2).bind fun p => if p = true then ((impl_belayOf.f f0 f1 f2 a0).bind fun o => if o ≥ 0 then some (f2, 5) else ((impl_belayAt.f f0 f1 f2 a1 a2).bind fun z => if z ≥ 0 then some (f2, 7) else if f2.length < 3000000000 then some (f2 ++ [⟨a0, a1, a2⟩], 0) else none)) else some (f2, 4)) else some (f2, 6))
def impl_addBelay.T9 : Bool × List (List Nat × List Nat) := (true, [([], []), ([], []), ([1], [1]), ([2], [2]), ([3], [3]), ([], []), ([5], [5]), ([4, 6], [4, 6]), ([0, 0, 1, 2, 3, 4, 5, 6, 7], [0]), ([8, 0, 1, 2, 3, 4, 5, 6, 7], [8]), ([9, 7, 7, 0, 1, 2, 3, 4, 5, 6, 7], [7, 9])])
def impl_addBelay.B9 : List Nat := [0, 0, 2, 6, 14, 0, 32, 126, 255, 511, 1023]
theorem impl_addBelay.tab9 : rtab .any (opsOf Try.f72 9) = impl_addBelay.T9 := by kernel_rfl
theorem impl_addBelay.bits9 : waitsOk impl_addBelay.T9.2 impl_addBelay.B9 = true := by kernel_rfl
def impl_addBelayR.T1 : Bool × List (List Nat × List Nat) := (true, [([], []), ([0], [0]), ([1], [1]), ([], []), ([3], [3]), ([2, 4], [2, 4]), ([5], [5]), ([6, 5], [6]), ([7], [7]), ([8, 7], [7, 8]), ([9, 7], [7, 9]), ([10, 7], [7, 10]), ([7], [7]), ([12, 7], [7, 12]), ([11, 13, 7, 7], [7, 11, 13]), ([14, 7], [7, 14]), ([7, 15], [7, 15]), ([16, 14], [16])])
def impl_addBelayR.B1 : List Nat := [0, 1, 3, 0, 8, 31, 63, 127, 255, 511, 1023, 2047, 255, 4351, 16383, 32767, 65535, 131071]
theorem impl_addBelayR.tab1 : rtab .any (opsOf Try.f72 1) = impl_addBelayR.T1 := by kernel_rfl
theorem impl_addBelayR.bits1 : waitsOk impl_addBelayR.T1.2 impl_addBelayR.B1 = true := by kernel_rfl
set_option maxRecDepth 100000 in
set_option maxHeartbeats 8000000 in
theorem impl_addBelay.calls (k base : Nat) (g : Nat) (f0 : List S91) (f1 : List ByteArray) (f2 : List S41) (a0 a1 : ByteArray) (a2 : Int) (q : List S41) (r : Int) (w : World) (hI : RigOwn base w g f0 f1 f2) (h : impl_addBelay.f k f0 f1 f2 a0 a1 a2 = some (q, r)) :
  Calls Try.prog 72 #[.pointer (some ⟨g, 0, none⟩), .agg #[.string a0, .string a1, .int .i64 a2]] w fun e w' => e = .returned (.int .i64 r) ∧ RigOwn base w' g f0 f1 q ∧ Below base w w' := by
 obtain ⟨A0, c0, A1, c1, A2, c2, hI⟩ := hI
 have HI := ak_ hI
 have hB0 := hI.lt
 have hu := Try.underlying41
 clear hI
 unfold impl_addBelay.f at h
 obtain ⟨i, ht, h⟩ := ob_ h
 have HT := ak_ ht
 clear ht
 by_cases hi0 : i < 0
 ·rw [if_pos hi0] at h
  simp only [Option.some.injEq, Prod.mk.injEq] at h
  obtain ⟨rfl, rfl⟩ := h
  have hid : decide (i < 0) = true := dt_ hi0
  clear hi0
  go_enter Try.func72, Try.ntmps72
  go_upto_region 1 with (first | ((with_reducible refine gate_dst (N := 3) rfl ?_); refine hand_box (fun g_ W_ => RailSt base w W_ g g_ A0 c0 A1 c1 A2 c2 f0 f1 f2 #[.string a0, .string a1, .int .i64 a2] 41) ?hg (N := 3) ?hd (cs := #[.string a0, .string a1, .int .i64 a2]) (t := 41) ?hr ?hF ?_; (case hd => rfl); (case hg => rfl); (case hr => first | (go_simp; done) | (go_simp; rfl)); (case hF => exact ⟨HI.out.step (below_alloc (Below.refl _ _) _), heap_alloc_new _ _, (Below.refl base w).alloc hB0 _⟩); intro bl w1 hh; obtain ⟨z0, z1, z2⟩ := hh.s0; have HS1 := ak_ hh; clear hh))
  clear z2
  have y0 : w1.drew.cell? ⟨g, 0, none⟩ = some (.slice A0 f0.length c0) := HS1.out.rig.c0
  have y1 : w1.drew.cell? ⟨g, 1, none⟩ = some (.slice A1 f1.length c1) := HS1.out.rig.c1
  have y2 : w1.drew.cell? ⟨g, 2, none⟩ = some (.slice A2 f2.length c2) := HS1.out.rig.c2
  replace z0 : w1.drew.cell? ⟨bl, 0, none⟩ = some (.string a0) := HS1.out.s0.1
  replace z1 : w1.drew.cell? ⟨bl, 1, none⟩ = some (.string a1) := HS1.out.s0.2.1
  have hu2 := Try.underlying31
  refine start_ (n := 18) (S := fun w' => w'.cell? ⟨g, 0, none⟩ = some (.slice A0 f0.length c0) ∧ w'.cell? ⟨g, 1, none⟩ = some (.slice A1 f1.length c1) ∧ w'.cell? ⟨g, 2, none⟩ = some (.slice A2 f2.length c2) ∧ w'.cell? ⟨bl, 0, none⟩ = some (.string a0) ∧ w'.cell? ⟨bl, 1, none⟩ = some (.string a1)) (ds := [5]) #[F_,F_,F_,F_,F_,F_,F_,F_,F_,F_,F_,F_,F_,F_,F_,F_,F_,F_] (by kernel_rfl) rfl rfl ⟨y0, y1, y2, z0, z1⟩ (fun hHeld => ?_); refine with_tabW impl_addBelayR.tab1 impl_addBelayR.bits1 (fun HT_ HW_ => ?_)
  generalize hW5 : w1.drew = W5 at hHeld y0 y1 y2 z0 z1 ⊢
  have HSW : Aside0 (RailSt base w W5 g bl A0 c0 A1 c1 A2 c2 f0 f1 f2 #[.string a0, .string a1, .int .i64 a2] 41) := ⟨by rw [← hW5]; exact HS1.out.step (below_drew (Below.refl _ _))⟩
  clear hW5
  refine pv (i := 0) (N := some 6) HT_ ?_
  refine pv (i := 1) (N := some 7) HT_ ?_
  refine pv (i := 3) (N := some 9) HT_ ?_
  refine take_ (i := 2) (N := some 8) (v := ?_) (a' := ?_) #[T_,T_,T_,T_,F_,F_,F_,F_,F_,F_,F_,F_,F_,F_,F_,F_,F_,F_] rfl rfl (take_ofW HT_.out HW_.out (by kernel_rfl)) (fun _ _ _ h => h) (Or.inl ⟨by rfl, ?_⟩) hHeld ?_ ?_
  rotate_left
  ·rintro w' ⟨s0, s1, s2, s3, s4⟩
   go_simp
   with_reducible rfl
  rotate_left
  ·simp only [Act.put, sT_, s0_, sS_, i64_w, i32_w]
   rfl
  refine take_ (i := 4) (N := some 10) (v := ?_) (a' := ?_) #[T_,T_,T_,T_,T_,F_,F_,F_,F_,F_,F_,F_,F_,F_,F_,F_,F_,F_] rfl rfl (take_ofW HT_.out HW_.out (by kernel_rfl)) (fun _ _ _ h => h) (Or.inl ⟨by rfl, ?_⟩) hHeld ?_ ?_
  rotate_left
  ·rintro w' ⟨s0, s1, s2, s3, s4⟩
   go_simp
   with_reducible rfl
  rotate_left
  ·simp only [Act.put, sT_, s0_, sS_, i64_w, i32_w]
   rfl
  refine last_ (i := 5) (N := (some 11)) #[T_,T_,T_,T_,T_,T_,F_,F_,F_,F_,F_,F_,F_,F_,F_,F_,F_,F_] rfl rfl (one_of HT_.out (by kernel_rfl)) (by decide) (fun K hK => ?_)
  go_simp
  go_at_call 68
  refine (impl_railNamed.calls A0 c0 f0 A1 c1 f1 A2 c2 f2 a1 i W5 (Kd.R_reads' HSW.out.rig.r0).2.2 (Kd.R_reads' HSW.out.rig.r0).2.1 (Kd.R_reads' HSW.out.rig.r1).2.2 (Kd.R_reads' HSW.out.rig.r1).2.1 (Kd.R_reads' HSW.out.rig.r2).2.2 (Kd.R_reads' HSW.out.rig.r2).2.1 HT.out).mono ?_
  rintro e w2 ⟨rfl, hb2⟩
  have HS2 := ak_ (HSW.out.step hb2)
  clear hb2 y0 y1 y2 z0 z1
  obtain ⟨z0, z1, z2⟩ := HS2.out.s0
  refine hK.out _ _ ?_
  clear hK K
  refine pv (i := 6) (N := some 12) HT_ ?_
  refine pv (i := 7) (N := some 13) HT_ ?_
  refine pw (i := 8) (N := some 14) HT_ ?_
  refine pw (i := 9) (N := some 15) HT_ ?_
  refine pw (i := 10) (N := some 16) HT_ ?_
  refine pw (i := 11) (N := some 17) HT_ ?_
  refine pw (i := 12) (N := some 18) HT_ ?_
  refine pw (i := 13) (N := some 19) HT_ ?_
  refine pw (i := 14) (N := some 20) HT_ ?_
  refine pw (i := 15) (N := some 21) HT_ ?_
  refine pv (i := 16) (N := some 22) HT_ ?_
  refine pv (i := 17) (N := some 5) HT_ ?_
  refine done_ (done_of HT_.out (by kernel_rfl)) ?_
  go_wp2_with fail
  go_ret
  exact ⟨rfl, HS2.out.rig.own, HS2.out.below⟩
 ·rw [if_neg hi0] at h
  obtain ⟨u, hu2, h⟩ := ob_ h
  have HU := ak_ hu2
  have hid : decide (i < 0) = false := decide_eq_false hi0
  have hip : 0 ≤ i := by omega
  clear hu2 hi0
  go_enter Try.func72, Try.ntmps72
  go_upto_region 1 with (first | ((with_reducible refine gate_dst (N := 3) rfl ?_); refine hand_box (fun g_ W_ => RailSt base w W_ g g_ A0 c0 A1 c1 A2 c2 f0 f1 f2 #[.string a0, .string a1, .int .i64 a2] 41) ?hg (N := 3) ?hd (cs := #[.string a0, .string a1, .int .i64 a2]) (t := 41) ?hr ?hF ?_; (case hd => rfl); (case hg => rfl); (case hr => first | (go_simp; done) | (go_simp; rfl)); (case hF => exact ⟨HI.out.step (below_alloc (Below.refl _ _) _), heap_alloc_new _ _, (Below.refl base w).alloc hB0 _⟩); intro bl w1 hh; obtain ⟨z0, z1, z2⟩ := hh.s0; have HS1 := ak_ hh; clear hh))
  clear z2
  have y0 : w1.drew.cell? ⟨g, 0, none⟩ = some (.slice A0 f0.length c0) := HS1.out.rig.c0
  have y1 : w1.drew.cell? ⟨g, 1, none⟩ = some (.slice A1 f1.length c1) := HS1.out.rig.c1
  have y2 : w1.drew.cell? ⟨g, 2, none⟩ = some (.slice A2 f2.length c2) := HS1.out.rig.c2
  replace z0 : w1.drew.cell? ⟨bl, 0, none⟩ = some (.string a0) := HS1.out.s0.1
  replace z1 : w1.drew.cell? ⟨bl, 1, none⟩ = some (.string a1) := HS1.out.s0.2.1
  have hu2 := Try.underlying31
  refine start_ (n := 18) (S := fun w' => w'.cell? ⟨g, 0, none⟩ = some (.slice A0 f0.length c0) ∧ w'.cell? ⟨g, 1, none⟩ = some (.slice A1 f1.length c1) ∧ w'.cell? ⟨g, 2, none⟩ = some (.slice A2 f2.length c2) ∧ w'.cell? ⟨bl, 0, none⟩ = some (.string a0) ∧ w'.cell? ⟨bl, 1, none⟩ = some (.string a1)) (ds := [14]) #[F_,F_,F_,F_,F_,F_,F_,F_,F_,F_,F_,F_,F_,F_,F_,F_,F_,F_] (by kernel_rfl) rfl rfl ⟨y0, y1, y2, z0, z1⟩ (fun hHeld => ?_); refine with_tabW impl_addBelayR.tab1 impl_addBelayR.bits1 (fun HT_ HW_ => ?_)
  generalize hW5 : w1.drew = W5 at hHeld y0 y1 y2 z0 z1 ⊢
  have HSW : Aside0 (RailSt base w W5 g bl A0 c0 A1 c1 A2 c2 f0 f1 f2 #[.string a0, .string a1, .int .i64 a2] 41) := ⟨by rw [← hW5]; exact HS1.out.step (below_drew (Below.refl _ _))⟩
  clear hW5
  refine pv (i := 0) (N := some 6) HT_ ?_
  refine pv (i := 1) (N := some 7) HT_ ?_
  refine pv (i := 3) (N := some 9) HT_ ?_
  refine take_ (i := 2) (N := some 8) (v := ?_) (a' := ?_) #[T_,T_,T_,T_,F_,F_,F_,F_,F_,F_,F_,F_,F_,F_,F_,F_,F_,F_] rfl rfl (take_ofW HT_.out HW_.out (by kernel_rfl)) (fun _ _ _ h => h) (Or.inl ⟨by rfl, ?_⟩) hHeld ?_ ?_
  rotate_left
  ·rintro w' ⟨s0, s1, s2, s3, s4⟩
   go_simp
   with_reducible rfl
  rotate_left
  ·simp only [Act.put, sT_, s0_, sS_, i64_w, i32_w]
   rfl
  refine take_ (i := 4) (N := some 10) (v := ?_) (a' := ?_) #[T_,T_,T_,T_,T_,F_,F_,F_,F_,F_,F_,F_,F_,F_,F_,F_,F_,F_] rfl rfl (take_ofW HT_.out HW_.out (by kernel_rfl)) (fun _ _ _ h => h) (Or.inl ⟨by rfl, ?_⟩) hHeld ?_ ?_
  rotate_left
  ·rintro w' ⟨s0, s1, s2, s3, s4⟩
   go_simp
   with_reducible rfl
  rotate_left
  ·simp only [Act.put, sT_, s0_, sS_, i64_w, i32_w]
   rfl
  refine one_ (i := 5) (N := (some 11)) #[T_,T_,T_,T_,T_,T_,F_,F_,F_,F_,F_,F_,F_,F_,F_,F_,F_,F_] rfl rfl (one_of HT_.out (by kernel_rfl)) (by decide) (fun K hK => ?_)
  go_simp
  go_at_call 68
  refine (impl_railNamed.calls A0 c0 f0 A1 c1 f1 A2 c2 f2 a1 i W5 (Kd.R_reads' HSW.out.rig.r0).2.2 (Kd.R_reads' HSW.out.rig.r0).2.1 (Kd.R_reads' HSW.out.rig.r1).2.2 (Kd.R_reads' HSW.out.rig.r1).2.1 (Kd.R_reads' HSW.out.rig.r2).2.2 (Kd.R_reads' HSW.out.rig.r2).2.1 HT.out).mono ?_
  rintro e w2 ⟨rfl, hb2⟩
  have HS2 := ak_ (HSW.out.step hb2)
  clear hb2 y0 y1 y2 z0 z1
  obtain ⟨z0, z1, z2⟩ := HS2.out.s0
  refine hK.out _ _ ⟨HS2.out.rig.c0, HS2.out.rig.c1, HS2.out.rig.c2, HS2.out.s0.1, HS2.out.s0.2.1⟩ (fun hHeld => ?_)
  clear hK K
  refine pv (i := 6) (N := some 12) HT_ ?_
  refine pv (i := 7) (N := some 13) HT_ ?_
  refine pv (i := 8) (N := some 14) HT_ ?_
  refine pv (i := 9) (N := some 15) HT_ ?_
  refine pv (i := 10) (N := some 16) HT_ ?_
  refine pv (i := 12) (N := some 18) HT_ ?_
  refine take_ (i := 11) (N := some 17) (v := ?_) (a' := ?_) #[T_,T_,T_,T_,T_,T_,T_,T_,T_,T_,T_,T_,T_,F_,F_,F_,F_,F_] rfl rfl (take_ofW HT_.out HW_.out (by kernel_rfl)) (fun _ _ _ h => h) (Or.inl ⟨by rfl, ?_⟩) hHeld ?_ ?_
  rotate_left
  ·rintro w' ⟨s0, s1, s2, s3, s4⟩
   go_simp
   with_reducible rfl
  rotate_left
  ·simp only [Act.put, sT_, s0_, sS_, i64_w, i32_w]
   rfl
  refine take_ (i := 13) (N := some 19) (v := ?_) (a' := ?_) #[T_,T_,T_,T_,T_,T_,T_,T_,T_,T_,T_,T_,T_,T_,F_,F_,F_,F_] rfl rfl (take_ofW HT_.out HW_.out (by kernel_rfl)) (fun _ _ _ h => h) (Or.inl ⟨by rfl, ?_⟩) hHeld ?_ ?_
  rotate_left
  ·rintro w' ⟨s0, s1, s2, s3, s4⟩
   go_simp
   with_reducible rfl
  rotate_left
  ·simp only [Act.put, sT_, s0_, sS_, i64_w, i32_w]
   rfl
  refine last_ (i := 14) (N := (some 20)) #[T_,T_,T_,T_,T_,T_,T_,T_,T_,T_,T_,T_,T_,T_,T_,F_,F_,F_] rfl rfl (one_of HT_.out (by kernel_rfl)) (by decide) (fun K hK => ?_)
  go_simp
  go_at_call 43
  refine (slices_Contains_string_string.calls k A1 c1 f1 a0 u w2 (Kd.R_reads' HS2.out.rig.r1).2.2 (Kd.R_reads' HS2.out.rig.r1).2.1 HU.out).mono ?_
  rintro e w3 ⟨rfl, hb3⟩
  have HS3 := ak_ (HS2.out.step hb3.below)
  clear hb3 z0 z1 z2
  obtain ⟨z0, z1, z2⟩ := HS3.out.s0
  refine hK.out _ _ ?_
  clear hK K
  refine pv (i := 15) (N := some 21) HT_ ?_
  refine pv (i := 16) (N := some 22) HT_ ?_
  refine pv (i := 17) (N := some 5) HT_ ?_
  refine done_ (done_of HT_.out (by kernel_rfl)) ?_
  go_upto_if 5 with fail
  cases u with
  | false =>
   simp only [Bool.false_eq_true, if_false, Option.some.injEq, Prod.mk.injEq] at h
   obtain ⟨rfl, rfl⟩ := h
   go_wp2_with fail
   go_ret
   exact ⟨rfl, HS3.out.rig.own, HS3.out.below⟩
  | true =>
   simp only [if_true] at h

   obtain ⟨p, hp, h⟩ := ob_ h
   have HPN := ak_ hp
   clear hp hid
   go_upto_region 3 with fail
   refine hand_tail 7 (fun W => RailSt base w W g bl A0 c0 A1 c1 A2 c2 f0 f1 f2 #[.string a0, .string a1, .int .i64 a2] 41) (by kernel_rfl) (by kernel_rfl) (HS3.out.step (below_drew (Below.refl _ _))) ?_
   clear z0 z1 z2
   rintro w31 hS
   obtain ⟨z0, z1, z2⟩ := hS.s0
   have x0 := hS.rig.c0
   have x1 := hS.rig.c1
   have x2 := hS.rig.c2
   have hu2 := Try.underlying31
   have HS31 := ak_ hS
   clear hS
   simp only [List.take_succ_cons, List.take_zero, List.drop_succ_cons, List.drop_zero]
   repeat still_step
   refine wpStill_nil ?_
   go_upto_if 23 with (go_at_call 59; refine (impl_hasPin.calls A0 c0 f0 A1 c1 f1 A2 c2 f2 a1 a2 p w31 (Kd.R_reads' HS31.out.rig.r0).2.2 (Kd.R_reads' HS31.out.rig.r0).2.1 (Kd.R_reads' HS31.out.rig.r1).2.2 (Kd.R_reads' HS31.out.rig.r1).2.1 (Kd.R_reads' HS31.out.rig.r2).2.2 (Kd.R_reads' HS31.out.rig.r2).2.1 HPN.out).mono ?_; rintro e w4 ⟨rfl, hb4⟩; have HS4 := ak_ (HS31.out.step hb4); clear hb4 z0 z1 z2 x0 x1 x2; obtain ⟨z0, z1, z2⟩ := HS4.out.s0)
   cases p with
   | false =>
    simp only [Bool.false_eq_true, if_false, Option.some.injEq, Prod.mk.injEq] at h
    obtain ⟨rfl, rfl⟩ := h
    go_wp2_with fail
    go_ret
    exact ⟨rfl, HS4.out.rig.own, HS4.out.below⟩
   | true =>
    simp only [if_true] at h
    obtain ⟨o, ho, h⟩ := ob_ h
    have HOF := ak_ ho
    clear ho
    go_upto_region 5 with fail
    refine hand_tail 5 (fun W => RailSt base w W g bl A0 c0 A1 c1 A2 c2 f0 f1 f2 #[.string a0, .string a1, .int .i64 a2] 41) (by kernel_rfl) (by kernel_rfl) (HS4.out.step (below_drew (Below.refl _ _))) ?_
    clear z0 z1 z2
    rintro w41 hS
    obtain ⟨z0, z1, z2⟩ := hS.s0
    have x0 := hS.rig.c0
    have x1 := hS.rig.c1
    have x2 := hS.rig.c2
    have hu2 := Try.underlying31
    have HS41 := ak_ hS
    clear hS
    simp only [List.take_succ_cons, List.take_zero, List.drop_succ_cons, List.drop_zero]
    repeat still_step
    refine wpStill_nil ?_
    go_upto_if 33 with (go_at_call 44; refine (impl_belayOf.calls A0 c0 f0 A1 c1 f1 A2 c2 f2 a0 o w41 (Kd.R_reads' HS41.out.rig.r0).2.2 (Kd.R_reads' HS41.out.rig.r0).2.1 (Kd.R_reads' HS41.out.rig.r1).2.2 (Kd.R_reads' HS41.out.rig.r1).2.1 (Kd.R_reads' HS41.out.rig.r2).2.2 (Kd.R_reads' HS41.out.rig.r2).2.1 HOF.out).mono ?_; rintro e w5 ⟨rfl, hb5⟩; have HS5 := ak_ (HS41.out.step hb5); clear hb5 z0 z1 z2 x0 x1 x2; obtain ⟨z0, z1, z2⟩ := HS5.out.s0)
    by_cases ho0 : o ≥ 0
    ·rw [if_pos ho0] at h
     simp only [Option.some.injEq, Prod.mk.injEq] at h
     obtain ⟨rfl, rfl⟩ := h
     have hod : decide ((0 : Int) ≤ o) = true := dt_ ho0
     go_wp2_with fail
     go_ret
     exact ⟨rfl, HS5.out.rig.own, HS5.out.below⟩
    ·rw [if_neg ho0] at h
     have hod : decide ((0 : Int) ≤ o) = false := decide_eq_false ho0
     obtain ⟨z, hz, h⟩ := ob_ h
     have HAT := ak_ hz
     clear hz
     go_upto_region 7 with fail
     refine hand_tail 7 (fun W => RailSt base w W g bl A0 c0 A1 c1 A2 c2 f0 f1 f2 #[.string a0, .string a1, .int .i64 a2] 41) (by kernel_rfl) (by kernel_rfl) (HS5.out.step (below_drew (Below.refl _ _))) ?_
     clear z0 z1 z2
     rintro w51 hS
     obtain ⟨z0, z1, z2⟩ := hS.s0
     have x0 := hS.rig.c0
     have x1 := hS.rig.c1
     have x2 := hS.rig.c2
     have hu2 := Try.underlying31
     have HS51 := ak_ hS
     clear hS
     simp only [List.take_succ_cons, List.take_zero, List.drop_succ_cons, List.drop_zero]
     repeat still_step
     refine wpStill_nil ?_
     go_upto_if 41 with (go_at_call 60; refine (impl_belayAt.calls A0 c0 f0 A1 c1 f1 A2 c2 f2 a1 a2 z w51 (Kd.R_reads' HS51.out.rig.r0).2.2 (Kd.R_reads' HS51.out.rig.r0).2.1 (Kd.R_reads' HS51.out.rig.r1).2.2 (Kd.R_reads' HS51.out.rig.r1).2.1 (Kd.R_reads' HS51.out.rig.r2).2.2 (Kd.R_reads' HS51.out.rig.r2).2.1 HAT.out).mono ?_; rintro e w6 ⟨rfl, hb6⟩; have HS6 := ak_ (HS51.out.step hb6); clear hb6 z0 z1 z2 x0 x1 x2; obtain ⟨z0, z1, z2⟩ := HS6.out.s0)
     by_cases hz0 : z ≥ 0
     ·rw [if_pos hz0] at h
      simp only [Option.some.injEq, Prod.mk.injEq] at h
      obtain ⟨rfl, rfl⟩ := h
      have hzd : decide ((0 : Int) ≤ z) = true := dt_ hz0
      go_wp2_with fail
      go_ret
      exact ⟨rfl, HS6.out.rig.own, HS6.out.below⟩
     ·rw [if_neg hz0] at h
      have hzd : decide ((0 : Int) ≤ z) = false := decide_eq_false hz0
      by_cases hl : f2.length < 3000000000
      ·rw [if_pos hl] at h
       simp only [Option.some.injEq, Prod.mk.injEq] at h
       obtain ⟨rfl, rfl⟩ := h
       have HLM := ak_ hl
       clear hl
       have y0 : w6.drew.cell? ⟨g, 2, none⟩ = some (.slice A2 f2.length c2) := HS6.out.rig.c2
       have z0 : w6.drew.cell? ⟨bl, 0, none⟩ = some (.string a0) := HS6.out.s0.1
       have z1 : w6.drew.cell? ⟨bl, 1, none⟩ = some (.string a1) := HS6.out.s0.2.1
       have z2 : w6.drew.cell? ⟨bl, 2, none⟩ = some (.int .i64 a2) := HS6.out.s0.2.2
       go_upto_region 9 with fail
       refine start_ (n := 11) (S := fun w' => w'.cell? ⟨g, 2, none⟩ = some (.slice A2 f2.length c2) ∧ w'.cell? ⟨bl, 0, none⟩ = some (.string a0) ∧ w'.cell? ⟨bl, 1, none⟩ = some (.string a1) ∧ w'.cell? ⟨bl, 2, none⟩ = some (.int .i64 a2)) (ds := [7, 10]) #[F_,F_,F_,F_,F_,F_,F_,F_,F_,F_,F_] (by kernel_rfl) rfl rfl ⟨y0, z0, z1, z2⟩ (fun hHeld => ?_); refine with_tabW impl_addBelay.tab9 impl_addBelay.bits9 (fun HT_ HW_ => ?_)
       generalize hW5 : w6.drew = W5 at hHeld y0 z0 z1 z2 ⊢
       have HS5 : Aside0 (RailSt base w W5 g bl A0 c0 A1 c1 A2 c2 f0 f1 f2 #[.string a0, .string a1, .int .i64 a2] 41) := ⟨by rw [← hW5]; exact HS6.out.step (below_drew (Below.refl _ _))⟩
       clear hW5
       refine pv (i := 0) (N := some 51) HT_ ?_
       refine pv (i := 1) (N := some 52) HT_ ?_
       refine pv (i := 2) (N := some 53) HT_ ?_
       refine pv (i := 3) (N := some 54) HT_ ?_
       refine take_ (i := 4) (N := some 55) (v := ?_) (a' := ?_) #[T_,T_,T_,T_,T_,F_,F_,F_,F_,F_,F_] rfl rfl (take_ofW HT_.out HW_.out (by kernel_rfl)) (fun _ _ _ h => h) (Or.inl ⟨by rfl, ?_⟩) hHeld ?_ ?_
       rotate_left
       ·rintro w' ⟨s0, s1, s2, s3⟩
        go_simp
        with_reducible rfl
       rotate_left
       ·simp only [Act.put, sT_, s0_, sS_, i64_w, i32_w]
        rfl
       refine take_ (i := 5) (N := some 56) (v := ?_) (a' := ?_) #[T_,T_,T_,T_,T_,T_,F_,F_,F_,F_,F_] rfl rfl (take_ofW HT_.out HW_.out (by kernel_rfl)) (fun _ _ _ h => h) (Or.inl ⟨by rfl, ?_⟩) hHeld ?_ ?_
       rotate_left
       ·rintro w' ⟨s0, s1, s2, s3⟩
        go_simp
        with_reducible rfl
       rotate_left
       ·simp only [Act.put, sT_, s0_, sS_, i64_w, i32_w]
        rfl
       refine one_ (i := 6) (N := (some 57)) #[T_,T_,T_,T_,T_,T_,T_,F_,F_,F_,F_] rfl rfl (one_of HT_.out (by kernel_rfl)) (by decide) (fun K hK => ?_)
       refine event_step (v := .slice (some ⟨W5.heap.size, 0, none⟩) 1 1) (w1 := W5.alloc (.cells #[.string a0, .string a1, .int .i64 a2] 41)) (by rfl) (by first | (go_simp; done) | (go_simp; rfl)) ?_
       refine hK.out _ _ ⟨pw_cell_below (below_alloc (Below.refl W5.heap.size W5) _) y0, pw_cell_below (below_alloc (Below.refl W5.heap.size W5) _) z0, pw_cell_below (below_alloc (Below.refl W5.heap.size W5) _) z1, pw_cell_below (below_alloc (Below.refl W5.heap.size W5) _) z2⟩ (fun hHeld => ?_)
       clear hK K
       refine norm_ (a' := ?_) ?_ ?_
       rotate_left
       ·show Act.put _ (some 57) _ = _
        simp only [Act.put, sT_, s0_, sS_, i64_w, i32_w]
        rfl
       refine last_ (i := 7) (N := (some 58)) #[T_,T_,T_,T_,T_,T_,T_,T_,F_,F_,F_] rfl rfl (one_of HT_.out (by kernel_rfl)) (by decide) (fun K hK => ?_)
       refine Kd.R_append_step k41 (w0 := w) base (by rfl) (.tmp 55) (.tmp 57) 29 41 (.agg #[(.string ⟨#[]⟩), (.string ⟨#[]⟩), (.int .i64 0)]) 40 rfl Try.underlying29 info41 rfl (by decide) (by decide) (.slice A2 f2.length c2) f2 (⟨a0, a1, a2⟩ : S41) [.string a0, .string a1, .int .i64 a2] (fun _ => True) (fun _ => False) rfl rfl (k41_mkM _ _ _ _) (fun _ hk => hk.elim) (fun _ _ => trivial) HS5.out.rig.r2 HS5.out.below HS5.out.rig.lt (by have := HLM.out; omega) ?_
       intro v6 w6 ho hb hg hat
       obtain ⟨A6, c6, e6⟩ := Kd.R_slice ho
       subst e6
       have hP := HS5.out.rig.put2 hg ho
       have HP := ak_ hP
       have HB6 := ak_ hb
       clear ho hb hg hat hP
       refine hK.out _ _ ?_
       clear hK K
       refine norm_ (a' := ?_) ?_ ?_
       rotate_left
       ·show Act.put _ (some 58) _ = _
        simp only [Act.put, sT_, s0_, sS_, i64_w, i32_w]
        rfl
       refine pv (i := 8) (N := some 59) HT_ ?_
       refine pv (i := 9) (N := some 60) HT_ ?_
       refine last_ (i := 10) (N := none) #[T_,T_,T_,T_,T_,T_,T_,T_,T_,T_,T_] rfl rfl (one_of HT_.out (by kernel_rfl)) (by decide) (fun K hK => ?_)
       refine skip_ (w1 := w6.setCell ⟨g, 2, none⟩ (.slice A6 (f2 ++ [(⟨a0, a1, a2⟩ : S41)]).length c6)) (by rfl) rfl ?_ ?_
       ·have fz := HP.out.1.1
        have xz := HP.out.1.2
        first | (go_simp; done) | (go_simp; rfl)
       refine hK.out _ _ ?_
       clear hK K
       refine done_ (done_of HT_.out (by kernel_rfl)) ?_
       obtain ⟨w7, hw7⟩ : ∃ w7, w7 = w6.setCell ⟨g, 2, none⟩ (.slice A6 (f2 ++ [(⟨a0, a1, a2⟩ : S41)]).length c6) := ⟨_, rfl⟩
       have HR7 : Aside0 (RigOwn base w7 g f0 f1 (f2 ++ [(⟨a0, a1, a2⟩ : S41)])) := ⟨by rw [hw7]; exact HP.out.2.own⟩
       have HB7 : Aside0 (Below base w w7) := ⟨by rw [hw7]; exact HB6.out.setCell HS5.out.rig.ge _⟩
       rw [← hw7]
       clear hw7 HP HB6 HS5 y0 z0 z1 z2
       go_wp2_with fail
       go_ret
       exact ⟨rfl, HR7.out, HB7.out⟩
      ·rw [if_neg hl] at h
       exact absurd h (by simp)


/-! ### impl_ValidRig: function 34 -/
open Go.Proofs.YtcenjcgfdghfnaaW.Hand
/-- The rails, one after the other; none where one does not fit. -/
def impl_ValidRig.rails (k : Nat) : List S91 → List S91 → Option (Option (List S91))
 | [], b => some (some b)
 | x :: xs, b => (impl_addRail.f k b [] [] x.f0 x.f1 x.f2).bind fun q => if q.2 = 0 then impl_ValidRig.rails k xs q.1 else some none
def impl_ValidRig.lines (k : Nat) (f0 : List S91) : List ByteArray → List ByteArray → Option (Option (List ByteArray))
 | [], b => some (some b)
 | x :: xs, b => (impl_addLine.f k f0 b [] x).bind fun q => if q.2 = 0 then impl_ValidRig.lines k f0 xs q.1 else some none
def impl_ValidRig.belays (k : Nat) (f0 : List S91) (f1 : List ByteArray) : List S41 → List S41 → Option (Option (List S41))
 | [], b => some (some b)
 | x :: xs, b => (impl_addBelay.f k f0 f1 b x.f0 x.f1 x.f2).bind fun q => if q.2 = 0 then impl_ValidRig.belays k f0 f1 xs q.1 else some none
def impl_ValidRig.f (k : Nat) (l0 : List S91) (l1 : List ByteArray) (l2 : List S41) : Option Bool :=
 (impl_ValidRig.rails k l0 []).bind fun o0 => match o0 with
  | none => some false
  | some b0 => (impl_ValidRig.lines k b0 l1 []).bind fun o1 => match o1 with
   | none => some false
   | some b1 => (impl_ValidRig.belays k b0 b1 l2 []).bind fun o2 => match o2 with
    | none => some false
    | some _ => some true
theorem impl_ValidRig.rails_step (k : Nat) (l : List S91) (j : Nat) (b : List S91) (h : j < l.length) : impl_ValidRig.rails k (l.drop j) b = (impl_addRail.f k b [] [] (rd_T91 l j).f0 (rd_T91 l j).f1 (rd_T91 l j).f2).bind fun q => if q.2 = 0 then impl_ValidRig.rails k (l.drop (j + 1)) q.1 else some none := by
 have e : rd_T91 l (j : Int) = l[j] := by
  unfold rd_T91
  rw [Int.toNat_natCast, List.getD_eq_getElem?_getD, List.getElem?_eq_getElem h]
  rfl
 rw [List.drop_eq_getElem_cons h, impl_ValidRig.rails, e]
theorem impl_ValidRig.lines_step (k : Nat) (f0 : List S91) (l : List ByteArray) (j : Nat) (b : List ByteArray) (h : j < l.length) : impl_ValidRig.lines k f0 (l.drop j) b = (impl_addLine.f k f0 b [] (rdOf ByteArray.empty l j)).bind fun q => if q.2 = 0 then impl_ValidRig.lines k f0 (l.drop (j + 1)) q.1 else some none := by
 have e : rdOf ByteArray.empty l (j : Int) = l[j] := by
  unfold rdOf
  rw [Int.toNat_natCast, List.getD_eq_getElem?_getD, List.getElem?_eq_getElem h]
  rfl
 rw [List.drop_eq_getElem_cons h, impl_ValidRig.lines, e]
theorem impl_ValidRig.belays_step (k : Nat) (f0 : List S91) (f1 : List ByteArray) (l : List S41) (j : Nat) (b : List S41) (h : j < l.length) : impl_ValidRig.belays k f0 f1 (l.drop j) b = (impl_addBelay.f k f0 f1 b (rd_T41 l j).f0 (rd_T41 l j).f1 (rd_T41 l j).f2).bind fun q => if q.2 = 0 then impl_ValidRig.belays k f0 f1 (l.drop (j + 1)) q.1 else some none := by
 have e : rd_T41 l (j : Int) = l[j] := by
  unfold rd_T41
  rw [Int.toNat_natCast, List.getD_eq_getElem?_getD, List.getElem?_eq_getElem h]
  rfl
 rw [List.drop_eq_getElem_cons h, impl_ValidRig.belays, e]
set_option maxRecDepth 100000 in
set_option maxHeartbeats 8000000 in
theorem impl_ValidRig.core (k : Nat) (A0 : Option Addr) (c0 : Nat) (l0 : List S91) (A1 : Option Addr) (c1 : Nat) (l1 : List ByteArray) (A2 : Option Addr) (c2 : Nat) (l2 : List S41) (r : Bool) (w : World) (hr0 : Kd.C k91 w A0 l0.length l0) (hr1 : Kd.C Kd.string w A1 l1.length l1) (hr2 : Kd.C k41 w A2 l2.length l2) (h : impl_ValidRig.f k l0 l1 l2 = some r) :
  Calls Try.prog 34 #[.agg #[.slice A0 l0.length c0, .slice A1 l1.length c1, .slice A2 l2.length c2]] w fun e w' => e = .returned (.bool r) ∧ Below w.heap.size w w' := by
 have hm0 := hr0.2.1
 have hm1 := hr1.2.1
 have hm2 := hr2.2.1
 have HR0 := ak_ hr0
 have HR1 := ak_ hr1
 have HR2 := ak_ hr2
 have hu := Try.underlying31
 have hu3 := Try.underlying91
 have hu4 := Try.underlying41
 clear hr0 hr1 hr2
 unfold impl_ValidRig.f at h
 obtain ⟨o0, h0, hF⟩ := ob_ h
 have H0 := ak_ h0
 have HF0 := ak_ hF
 clear h0 hF h
 go_enter Try.func34, Try.ntmps34
 go_wp2_with (first | ((with_reducible refine gate_dst (N := 1) rfl ?_); refine hand_box (fun g_ W_ => W_.heap[g_]? = some (.cells #[.slice A0 l0.length c0, .slice A1 l1.length c1, .slice A2 l2.length c2] 31 (0, 0)) ∧ Below w.heap.size w W_) ?hg (N := 1) ?hd (cs := #[.slice A0 l0.length c0, .slice A1 l1.length c1, .slice A2 l2.length c2]) (t := 31) ?hr ?hF ?_; (case hd => rfl); (case hg => rfl); (case hr => first | (go_simp; done) | (go_simp; rfl)); (case hF => exact ⟨heap_alloc_new _ _, below_alloc (Below.refl _ _) _⟩); intro g w1 hh; have HE := ak_ hh; clear hh) | ((with_reducible refine gate_dst (N := 3) rfl ?_); refine hand_box (fun g_ W_ => W_.heap[g_]? = some (.cells #[.slice none 0 0, .slice none 0 0, .slice none 0 0] 31 (0, 0)) ∧ w.heap.size ≤ g_ ∧ Below w.heap.size w W_ ∧ W_.heap[g]? = some (.cells #[.slice A0 l0.length c0, .slice A1 l1.length c1, .slice A2 l2.length c2] 31 (0, 0)) ∧ g < g_) ?hg (N := 3) ?hd (cs := #[.slice none 0 0, .slice none 0 0, .slice none 0 0]) (t := 31) ?hr ?hF ?_; (case hd => rfl); (case hg => rfl); (case hr => first | (go_simp; done) | (go_simp; rfl)); (case hF => exact ⟨heap_alloc_new _ _, HE.out.2.size, HE.out.2.alloc HE.out.2.size _, (Below.heap_alloc _ _ _ (blk_lt HE.out.1)).trans HE.out.1, blk_lt HE.out.1⟩); intro bl w2 hh; have z0 : w2.cell? ⟨bl, 0, none⟩ = some (.slice none 0 0) := (blk_cell hh.1 0).trans rfl; have z1 : w2.cell? ⟨bl, 1, none⟩ = some (.slice none 0 0) := (blk_cell hh.1 1).trans rfl; have z2 : w2.cell? ⟨bl, 2, none⟩ = some (.slice none 0 0) := (blk_cell hh.1 2).trans rfl; have k0 := blk_frozen hh.1 0; have k1 := blk_frozen hh.1 1; have k2 := blk_frozen hh.1 2; have HZ := ak_ hh; clear hh) | (refine hand_store (fun w' => RigOwn bl w' bl [] [] [] ∧ Below w.heap.size w w' ∧ w'.heap[g]? = some (.cells #[.slice A0 l0.length c0, .slice A1 l1.length c1, .slice A2 l2.length c2] 31 (0, 0))) (t := 31) (p := 3) (v := .tmp 10) (w1 := ((w2.setCell ⟨bl, 0, none⟩ (.slice none 0 0)).setCell ⟨bl, 1, none⟩ (.slice none 0 0)).setCell ⟨bl, 2, none⟩ (.slice none 0 0)) ?hg4 rfl ?hN4 ?hr4 ?hF4 ?_; (case hg4 => rfl); (case hN4 => rfl); (case hr4 => first | (go_simp; done) | (go_simp; rfl)); (case hF4 => exact ⟨(rig_new HZ.out.1 (Nat.le_refl bl) (Kd.R_nil _ _ _ _ _) (Kd.R_nil _ _ _ _ _) (Kd.R_nil _ _ _ _ _)).own, set3_below HZ.out.2.2.1 HZ.out.2.1, blk_far (blk_far (blk_far HZ.out.2.2.2.1 (Nat.ne_of_lt HZ.out.2.2.2.2) _) (Nat.ne_of_lt HZ.out.2.2.2.2) _) (Nat.ne_of_lt HZ.out.2.2.2.2) _⟩); clear z0 z1 z2 k0 k1 k2; rintro w3 hh; have HBU := ak_ (show Built bl w3 w3 bl [] [] [] from ⟨hh.1, Below.refl _ _⟩); have HE3 := ak_ hh.2.1; have HG := ak_ hh.2.2; have HLE := ak_ HZ.out.2.1; have HGL := ak_ HZ.out.2.2.2.2; have x0 : w3.cell? ⟨g, 0, none⟩ = some (.slice A0 l0.length c0) := (blk_cell hh.2.2 0).trans rfl; clear hh))
 go_loopg [5, 14] l0.length (fun gg _ v14 wr => ∃ i : Nat, v14 = .int .i64 (i : Int) ∧ Aside0 (i ≤ l0.length ∧ l0.length - i ≤ gg) ∧ Aside0 (∃ b : List S91, impl_ValidRig.rails k (l0.drop i) b = some o0 ∧ Built bl w3 wr bl b [] []))
 case atStart => exact ⟨0, by go_num, ⟨Nat.zero_le _, by omega⟩, ⟨[], H0.out, HBU.out⟩⟩
 case round =>
 obtain ⟨i, rfl, HJ, HY⟩ := hrel
 clear HBU
 obtain ⟨b, hR, hBU⟩ := HY.out
 clear HY
 have HBU := ak_ hBU
 have hWB : Below w.heap.size w wr := (below_trans HE3.out (below_mono (hBU.2) HLE.out))
 by_cases hlt : i < l0.length
 rotate_left
 ·have he : i = l0.length := by have := HJ.out; omega
  have hltb : decide (i < l0.length) = false := decide_eq_false hlt
  have hR2 : o0 = some b := by rw [he, List.drop_length] at hR; exact (Option.some.inj hR).symm
  have HB0 := ak_ hR2
  clear hR hlt HJ he hR2 hBU hWB
  obtain ⟨b0, hbb⟩ : ∃ y, y = b := ⟨_, rfl⟩
  rw [← hbb] at HB0 HBU
  clear hbb
  have hF0 := HF0.out
  rw [HB0.out] at hF0
  obtain ⟨o1, h1, hF0'⟩ := ob_ hF0
  have H1 := ak_ h1
  have HF1 := ak_ hF0'
  clear hF0 h1 hF0'
  have x1 : wr.cell? ⟨g, 1, none⟩ = some (.slice A1 l1.length c1) := (blk_cell ((HBU.out.2.block g HGL.out).trans HG.out) 1).trans rfl
  go_wp2_with fail
  obtain ⟨wo1, rfl⟩ : ∃ wo : World, wo = wr := ⟨_, rfl⟩
  go_loopg [7, 25] l1.length (fun gg _ v25 wr => ∃ i : Nat, v25 = .int .i64 (i : Int) ∧ Aside0 (i ≤ l1.length ∧ l1.length - i ≤ gg) ∧ Aside0 (∃ b : List ByteArray, impl_ValidRig.lines k b0 (l1.drop i) b = some o1 ∧ Built bl w3 wr bl b0 b []))
  case atStart => exact ⟨0, by go_num, ⟨Nat.zero_le _, by omega⟩, ⟨[], H1.out, HBU.out⟩⟩
  case round =>
  obtain ⟨i, rfl, HJ, HY⟩ := hrel
  clear HBU
  obtain ⟨b, hR, hBU⟩ := HY.out
  clear HY
  have HBU := ak_ hBU
  have hWB : Below w.heap.size w wr := (below_trans HE3.out (below_mono (hBU.2) HLE.out))
  by_cases hlt : i < l1.length
  rotate_left
  ·have he : i = l1.length := by have := HJ.out; omega
   have hltb : decide (i < l1.length) = false := decide_eq_false hlt
   have hR2 : o1 = some b := by rw [he, List.drop_length] at hR; exact (Option.some.inj hR).symm
   have HB1 := ak_ hR2
   clear hR hlt HJ he hR2 hBU hWB
   obtain ⟨b1, hbb⟩ : ∃ y, y = b := ⟨_, rfl⟩
   rw [← hbb] at HB1 HBU
   clear hbb
   have hF1 := HF1.out
   rw [HB1.out] at hF1
   obtain ⟨o2, h2, hF1'⟩ := ob_ hF1
   have H2 := ak_ h2
   have HF2 := ak_ hF1'
   clear hF1 h2 hF1'
   have x2 : wr.cell? ⟨g, 2, none⟩ = some (.slice A2 l2.length c2) := (blk_cell ((HBU.out.2.block g HGL.out).trans HG.out) 2).trans rfl
   go_wp2_with fail
   obtain ⟨wo2, rfl⟩ : ∃ wo : World, wo = wr := ⟨_, rfl⟩
   go_loopg [9, 36] l2.length (fun gg _ v36 wr => ∃ i : Nat, v36 = .int .i64 (i : Int) ∧ Aside0 (i ≤ l2.length ∧ l2.length - i ≤ gg) ∧ Aside0 (∃ b : List S41, impl_ValidRig.belays k b0 b1 (l2.drop i) b = some o2 ∧ Built bl w3 wr bl b0 b1 b))
   case atStart => exact ⟨0, by go_num, ⟨Nat.zero_le _, by omega⟩, ⟨[], H2.out, HBU.out⟩⟩
   case round =>
   obtain ⟨i, rfl, HJ, HY⟩ := hrel
   clear HBU
   obtain ⟨b, hR, hBU⟩ := HY.out
   clear HY
   have HBU := ak_ hBU
   have hWB : Below w.heap.size w wr := (below_trans HE3.out (below_mono (hBU.2) HLE.out))
   by_cases hlt : i < l2.length
   rotate_left
   ·have he : i = l2.length := by have := HJ.out; omega
    have hltb : decide (i < l2.length) = false := decide_eq_false hlt
    have hR2 : o2 = some b := by rw [he, List.drop_length] at hR; exact (Option.some.inj hR).symm
    have HB2 := ak_ hR2
    clear hR hlt HJ he hR2 hBU hWB
    have hF2 := HF2.out
    rw [HB2.out] at hF2
    obtain rfl : true = r := Option.some.inj hF2
    clear hF2
    go_wp2_with fail
    go_ret
    exact ⟨rfl, (below_trans HE3.out (below_mono (HBU.out.2) HLE.out))⟩
   have hltb : decide (i < l2.length) = true := dt_ hlt
   have hi0 : 0 ≤ (i : Int) := Int.natCast_nonneg i
   have hi1 : (i : Int) < (l2.length : Int) := by omega
   obtain ⟨ad9, e9, hx0, hx1, hx2⟩ := at_T41 HR2.out (i : Int) hi0 hi1
   rw [Int.toNat_natCast] at hx0 hx1 hx2
   replace hx0 := pw_cell_below hWB hx0
   replace hx1 := pw_cell_below hWB hx1
   replace hx2 := pw_cell_below hWB hx2
   cases e9
   clear hBU hWB
   rw [impl_ValidRig.belays_step k b0 b1 l2 i b hlt] at hR
   obtain ⟨⟨q, c⟩, hq, hR⟩ := ob_ hR
   dsimp only at hR
   have HQ := ak_ hq
   have HR := ak_ hR
   clear hq hR
   go_upto_if 42 with (first | ((with_reducible refine gate_dst (N := 9) rfl ?_); refine hand_box (fun g_ W_ => Built bl w3 W_ bl b0 b1 b ∧ W_.heap[g_]? = some (.cells #[.string ⟨#[]⟩, .string ⟨#[]⟩, .int .i64 0] 41 (0, 0)) ∧ Below wr.heap.size wr W_ ∧ wr.heap.size ≤ g_) ?hg (N := 9) ?hd (cs := #[.string ⟨#[]⟩, .string ⟨#[]⟩, .int .i64 0]) (t := 41) ?hr ?hF ?_; (case hd => rfl); (case hg => rfl); (case hr => first | (go_simp; done) | (go_simp; rfl)); (case hF => exact ⟨built_step HBU.out (below_alloc (Below.refl _ _) _), heap_alloc_new _ _, below_alloc (Below.refl _ _) _, Nat.le_refl _⟩); intro bx w4 hh; have HX4 := ak_ hh; have z0 : w4.cell? ⟨bx, 0, none⟩ = some (.string ⟨#[]⟩) := (blk_cell hh.2.1 0).trans rfl; have z1 : w4.cell? ⟨bx, 1, none⟩ = some (.string ⟨#[]⟩) := (blk_cell hh.2.1 1).trans rfl; have z2 : w4.cell? ⟨bx, 2, none⟩ = some (.int .i64 0) := (blk_cell hh.2.1 2).trans rfl; have k0 := blk_frozen hh.2.1 0; have k1 := blk_frozen hh.2.1 1; have k2 := blk_frozen hh.2.1 2; clear hh) | (refine hand_store (fun w5 => Built bl w3 w5 bl b0 b1 b ∧ w5.heap[bx]? = some (.cells #[.string (rd_T41 l2 (i : Int)).f0, .string (rd_T41 l2 (i : Int)).f1, .int .i64 (rd_T41 l2 (i : Int)).f2] 41 (0, 0))) (t := 41) (p := 9) (v := .tmp 39) (w1 := ((w4.setCell ⟨bx, 0, none⟩ (.string (rd_T41 l2 (i : Int)).f0)).setCell ⟨bx, 1, none⟩ (.string (rd_T41 l2 (i : Int)).f1)).setCell ⟨bx, 2, none⟩ (.int .i64 (rd_T41 l2 (i : Int)).f2)) ?hg4 rfl ?hN4 ?hr4 ?hF4 ?_; (case hg4 => rfl); (case hN4 => rfl); (case hr4 => first | (go_simp; done) | (go_simp; rfl)); (case hF4 => exact ⟨built_step HBU.out (set3_below HX4.out.2.2.1 HX4.out.2.2.2), blk_set (blk_set (blk_set HX4.out.2.1 0 _) 1 _) 2 _⟩); clear z0 z1 z2 k0 k1 k2; rintro w5 hh; have HBU := ak_ hh.1; have y0 : w5.cell? ⟨bx, 0, none⟩ = some (.string (rd_T41 l2 (i : Int)).f0) := (blk_cell hh.2 0).trans rfl; have y1 : w5.cell? ⟨bx, 1, none⟩ = some (.string (rd_T41 l2 (i : Int)).f1) := (blk_cell hh.2 1).trans rfl; have y2 : w5.cell? ⟨bx, 2, none⟩ = some (.int .i64 (rd_T41 l2 (i : Int)).f2) := (blk_cell hh.2 2).trans rfl; clear hh) | (go_at_call 72; refine (impl_addBelay.calls k bl bl b0 b1 b (rd_T41 l2 (i : Int)).f0 (rd_T41 l2 (i : Int)).f1 (rd_T41 l2 (i : Int)).f2 q c w5 HBU.out.1 HQ.out).mono ?_; rintro e w9 ⟨rfl, hO, hb⟩; have HBQ := ak_ (show Built bl w3 w9 bl b0 b1 q from ⟨hO, below_trans HBU.out.2 hb⟩); clear hO hb))
   by_cases hz : c = 0
   rotate_left
   ·have hzb : (c != 0) = true := by simpa using hz
    have hr0 := HR.out
    rw [if_neg hz] at hr0
    have hq0 : o2 = none := (Option.some.inj hr0).symm
    have hF2 := HF2.out
    rw [hq0] at hF2
    obtain rfl : false = r := Option.some.inj hF2
    clear hr0 hq0 hF2
    go_wp2_with fail
    go_ret
    exact ⟨rfl, (below_trans HE3.out (below_mono (HBQ.out.2) HLE.out))⟩
   have hzb : (c != 0) = false := by simpa using hz
   have HR2 : Aside0 (impl_ValidRig.belays k b0 b1 (l2.drop (i + 1)) q = some o2) := ⟨by have h1 := HR.out; rwa [if_pos hz] at h1⟩
   clear HR HQ hz
   go_wp2_with fail
   go_roundg (l2.length - (i + 1))
   case measure => have := HJ.out; omega
   case rel => exact ⟨i + 1, by go_num, ⟨by omega, by omega⟩, ⟨q, HR2.out, HBQ.out⟩⟩
  have hltb : decide (i < l1.length) = true := dt_ hlt
  have hi0 : 0 ≤ (i : Int) := Int.natCast_nonneg i
  have hi1 : (i : Int) < (l1.length : Int) := by omega
  obtain ⟨ad9, e9, hx0⟩ := Kd.at_string HR1.out (i : Int) hi0 hi1
  rw [Int.toNat_natCast] at hx0
  replace hx0 := pw_cell_below hWB hx0
  cases e9
  clear hBU hWB
  rw [impl_ValidRig.lines_step k b0 l1 i b hlt] at hR
  obtain ⟨⟨q, c⟩, hq, hR⟩ := ob_ hR
  dsimp only at hR
  have HQ := ak_ hq
  have HR := ak_ hR
  clear hq hR
  go_upto_if 31 with (go_at_call 71; refine (impl_addLine.calls k bl bl b0 b [] (rdOf ByteArray.empty l1 (i : Int)) q c wr HBU.out.1 HQ.out).mono ?_; rintro e w9 ⟨rfl, hO, hb⟩; have HBQ := ak_ (show Built bl w3 w9 bl b0 q [] from ⟨hO, below_trans HBU.out.2 hb⟩); clear hO hb)
  by_cases hz : c = 0
  rotate_left
  ·have hzb : (c != 0) = true := by simpa using hz
   have hr0 := HR.out
   rw [if_neg hz] at hr0
   have hq0 : o1 = none := (Option.some.inj hr0).symm
   have hF1 := HF1.out
   rw [hq0] at hF1
   obtain rfl : false = r := Option.some.inj hF1
   clear hr0 hq0 hF1
   go_wp2_with fail
   go_ret
   exact ⟨rfl, (below_trans HE3.out (below_mono (HBQ.out.2) HLE.out))⟩
  have hzb : (c != 0) = false := by simpa using hz
  have HR2 : Aside0 (impl_ValidRig.lines k b0 (l1.drop (i + 1)) q = some o1) := ⟨by have h1 := HR.out; rwa [if_pos hz] at h1⟩
  clear HR HQ hz
  go_wp2_with fail
  go_roundg (l1.length - (i + 1))
  case measure => have := HJ.out; omega
  case rel => exact ⟨i + 1, by go_num, ⟨by omega, by omega⟩, ⟨q, HR2.out, HBQ.out⟩⟩
 have hltb : decide (i < l0.length) = true := dt_ hlt
 have hi0 : 0 ≤ (i : Int) := Int.natCast_nonneg i
 have hi1 : (i : Int) < (l0.length : Int) := by omega
 obtain ⟨ad9, e9, hx0, hx1, hx2⟩ := at_T91 HR0.out (i : Int) hi0 hi1
 rw [Int.toNat_natCast] at hx0 hx1 hx2
 replace hx0 := pw_cell_below hWB hx0
 replace hx1 := pw_cell_below hWB hx1
 replace hx2 := pw_cell_below hWB hx2
 cases e9
 clear hBU hWB
 rw [impl_ValidRig.rails_step k l0 i b hlt] at hR
 obtain ⟨⟨q, c⟩, hq, hR⟩ := ob_ hR
 dsimp only at hR
 have HQ := ak_ hq
 have HR := ak_ hR
 clear hq hR
 go_upto_if 20 with (first | ((with_reducible refine gate_dst (N := 5) rfl ?_); refine hand_box (fun g_ W_ => Built bl w3 W_ bl b [] [] ∧ W_.heap[g_]? = some (.cells #[.string ⟨#[]⟩, .string ⟨#[]⟩, .int .i64 0] 91 (0, 0)) ∧ Below wr.heap.size wr W_ ∧ wr.heap.size ≤ g_) ?hg (N := 5) ?hd (cs := #[.string ⟨#[]⟩, .string ⟨#[]⟩, .int .i64 0]) (t := 91) ?hr ?hF ?_; (case hd => rfl); (case hg => rfl); (case hr => first | (go_simp; done) | (go_simp; rfl)); (case hF => exact ⟨built_step HBU.out (below_alloc (Below.refl _ _) _), heap_alloc_new _ _, below_alloc (Below.refl _ _) _, Nat.le_refl _⟩); intro bx w4 hh; have HX4 := ak_ hh; have z0 : w4.cell? ⟨bx, 0, none⟩ = some (.string ⟨#[]⟩) := (blk_cell hh.2.1 0).trans rfl; have z1 : w4.cell? ⟨bx, 1, none⟩ = some (.string ⟨#[]⟩) := (blk_cell hh.2.1 1).trans rfl; have z2 : w4.cell? ⟨bx, 2, none⟩ = some (.int .i64 0) := (blk_cell hh.2.1 2).trans rfl; have k0 := blk_frozen hh.2.1 0; have k1 := blk_frozen hh.2.1 1; have k2 := blk_frozen hh.2.1 2; clear hh) | (refine hand_store (fun w5 => Built bl w3 w5 bl b [] [] ∧ w5.heap[bx]? = some (.cells #[.string (rd_T91 l0 (i : Int)).f0, .string (rd_T91 l0 (i : Int)).f1, .int .i64 (rd_T91 l0 (i : Int)).f2] 91 (0, 0))) (t := 91) (p := 5) (v := .tmp 17) (w1 := ((w4.setCell ⟨bx, 0, none⟩ (.string (rd_T91 l0 (i : Int)).f0)).setCell ⟨bx, 1, none⟩ (.string (rd_T91 l0 (i : Int)).f1)).setCell ⟨bx, 2, none⟩ (.int .i64 (rd_T91 l0 (i : Int)).f2)) ?hg4 rfl ?hN4 ?hr4 ?hF4 ?_; (case hg4 => rfl); (case hN4 => rfl); (case hr4 => first | (go_simp; done) | (go_simp; rfl)); (case hF4 => exact ⟨built_step HBU.out (set3_below HX4.out.2.2.1 HX4.out.2.2.2), blk_set (blk_set (blk_set HX4.out.2.1 0 _) 1 _) 2 _⟩); clear z0 z1 z2 k0 k1 k2; rintro w5 hh; have HBU := ak_ hh.1; have y0 : w5.cell? ⟨bx, 0, none⟩ = some (.string (rd_T91 l0 (i : Int)).f0) := (blk_cell hh.2 0).trans rfl; have y1 : w5.cell? ⟨bx, 1, none⟩ = some (.string (rd_T91 l0 (i : Int)).f1) := (blk_cell hh.2 1).trans rfl; have y2 : w5.cell? ⟨bx, 2, none⟩ = some (.int .i64 (rd_T91 l0 (i : Int)).f2) := (blk_cell hh.2 2).trans rfl; clear hh) | (go_at_call 70; refine (impl_addRail.calls k bl bl b [] [] (rd_T91 l0 (i : Int)).f0 (rd_T91 l0 (i : Int)).f1 (rd_T91 l0 (i : Int)).f2 q c w5 HBU.out.1 HQ.out).mono ?_; rintro e w9 ⟨rfl, hO, hb⟩; have HBQ := ak_ (show Built bl w3 w9 bl q [] [] from ⟨hO, below_trans HBU.out.2 hb⟩); clear hO hb))
 by_cases hz : c = 0
 rotate_left
 ·have hzb : (c != 0) = true := by simpa using hz
  have hr0 := HR.out
  rw [if_neg hz] at hr0
  have hq0 : o0 = none := (Option.some.inj hr0).symm
  have hF0 := HF0.out
  rw [hq0] at hF0
  obtain rfl : false = r := Option.some.inj hF0
  clear hr0 hq0 hF0
  go_wp2_with fail
  go_ret
  exact ⟨rfl, (below_trans HE3.out (below_mono (HBQ.out.2) HLE.out))⟩
 have hzb : (c != 0) = false := by simpa using hz
 have HR2 : Aside0 (impl_ValidRig.rails k (l0.drop (i + 1)) q = some o0) := ⟨by have h1 := HR.out; rwa [if_pos hz] at h1⟩
 clear HR HQ hz
 go_wp2_with fail
 go_roundg (l0.length - (i + 1))
 case measure => have := HJ.out; omega
 case rel => exact ⟨i + 1, by go_num, ⟨by omega, by omega⟩, ⟨q, HR2.out, HBQ.out⟩⟩
theorem impl_ValidRig.calls (k : Nat) (A0_0 : Option Addr) (c0_0 : Nat) (l0_0 : List S91) (A0_1 : Option Addr) (c0_1 : Nat) (l0_1 : List ByteArray) (A0_2 : Option Addr) (c0_2 : Nat) (l0_2 : List S41) (r : Bool) (w : World) (hr0_0 : Kd.C k91 w A0_0 l0_0.length l0_0) (_hc0_0 : l0_0.length ≤ c0_0) (hr0_1 : Kd.C Kd.string w A0_1 l0_1.length l0_1) (_hc0_1 : l0_1.length ≤ c0_1) (hr0_2 : Kd.C k41 w A0_2 l0_2.length l0_2) (_hc0_2 : l0_2.length ≤ c0_2) (h : impl_ValidRig.f k l0_0 l0_1 l0_2 = some r) :
  Calls Try.prog 34 #[.agg #[.slice A0_0 l0_0.length c0_0, .slice A0_1 l0_1.length c0_1, .slice A0_2 l0_2.length c0_2]] w fun e w' => e = .returned (.bool r) ∧ Below w.heap.size w w' :=
 impl_ValidRig.core k A0_0 c0_0 l0_0 A0_1 c0_1 l0_1 A0_2 c0_2 l0_2 r w hr0_0 hr0_1 hr0_2 h


/-! ### impl_copyRig: function 45 -/
def impl_copyRig.f (l0_0 : List (S91)) (l0_1 : List ByteArray) (l0_2 : List (S41)) : Option ((List (S91)) × List ByteArray × (List (S41))) := (some (([] : List (S91)) : List (S91))).bind fun y180 => (if y180.length + l0_0.length < 3518437208883 then ((some (([] : List ByteArray) : List ByteArray)).bind fun y186 => (if y186.length + l0_1.length < 8796093022208 then ((some (([] : List (S41)) : List (S41))).bind fun y192 => (if y192.length + l0_2.length < 3518437208883 then (some ((y180 ++ l0_0), (y186 ++ l0_1), (y192 ++ l0_2))) else (none))) else (none))) else (none))
def impl_copyRig.T1 : Bool × List (List Nat × List Nat) := (true, [([], []), ([], []), ([1], [1]), ([0, 2], [0, 2]), ([], []), ([], []), ([5], [5]), ([4, 6, 3], [4, 6]), ([], []), ([], []), ([9], [9]), ([8, 10, 7], [8, 10]), ([3, 7, 11], [3, 7, 11]), ([12, 11, 0, 1, 2, 3, 4, 5, 6, 7, 8, 9, 10, 11, 12], [12])])
def impl_copyRig.B1 : List Nat := [0, 0, 2, 7, 0, 0, 32, 127, 0, 0, 512, 2047, 4095, 8191]
theorem impl_copyRig.tab1 : rtab .any (opsOf Try.f45 1) = impl_copyRig.T1 := by kernel_rfl
theorem impl_copyRig.bits1 : waitsOk impl_copyRig.T1.2 impl_copyRig.B1 = true := by kernel_rfl
set_option maxHeartbeats 8000000 in
set_option maxRecDepth 100000 in
theorem impl_copyRig.calls (A0_0 : Option Addr) (c0_0 : Nat) (l0_0 : List (S91)) (A0_1 : Option Addr) (c0_1 : Nat) (l0_1 : List ByteArray) (A0_2 : Option Addr) (c0_2 : Nat) (l0_2 : List (S41)) (r1 : List (S91)) (r2 : List ByteArray) (r3 : List (S41)) (w : World) (hr0_0 : Kd.C k91 w A0_0 l0_0.length l0_0) (hc0_0 : l0_0.length ≤ c0_0) (hr0_1 : Kd.C Kd.string w A0_1 l0_1.length l0_1) (hc0_1 : l0_1.length ≤ c0_1) (hr0_2 : Kd.C k41 w A0_2 l0_2.length l0_2) (hc0_2 : l0_2.length ≤ c0_2) (h : impl_copyRig.f l0_0 l0_1 l0_2 = some (r1, r2, r3)) :
  Calls Try.prog 45 #[.agg #[.slice A0_0 l0_0.length c0_0, .slice A0_1 l0_1.length c0_1, .slice A0_2 l0_2.length c0_2]] w fun e w' => ∃ v0_ v1_ v2_ : Value, e = .returned (.agg #[v0_, v1_, v2_]) ∧ Kd.R k91 91 w' w.heap.size (fun _ => True) v0_ r1 ∧ Kd.R Kd.string 9 w' w.heap.size (fun _ => True) v1_ r2 ∧ Kd.R k41 41 w' w.heap.size (fun _ => True) v2_ r3 ∧ Below w.heap.size w w' := by
 have hu31 := Try.underlying31
 have HR0_0 := ak_ hr0_0
 have HC0_0 := ak_ hc0_0
 clear hr0_0 hc0_0
 have HR0_1 := ak_ hr0_1
 have HC0_1 := ak_ hc0_1
 clear hr0_1 hc0_1
 have HR0_2 := ak_ hr0_2
 have HC0_2 := ak_ hc0_2
 clear hr0_2 hc0_2
 have HB := ak_ (Below.refl w.heap.size w)
 have H : ((some (([] : List (S91)) : List (S91))).bind fun y180 => (if y180.length + l0_0.length < 3518437208883 then ((some (([] : List ByteArray) : List ByteArray)).bind fun y186 => (if y186.length + l0_1.length < 8796093022208 then ((some (([] : List (S41)) : List (S41))).bind fun y192 => (if y192.length + l0_2.length < 3518437208883 then (some ((y180 ++ l0_0), (y186 ++ l0_1), (y192 ++ l0_2))) else (none))) else (none))) else (none))) = some (r1, r2, r3) := h
 clear h
 obtain ⟨y180, hy180⟩ : ∃ y_ : List (S91), y_ = (([] : List (S91))) := ⟨_, rfl⟩
 replace H : (if y180.length + l0_0.length < 3518437208883 then ((some (([] : List ByteArray) : List ByteArray)).bind fun y186 => (if y186.length + l0_1.length < 8796093022208 then ((some (([] : List (S41)) : List (S41))).bind fun y192 => (if y192.length + l0_2.length < 3518437208883 then (some ((y180 ++ l0_0), (y186 ++ l0_1), (y192 ++ l0_2))) else (none))) else (none))) else (none)) = some (r1, r2, r3) := by first | (rw [hy180]; with_reducible exact H) | (have H2_ := (Option.bind_some _ _).symm.trans H; rw [hy180]; with_reducible exact H2_) | (have H2_ := (Option.bind_some _ _).symm.trans H; with_reducible exact H2_) | with_reducible exact H | (rw [hy180]; exact H) | exact H
 have Ny180 := ak_ hy180
 clear hy180
 by_cases c2 : y180.length + l0_0.length < 3518437208883
 ·rw [if_pos c2] at H
  have LMc2 := ak_ c2
  clear c2
  obtain ⟨y183, hy183⟩ : ∃ y_ : List (S91), y_ = (y180 ++ l0_0) := ⟨_, rfl⟩
  replace H : ((some (([] : List ByteArray) : List ByteArray)).bind fun y186 => (if y186.length + l0_1.length < 8796093022208 then ((some (([] : List (S41)) : List (S41))).bind fun y192 => (if y192.length + l0_2.length < 3518437208883 then (some (y183, (y186 ++ l0_1), (y192 ++ l0_2))) else (none))) else (none))) = some (r1, r2, r3) := by first | (rw [hy183]; with_reducible exact H) | (have H2_ := (Option.bind_some _ _).symm.trans H; rw [hy183]; with_reducible exact H2_) | (have H2_ := (Option.bind_some _ _).symm.trans H; with_reducible exact H2_) | with_reducible exact H | (rw [hy183]; exact H) | exact H
  have Ny183 := ak_ hy183
  clear hy183
  obtain ⟨y186, hy186⟩ : ∃ y_ : List ByteArray, y_ = (([] : List ByteArray)) := ⟨_, rfl⟩
  replace H : (if y186.length + l0_1.length < 8796093022208 then ((some (([] : List (S41)) : List (S41))).bind fun y192 => (if y192.length + l0_2.length < 3518437208883 then (some (y183, (y186 ++ l0_1), (y192 ++ l0_2))) else (none))) else (none)) = some (r1, r2, r3) := by first | (rw [hy186]; with_reducible exact H) | (have H2_ := (Option.bind_some _ _).symm.trans H; rw [hy186]; with_reducible exact H2_) | (have H2_ := (Option.bind_some _ _).symm.trans H; with_reducible exact H2_) | with_reducible exact H | (rw [hy186]; exact H) | exact H
  have Ny186 := ak_ hy186
  clear hy186
  by_cases c3 : y186.length + l0_1.length < 8796093022208
  ·rw [if_pos c3] at H
   have LMc3 := ak_ c3
   clear c3
   obtain ⟨y189, hy189⟩ : ∃ y_ : List ByteArray, y_ = (y186 ++ l0_1) := ⟨_, rfl⟩
   replace H : ((some (([] : List (S41)) : List (S41))).bind fun y192 => (if y192.length + l0_2.length < 3518437208883 then (some (y183, y189, (y192 ++ l0_2))) else (none))) = some (r1, r2, r3) := by first | (rw [hy189]; with_reducible exact H) | (have H2_ := (Option.bind_some _ _).symm.trans H; rw [hy189]; with_reducible exact H2_) | (have H2_ := (Option.bind_some _ _).symm.trans H; with_reducible exact H2_) | with_reducible exact H | (rw [hy189]; exact H) | exact H
   have Ny189 := ak_ hy189
   clear hy189
   obtain ⟨y192, hy192⟩ : ∃ y_ : List (S41), y_ = (([] : List (S41))) := ⟨_, rfl⟩
   replace H : (if y192.length + l0_2.length < 3518437208883 then (some (y183, y189, (y192 ++ l0_2))) else (none)) = some (r1, r2, r3) := by first | (rw [hy192]; with_reducible exact H) | (have H2_ := (Option.bind_some _ _).symm.trans H; rw [hy192]; with_reducible exact H2_) | (have H2_ := (Option.bind_some _ _).symm.trans H; with_reducible exact H2_) | with_reducible exact H | (rw [hy192]; exact H) | exact H
   have Ny192 := ak_ hy192
   clear hy192
   by_cases c4 : y192.length + l0_2.length < 3518437208883
   ·rw [if_pos c4] at H
    have LMc4 := ak_ c4
    clear c4
    obtain ⟨y195, hy195⟩ : ∃ y_ : List (S41), y_ = (y192 ++ l0_2) := ⟨_, rfl⟩
    replace H : (some (y183, y189, y195)) = some (r1, r2, r3) := by first | (rw [hy195]; with_reducible exact H) | (have H2_ := (Option.bind_some _ _).symm.trans H; rw [hy195]; with_reducible exact H2_) | (have H2_ := (Option.bind_some _ _).symm.trans H; with_reducible exact H2_) | with_reducible exact H | (rw [hy195]; exact H) | exact H
    have Ny195 := ak_ hy195
    clear hy195
    simp only [Option.some.injEq, Prod.mk.injEq] at H
    obtain ⟨rfl, rfl, rfl⟩ := H
    go_enter Try.func45, Try.ntmps45
    try go_wp2_with (first | ((with_reducible refine gate_dst (N := 1) rfl ?_); refine box_event ?hg (N := 1) ?hd (cs := #[.slice A0_0 l0_0.length c0_0, .slice A0_1 l0_1.length c0_1, .slice A0_2 l0_2.length c0_2]) (t := 31) ?hr ?_; (case hd => rfl); (case hg => rfl); (case hr => first | (go_simp; done) | (go_simp; rfl)); intro gb178 hg w5 hbox hb; have BK178 := ak_ (hbox); have GW178 := ak_ ((by rw [hg]; exact (below_size hb_) : w.heap.size ≤ gb178)); have GE178 := ak_ ((by rw [hg]; exact (below_size hb_) : w.heap.size ≤ gb178)); replace HB := ak_ (below_step hb_ hb); skip; clear hb hbox hg) | ((with_reducible refine gate_dst (N := 2) rfl ?_); refine box_event ?hg (N := 2) ?hd (cs := #[.slice none 0 0, .slice none 0 0, .slice none 0 0]) (t := 31) ?hr ?_; (case hd => rfl); (case hg => rfl); (case hr => first | (go_simp; done) | (go_simp; rfl)); intro gb179 hg w6 hbox hb; have BK179 := ak_ (hbox); have GW179 := ak_ ((by rw [hg]; exact (below_size (hg_ GE178)) : w.heap.size ≤ gb179)); have GE179 := ak_ ((by rw [hg]; exact (below_size (hg_ GE178)) : w.heap.size ≤ gb179)); replace HB := ak_ (below_step (hg_ GE178) hb); have NB178_179 := ak_ ((by rw [hg]; exact Nat.ne_of_lt (blk_lt (g := gb178) (o := .cells #[.slice A0_0 l0_0.length c0_0, .slice A0_1 l0_1.length c0_1, .slice A0_2 l0_2.length c0_2] 31 (0, 0)) (bk_ BK178)) : gb178 ≠ gb179)); have NB179_178 := ak_ ((by rw [hg]; exact Nat.ne_of_gt (blk_lt (g := gb178) (o := .cells #[.slice A0_0 l0_0.length c0_0, .slice A0_1 l0_1.length c0_1, .slice A0_2 l0_2.length c0_2] 31 (0, 0)) (bk_ BK178)) : gb179 ≠ gb178)); replace BK178 := ak_ (blk_below (g := gb178) (o := .cells #[.slice A0_0 l0_0.length c0_0, .slice A0_1 l0_1.length c0_1, .slice A0_2 l0_2.length c0_2] 31 (0, 0)) (bk_ BK178) hb); skip; clear hb hbox hg))
    have n0_ := ak_ (blk_drew BK178.out)
    have n1_ := ak_ (blk_drew BK179.out)
    have n2_ := ak_ (below_drew1 HB.out)
    clear BK178
    clear BK179
    clear HB
    have BK178 := n0_
    have BK179 := n1_
    have HB := n2_
    clear n0_ n1_ n2_
    refine start_ (n := 14) (S := fun w' => w'.cell? ⟨gb178, 0, none⟩ = some (.slice A0_0 l0_0.length c0_0) ∧ w'.cell? ⟨gb178, 1, none⟩ = some (.slice A0_1 l0_1.length c0_1) ∧ w'.cell? ⟨gb178, 2, none⟩ = some (.slice A0_2 l0_2.length c0_2)) (ds := []) #[F_,F_,F_,F_,F_,F_,F_,F_,F_,F_,F_,F_,F_,F_] (by kernel_rfl) rfl rfl ⟨(blk_cell BK178.out 0).trans rfl, (blk_cell BK178.out 1).trans rfl, (blk_cell BK178.out 2).trans rfl⟩ (fun hHeld => ?_); refine with_tabW impl_copyRig.tab1 impl_copyRig.bits1 (fun HT_ HW_ => ?_)
    generalize w6.drew = w7 at BK178 BK179 HB hHeld ⊢
    refine pv (i := 1) (N := some 4) HT_ ?_
    refine pv (i := 5) (N := some 8) HT_ ?_
    refine pv (i := 9) (N := some 12) HT_ ?_
    refine take_ (i := 2) (N := some 5) (v := ?_) (a' := ?_) #[F_,T_,T_,F_,F_,T_,F_,F_,F_,T_,F_,F_,F_,F_] rfl rfl (take_ofW HT_.out HW_.out (by kernel_rfl)) (fun _ _ _ h => h) (Or.inl ⟨by rfl, ?_⟩) hHeld ?_ ?_
    rotate_left
    ·rintro w' ⟨s0, s1, s2⟩
     go_simp
     with_reducible rfl
    rotate_left
    ·simp only [Act.put, sT_, s0_, sS_, i64_w, i32_w]
     rfl
    refine take_ (i := 6) (N := some 9) (v := ?_) (a' := ?_) #[F_,T_,T_,F_,F_,T_,T_,F_,F_,T_,F_,F_,F_,F_] rfl rfl (take_ofW HT_.out HW_.out (by kernel_rfl)) (fun _ _ _ h => h) (Or.inl ⟨by rfl, ?_⟩) hHeld ?_ ?_
    rotate_left
    ·rintro w' ⟨s0, s1, s2⟩
     go_simp
     with_reducible rfl
    rotate_left
    ·simp only [Act.put, sT_, s0_, sS_, i64_w, i32_w]
     rfl
    refine take_ (i := 10) (N := some 13) (v := ?_) (a' := ?_) #[F_,T_,T_,F_,F_,T_,T_,F_,F_,T_,T_,F_,F_,F_] rfl rfl (take_ofW HT_.out HW_.out (by kernel_rfl)) (fun _ _ _ h => h) (Or.inl ⟨by rfl, ?_⟩) hHeld ?_ ?_
    rotate_left
    ·rintro w' ⟨s0, s1, s2⟩
     go_simp
     with_reducible rfl
    rotate_left
    ·simp only [Act.put, sT_, s0_, sS_, i64_w, i32_w]
     rfl
    refine join_ (σ := Value × Value × Value × Value × Value) 3 #[T_,T_,T_,T_,T_,T_,T_,T_,T_,T_,T_,F_,F_,F_] (fun s_ => [(3, s_.1), (6, s_.2.1), (7, s_.2.2.1), (10, s_.2.2.2.1), (11, s_.2.2.2.2)]) (fun s_ w' => (w'.cell? ⟨gb178, 0, none⟩ = some (.slice A0_0 l0_0.length c0_0) ∧ w'.cell? ⟨gb178, 1, none⟩ = some (.slice A0_1 l0_1.length c0_1) ∧ w'.cell? ⟨gb178, 2, none⟩ = some (.slice A0_2 l0_2.length c0_2)) ∧ (Kd.R k91 91 w' w.heap.size (fun _ => True) s_.2.1 y183) ∧ (Kd.R Kd.string 9 w' w.heap.size (fun _ => True) s_.2.2.2.1 y189) ∧ (Kd.R k41 41 w' w.heap.size (fun _ => True) s_.2.2.2.2 y192) ∧ (w'.heap[gb178]? = some (.cells #[.slice A0_0 l0_0.length c0_0, .slice A0_1 l0_1.length c0_1, .slice A0_2 l0_2.length c0_2] 31 (0, 0))) ∧ (w'.heap[gb179]? = some (.cells #[.slice none 0 0, .slice none 0 0, .slice none 0 0] 31 (0, 0))) ∧ (Below w.heap.size w w')) ?_ ?_
    rotate_left
    ·intro hJ0_3_4_7_8
     refine join_ (σ := Value × Value × Value × Value) 4 #[T_,T_,T_,T_,T_,T_,T_,T_,F_,T_,T_,F_,F_,F_] (fun s_ => [(3, s_.1), (6, s_.2.1), (7, s_.2.2.1), (10, s_.2.2.2)]) (fun s_ w' => (w'.cell? ⟨gb178, 0, none⟩ = some (.slice A0_0 l0_0.length c0_0) ∧ w'.cell? ⟨gb178, 1, none⟩ = some (.slice A0_1 l0_1.length c0_1) ∧ w'.cell? ⟨gb178, 2, none⟩ = some (.slice A0_2 l0_2.length c0_2)) ∧ (Kd.R k91 91 w' w.heap.size (fun _ => True) s_.2.1 y183) ∧ (Kd.R Kd.string 9 w' w.heap.size (fun _ => True) s_.2.2.2 y189) ∧ (w'.heap[gb178]? = some (.cells #[.slice A0_0 l0_0.length c0_0, .slice A0_1 l0_1.length c0_1, .slice A0_2 l0_2.length c0_2] 31 (0, 0))) ∧ (w'.heap[gb179]? = some (.cells #[.slice none 0 0, .slice none 0 0, .slice none 0 0] 31 (0, 0))) ∧ (Below w.heap.size w w')) ?_ ?_
     rotate_left
     ·intro hJ0_3_4_7
      refine join_ (σ := Value × Value × Value × Value) 4 #[T_,T_,T_,T_,T_,T_,T_,F_,T_,T_,T_,F_,F_,F_] (fun s_ => [(3, s_.1), (6, s_.2.1), (7, s_.2.2.1), (11, s_.2.2.2)]) (fun s_ w' => (w'.cell? ⟨gb178, 0, none⟩ = some (.slice A0_0 l0_0.length c0_0) ∧ w'.cell? ⟨gb178, 1, none⟩ = some (.slice A0_1 l0_1.length c0_1) ∧ w'.cell? ⟨gb178, 2, none⟩ = some (.slice A0_2 l0_2.length c0_2)) ∧ (Kd.R k91 91 w' w.heap.size (fun _ => True) s_.2.1 y183) ∧ (Kd.R Kd.string 9 w' w.heap.size (fun _ => True) s_.2.2.1 y186) ∧ (Kd.R k41 41 w' w.heap.size (fun _ => True) s_.2.2.2 y192) ∧ (w'.heap[gb178]? = some (.cells #[.slice A0_0 l0_0.length c0_0, .slice A0_1 l0_1.length c0_1, .slice A0_2 l0_2.length c0_2] 31 (0, 0))) ∧ (w'.heap[gb179]? = some (.cells #[.slice none 0 0, .slice none 0 0, .slice none 0 0] 31 (0, 0))) ∧ (Below w.heap.size w w')) ?_ ?_
      rotate_left
      ·intro hJ0_3_4_8
       refine join_ (σ := Value × Value × Value) 5 #[T_,T_,T_,T_,T_,T_,T_,F_,F_,T_,T_,F_,F_,F_] (fun s_ => [(3, s_.1), (6, s_.2.1), (7, s_.2.2)]) (fun s_ w' => (w'.cell? ⟨gb178, 0, none⟩ = some (.slice A0_0 l0_0.length c0_0) ∧ w'.cell? ⟨gb178, 1, none⟩ = some (.slice A0_1 l0_1.length c0_1) ∧ w'.cell? ⟨gb178, 2, none⟩ = some (.slice A0_2 l0_2.length c0_2)) ∧ (Kd.R k91 91 w' w.heap.size (fun _ => True) s_.2.1 y183) ∧ (Kd.R Kd.string 9 w' w.heap.size (fun _ => True) s_.2.2 y186) ∧ (w'.heap[gb178]? = some (.cells #[.slice A0_0 l0_0.length c0_0, .slice A0_1 l0_1.length c0_1, .slice A0_2 l0_2.length c0_2] 31 (0, 0))) ∧ (w'.heap[gb179]? = some (.cells #[.slice none 0 0, .slice none 0 0, .slice none 0 0] 31 (0, 0))) ∧ (Below w.heap.size w w')) ?_ ?_
       rotate_left
       ·intro hJ0_3_4
        refine join_ (σ := Value × Value × Value) 5 #[T_,T_,T_,T_,F_,T_,T_,F_,T_,T_,T_,F_,F_,F_] (fun s_ => [(3, s_.1), (6, s_.2.1), (11, s_.2.2)]) (fun s_ w' => (w'.cell? ⟨gb178, 0, none⟩ = some (.slice A0_0 l0_0.length c0_0) ∧ w'.cell? ⟨gb178, 1, none⟩ = some (.slice A0_1 l0_1.length c0_1) ∧ w'.cell? ⟨gb178, 2, none⟩ = some (.slice A0_2 l0_2.length c0_2)) ∧ (Kd.R k91 91 w' w.heap.size (fun _ => True) s_.2.1 y183) ∧ (Kd.R k41 41 w' w.heap.size (fun _ => True) s_.2.2 y192) ∧ (w'.heap[gb178]? = some (.cells #[.slice A0_0 l0_0.length c0_0, .slice A0_1 l0_1.length c0_1, .slice A0_2 l0_2.length c0_2] 31 (0, 0))) ∧ (w'.heap[gb179]? = some (.cells #[.slice none 0 0, .slice none 0 0, .slice none 0 0] 31 (0, 0))) ∧ (Below w.heap.size w w')) ?_ ?_
        rotate_left
        ·intro hJ0_3_8
         refine join_ (σ := Value × Value × Value) 5 #[T_,T_,T_,F_,T_,T_,T_,F_,T_,T_,T_,F_,F_,F_] (fun s_ => [(3, s_.1), (7, s_.2.1), (11, s_.2.2)]) (fun s_ w' => (w'.cell? ⟨gb178, 0, none⟩ = some (.slice A0_0 l0_0.length c0_0) ∧ w'.cell? ⟨gb178, 1, none⟩ = some (.slice A0_1 l0_1.length c0_1) ∧ w'.cell? ⟨gb178, 2, none⟩ = some (.slice A0_2 l0_2.length c0_2)) ∧ (Kd.R k91 91 w' w.heap.size (fun _ => True) s_.1 y180) ∧ (Kd.R Kd.string 9 w' w.heap.size (fun _ => True) s_.2.1 y186) ∧ (Kd.R k41 41 w' w.heap.size (fun _ => True) s_.2.2 y192) ∧ (w'.heap[gb178]? = some (.cells #[.slice A0_0 l0_0.length c0_0, .slice A0_1 l0_1.length c0_1, .slice A0_2 l0_2.length c0_2] 31 (0, 0))) ∧ (w'.heap[gb179]? = some (.cells #[.slice none 0 0, .slice none 0 0, .slice none 0 0] 31 (0, 0))) ∧ (Below w.heap.size w w')) ?_ ?_
         rotate_left
         ·intro hJ0_4_8
          refine join_ (σ := Value × Value) 6 #[T_,T_,T_,T_,F_,T_,T_,F_,F_,T_,T_,F_,F_,F_] (fun s_ => [(3, s_.1), (6, s_.2)]) (fun s_ w' => (w'.cell? ⟨gb178, 0, none⟩ = some (.slice A0_0 l0_0.length c0_0) ∧ w'.cell? ⟨gb178, 1, none⟩ = some (.slice A0_1 l0_1.length c0_1) ∧ w'.cell? ⟨gb178, 2, none⟩ = some (.slice A0_2 l0_2.length c0_2)) ∧ (Kd.R k91 91 w' w.heap.size (fun _ => True) s_.2 y183) ∧ (w'.heap[gb178]? = some (.cells #[.slice A0_0 l0_0.length c0_0, .slice A0_1 l0_1.length c0_1, .slice A0_2 l0_2.length c0_2] 31 (0, 0))) ∧ (w'.heap[gb179]? = some (.cells #[.slice none 0 0, .slice none 0 0, .slice none 0 0] 31 (0, 0))) ∧ (Below w.heap.size w w')) ?_ ?_
          rotate_left
          ·intro hJ0_3
           refine join_ (σ := Value × Value) 6 #[T_,T_,T_,F_,T_,T_,T_,F_,F_,T_,T_,F_,F_,F_] (fun s_ => [(3, s_.1), (7, s_.2)]) (fun s_ w' => (w'.cell? ⟨gb178, 0, none⟩ = some (.slice A0_0 l0_0.length c0_0) ∧ w'.cell? ⟨gb178, 1, none⟩ = some (.slice A0_1 l0_1.length c0_1) ∧ w'.cell? ⟨gb178, 2, none⟩ = some (.slice A0_2 l0_2.length c0_2)) ∧ (Kd.R k91 91 w' w.heap.size (fun _ => True) s_.1 y180) ∧ (Kd.R Kd.string 9 w' w.heap.size (fun _ => True) s_.2 y186) ∧ (w'.heap[gb178]? = some (.cells #[.slice A0_0 l0_0.length c0_0, .slice A0_1 l0_1.length c0_1, .slice A0_2 l0_2.length c0_2] 31 (0, 0))) ∧ (w'.heap[gb179]? = some (.cells #[.slice none 0 0, .slice none 0 0, .slice none 0 0] 31 (0, 0))) ∧ (Below w.heap.size w w')) ?_ ?_
           rotate_left
           ·intro hJ0_4
            refine join_ (σ := Value × Value) 6 #[T_,T_,T_,F_,F_,T_,T_,F_,T_,T_,T_,F_,F_,F_] (fun s_ => [(3, s_.1), (11, s_.2)]) (fun s_ w' => (w'.cell? ⟨gb178, 0, none⟩ = some (.slice A0_0 l0_0.length c0_0) ∧ w'.cell? ⟨gb178, 1, none⟩ = some (.slice A0_1 l0_1.length c0_1) ∧ w'.cell? ⟨gb178, 2, none⟩ = some (.slice A0_2 l0_2.length c0_2)) ∧ (Kd.R k91 91 w' w.heap.size (fun _ => True) s_.1 y180) ∧ (Kd.R k41 41 w' w.heap.size (fun _ => True) s_.2 y192) ∧ (w'.heap[gb178]? = some (.cells #[.slice A0_0 l0_0.length c0_0, .slice A0_1 l0_1.length c0_1, .slice A0_2 l0_2.length c0_2] 31 (0, 0))) ∧ (w'.heap[gb179]? = some (.cells #[.slice none 0 0, .slice none 0 0, .slice none 0 0] 31 (0, 0))) ∧ (Below w.heap.size w w')) ?_ ?_
            rotate_left
            ·intro hJ0_8
             refine join_ (σ := Value × Value) 6 #[F_,T_,T_,F_,T_,T_,T_,F_,T_,T_,T_,F_,F_,F_] (fun s_ => [(7, s_.1), (11, s_.2)]) (fun s_ w' => (w'.cell? ⟨gb178, 0, none⟩ = some (.slice A0_0 l0_0.length c0_0) ∧ w'.cell? ⟨gb178, 1, none⟩ = some (.slice A0_1 l0_1.length c0_1) ∧ w'.cell? ⟨gb178, 2, none⟩ = some (.slice A0_2 l0_2.length c0_2)) ∧ (Kd.R Kd.string 9 w' w.heap.size (fun _ => True) s_.1 y186) ∧ (Kd.R k41 41 w' w.heap.size (fun _ => True) s_.2 y192) ∧ (w'.heap[gb178]? = some (.cells #[.slice A0_0 l0_0.length c0_0, .slice A0_1 l0_1.length c0_1, .slice A0_2 l0_2.length c0_2] 31 (0, 0))) ∧ (w'.heap[gb179]? = some (.cells #[.slice none 0 0, .slice none 0 0, .slice none 0 0] 31 (0, 0))) ∧ (Below w.heap.size w w')) ?_ ?_
             rotate_left
             ·intro hJ4_8
              refine join_ (σ := Value) 7 #[T_,T_,T_,F_,F_,T_,T_,F_,F_,T_,T_,F_,F_,F_] (fun s_ => [(3, s_)]) (fun s_ w' => (w'.cell? ⟨gb178, 0, none⟩ = some (.slice A0_0 l0_0.length c0_0) ∧ w'.cell? ⟨gb178, 1, none⟩ = some (.slice A0_1 l0_1.length c0_1) ∧ w'.cell? ⟨gb178, 2, none⟩ = some (.slice A0_2 l0_2.length c0_2)) ∧ (Kd.R k91 91 w' w.heap.size (fun _ => True) s_ y180) ∧ (w'.heap[gb178]? = some (.cells #[.slice A0_0 l0_0.length c0_0, .slice A0_1 l0_1.length c0_1, .slice A0_2 l0_2.length c0_2] 31 (0, 0))) ∧ (w'.heap[gb179]? = some (.cells #[.slice none 0 0, .slice none 0 0, .slice none 0 0] 31 (0, 0))) ∧ (Below w.heap.size w w')) ?_ ?_
              rotate_left
              ·intro hJ0
               refine join_ (σ := Value) 7 #[F_,T_,T_,F_,T_,T_,T_,F_,F_,T_,T_,F_,F_,F_] (fun s_ => [(7, s_)]) (fun s_ w' => (w'.cell? ⟨gb178, 0, none⟩ = some (.slice A0_0 l0_0.length c0_0) ∧ w'.cell? ⟨gb178, 1, none⟩ = some (.slice A0_1 l0_1.length c0_1) ∧ w'.cell? ⟨gb178, 2, none⟩ = some (.slice A0_2 l0_2.length c0_2)) ∧ (Kd.R Kd.string 9 w' w.heap.size (fun _ => True) s_ y186) ∧ (w'.heap[gb178]? = some (.cells #[.slice A0_0 l0_0.length c0_0, .slice A0_1 l0_1.length c0_1, .slice A0_2 l0_2.length c0_2] 31 (0, 0))) ∧ (w'.heap[gb179]? = some (.cells #[.slice none 0 0, .slice none 0 0, .slice none 0 0] 31 (0, 0))) ∧ (Below w.heap.size w w')) ?_ ?_
               rotate_left
               ·intro hJ4
                refine join_ (σ := Value) 7 #[F_,T_,T_,F_,F_,T_,T_,F_,T_,T_,T_,F_,F_,F_] (fun s_ => [(11, s_)]) (fun s_ w' => (w'.cell? ⟨gb178, 0, none⟩ = some (.slice A0_0 l0_0.length c0_0) ∧ w'.cell? ⟨gb178, 1, none⟩ = some (.slice A0_1 l0_1.length c0_1) ∧ w'.cell? ⟨gb178, 2, none⟩ = some (.slice A0_2 l0_2.length c0_2)) ∧ (Kd.R k41 41 w' w.heap.size (fun _ => True) s_ y192) ∧ (w'.heap[gb178]? = some (.cells #[.slice A0_0 l0_0.length c0_0, .slice A0_1 l0_1.length c0_1, .slice A0_2 l0_2.length c0_2] 31 (0, 0))) ∧ (w'.heap[gb179]? = some (.cells #[.slice none 0 0, .slice none 0 0, .slice none 0 0] 31 (0, 0))) ∧ (Below w.heap.size w w')) ?_ ?_
                rotate_left
                ·intro hJ8
                 refine three_ (i := 0) (j := 4) (k := 8) (Ni := some 3) (Nj := some 7) (Nk := some 11) #[T_,T_,T_,F_,F_,T_,T_,F_,F_,T_,T_,F_,F_,F_] #[F_,T_,T_,F_,T_,T_,T_,F_,F_,T_,T_,F_,F_,F_] #[F_,T_,T_,F_,F_,T_,T_,F_,T_,T_,T_,F_,F_,F_] rfl rfl rfl rfl rfl rfl (three_of HT_.out (by kernel_rfl)) (by decide) (by decide) (by decide) (fun K hK => ?_) (fun K hK => ?_) (fun K hK => ?_)
                 ·skip
                  refine Kd.R_lit_step k91 _ 91 ?hg (N := 3) ?hd (xs := ([] : List (S91))) (inner := []) (ok := fun _ => True) (okp := fun _ => True) ?hr ?hp (fun _ hk => hk) trivial (Below.refl _ _) (Nat.le_refl _) (by simp) ?_; (case hd => rfl); (case hg => rfl); (case hr => first | (go_simp; done) | (go_simp; rfl)); (case hp => exact (Reps.none _ _))
                  intro v181 w8 ho9 hb hg_ hnew_
                  clear hg_ hnew_
                  (first | rw [← Ny180.out] at ho9 | (simp only [Int.reduceToNat] at ho9; rw [← Ny180.out] at ho9))
                  have n0_ := ak_ (Kd.R_lower ho9 (below_size (hg2_ GE178 GE179)))
                  have n1_ := ak_ (blk_below (g := gb178) (o := .cells #[.slice A0_0 l0_0.length c0_0, .slice A0_1 l0_1.length c0_1, .slice A0_2 l0_2.length c0_2] 31 (0, 0)) (bk_ BK178) hb)
                  have n2_ := ak_ (blk_below (g := gb179) (o := .cells #[.slice none 0 0, .slice none 0 0, .slice none 0 0] 31 (0, 0)) (bk_ BK179) hb)
                  have n3_ := ak_ (below_step (hg2_ GE178 GE179) hb)
                  clear BK178
                  clear BK179
                  clear HB
                  have HO182 := n0_
                  have BK178 := n1_
                  have BK179 := n2_
                  have HB := n3_
                  clear n0_ n1_ n2_ n3_
                  clear hb ho9
                  refine hK.out _ _ ⟨(blk_cell BK178.out 0).trans rfl, (blk_cell BK178.out 1).trans rfl, (blk_cell BK178.out 2).trans rfl⟩ (fun hHeld => ?_)
                  clear hK K
                  refine norm_ (a' := ?_) ?_ ?_
                  rotate_left
                  ·show Act.put _ (some 3) _ = _
                   simp only [Act.put, sT_, s0_, sS_, i64_w, i32_w]
                   rfl
                  exact norm_ (by first | (simp only [putAll, Act.put, List.setIfInBounds_toArray, List.set_cons_zero, List.set_cons_succ]; done) | (simp only [putAll, Act.put, List.setIfInBounds_toArray, List.set_cons_zero, List.set_cons_succ]; rfl)) (hJ0 (v181) _ ⟨hHeld, (kr_ HO182), (bk_ BK178), (bk_ BK179), (hg2_ GE178 GE179)⟩)
                 ·skip
                  refine Kd.R_lit_step Kd.string _ 9 ?hg (N := 7) ?hd (xs := ([] : List ByteArray)) (inner := []) (ok := fun _ => True) (okp := fun _ => True) ?hr ?hp (fun _ hk => hk) trivial (Below.refl _ _) (Nat.le_refl _) (by simp) ?_; (case hd => rfl); (case hg => rfl); (case hr => first | (go_simp; done) | (go_simp; rfl)); (case hp => exact (Reps.none _ _))
                  intro v187 w8 ho9 hb hg_ hnew_
                  clear hg_ hnew_
                  (first | rw [← Ny186.out] at ho9 | (simp only [Int.reduceToNat] at ho9; rw [← Ny186.out] at ho9))
                  have n0_ := ak_ (Kd.R_lower ho9 (below_size (hg2_ GE178 GE179)))
                  have n1_ := ak_ (blk_below (g := gb178) (o := .cells #[.slice A0_0 l0_0.length c0_0, .slice A0_1 l0_1.length c0_1, .slice A0_2 l0_2.length c0_2] 31 (0, 0)) (bk_ BK178) hb)
                  have n2_ := ak_ (blk_below (g := gb179) (o := .cells #[.slice none 0 0, .slice none 0 0, .slice none 0 0] 31 (0, 0)) (bk_ BK179) hb)
                  have n3_ := ak_ (below_step (hg2_ GE178 GE179) hb)
                  clear BK178
                  clear BK179
                  clear HB
                  have HO188 := n0_
                  have BK178 := n1_
                  have BK179 := n2_
                  have HB := n3_
                  clear n0_ n1_ n2_ n3_
                  clear hb ho9
                  refine hK.out _ _ ⟨(blk_cell BK178.out 0).trans rfl, (blk_cell BK178.out 1).trans rfl, (blk_cell BK178.out 2).trans rfl⟩ (fun hHeld => ?_)
                  clear hK K
                  refine norm_ (a' := ?_) ?_ ?_
                  rotate_left
                  ·show Act.put _ (some 7) _ = _
                   simp only [Act.put, sT_, s0_, sS_, i64_w, i32_w]
                   rfl
                  exact norm_ (by first | (simp only [putAll, Act.put, List.setIfInBounds_toArray, List.set_cons_zero, List.set_cons_succ]; done) | (simp only [putAll, Act.put, List.setIfInBounds_toArray, List.set_cons_zero, List.set_cons_succ]; rfl)) (hJ4 (v187) _ ⟨hHeld, (kr_ HO188), (bk_ BK178), (bk_ BK179), (hg2_ GE178 GE179)⟩)
                 ·skip
                  refine Kd.R_lit_step k41 _ 41 ?hg (N := 11) ?hd (xs := ([] : List (S41))) (inner := []) (ok := fun _ => True) (okp := fun _ => True) ?hr ?hp (fun _ hk => hk) trivial (Below.refl _ _) (Nat.le_refl _) (by simp) ?_; (case hd => rfl); (case hg => rfl); (case hr => first | (go_simp; done) | (go_simp; rfl)); (case hp => exact (Reps.none _ _))
                  intro v193 w8 ho9 hb hg_ hnew_
                  clear hg_ hnew_
                  (first | rw [← Ny192.out] at ho9 | (simp only [Int.reduceToNat] at ho9; rw [← Ny192.out] at ho9))
                  have n0_ := ak_ (Kd.R_lower ho9 (below_size (hg2_ GE178 GE179)))
                  have n1_ := ak_ (blk_below (g := gb178) (o := .cells #[.slice A0_0 l0_0.length c0_0, .slice A0_1 l0_1.length c0_1, .slice A0_2 l0_2.length c0_2] 31 (0, 0)) (bk_ BK178) hb)
                  have n2_ := ak_ (blk_below (g := gb179) (o := .cells #[.slice none 0 0, .slice none 0 0, .slice none 0 0] 31 (0, 0)) (bk_ BK179) hb)
                  have n3_ := ak_ (below_step (hg2_ GE178 GE179) hb)
                  clear BK178
                  clear BK179
                  clear HB
                  have HO194 := n0_
                  have BK178 := n1_
                  have BK179 := n2_
                  have HB := n3_
                  clear n0_ n1_ n2_ n3_
                  clear hb ho9
                  refine hK.out _ _ ⟨(blk_cell BK178.out 0).trans rfl, (blk_cell BK178.out 1).trans rfl, (blk_cell BK178.out 2).trans rfl⟩ (fun hHeld => ?_)
                  clear hK K
                  refine norm_ (a' := ?_) ?_ ?_
                  rotate_left
                  ·show Act.put _ (some 11) _ = _
                   simp only [Act.put, sT_, s0_, sS_, i64_w, i32_w]
                   rfl
                  exact norm_ (by first | (simp only [putAll, Act.put, List.setIfInBounds_toArray, List.set_cons_zero, List.set_cons_succ]; done) | (simp only [putAll, Act.put, List.setIfInBounds_toArray, List.set_cons_zero, List.set_cons_succ]; rfl)) (hJ8 (v193) _ ⟨hHeld, (kr_ HO194), (bk_ BK178), (bk_ BK179), (hg2_ GE178 GE179)⟩)
                ·skip
                 rintro v193 w10 ⟨hS_, h0_, h1_, h2_, h3_⟩
                 have n0_ : Aside0 (Kd.R k41 41 w10 w.heap.size (fun _ => True) v193 y192) := ⟨h0_⟩
                 have n1_ : Aside0 (w10.heap[gb178]? = some (.cells #[.slice A0_0 l0_0.length c0_0, .slice A0_1 l0_1.length c0_1, .slice A0_2 l0_2.length c0_2] 31 (0, 0))) := ⟨h1_⟩
                 have n2_ : Aside0 (w10.heap[gb179]? = some (.cells #[.slice none 0 0, .slice none 0 0, .slice none 0 0] 31 (0, 0))) := ⟨h2_⟩
                 have n3_ : Aside0 (Below w.heap.size w w10) := ⟨h3_⟩
                 clear BK178
                 clear BK179
                 clear HB
                 clear h0_ h1_ h2_ h3_
                 have HO194 := n0_
                 have BK178 := n1_
                 have BK179 := n2_
                 have HB := n3_
                 clear n0_ n1_ n2_ n3_
                 have hHeld : w10.cell? ⟨gb178, 0, none⟩ = some (.slice A0_0 l0_0.length c0_0) ∧ w10.cell? ⟨gb178, 1, none⟩ = some (.slice A0_1 l0_1.length c0_1) ∧ w10.cell? ⟨gb178, 2, none⟩ = some (.slice A0_2 l0_2.length c0_2) := hS_
                 refine norm_ (a' := ?_) ?_ ?_
                 rotate_left
                 ·simp only [putAll, Act.put, List.setIfInBounds_toArray, List.set_cons_zero, List.set_cons_succ]
                  rfl
                 refine two_ (i := 0) (j := 4) (Ni := some 3) (Nj := some 7) #[T_,T_,T_,F_,F_,T_,T_,F_,T_,T_,T_,F_,F_,F_] #[F_,T_,T_,F_,T_,T_,T_,F_,T_,T_,T_,F_,F_,F_] rfl rfl rfl rfl (two_of HT_.out (by kernel_rfl)) (by decide) (by decide) (fun K hK => ?_) (fun K hK => ?_)
                 ·skip
                  refine Kd.R_lit_step k91 _ 91 ?hg (N := 3) ?hd (xs := ([] : List (S91))) (inner := []) (ok := fun _ => True) (okp := fun _ => True) ?hr ?hp (fun _ hk => hk) trivial (Below.refl _ _) (Nat.le_refl _) (by simp) ?_; (case hd => rfl); (case hg => rfl); (case hr => first | (go_simp; done) | (go_simp; rfl)); (case hp => exact (Reps.none _ _))
                  intro v181 w11 ho12 hb hg_ hnew_
                  clear hg_ hnew_
                  (first | rw [← Ny180.out] at ho12 | (simp only [Int.reduceToNat] at ho12; rw [← Ny180.out] at ho12))
                  have n0_ := ak_ (Kd.R_below (kr_ HO194) hb)
                  have n1_ := ak_ (Kd.R_lower ho12 (below_size (hg2_ GE178 GE179)))
                  have n2_ := ak_ (blk_below (g := gb178) (o := .cells #[.slice A0_0 l0_0.length c0_0, .slice A0_1 l0_1.length c0_1, .slice A0_2 l0_2.length c0_2] 31 (0, 0)) (bk_ BK178) hb)
                  have n3_ := ak_ (blk_below (g := gb179) (o := .cells #[.slice none 0 0, .slice none 0 0, .slice none 0 0] 31 (0, 0)) (bk_ BK179) hb)
                  have n4_ := ak_ (below_step (hg2_ GE178 GE179) hb)
                  clear HO194
                  clear BK178
                  clear BK179
                  clear HB
                  have HO194 := n0_
                  have HO182 := n1_
                  have BK178 := n2_
                  have BK179 := n3_
                  have HB := n4_
                  clear n0_ n1_ n2_ n3_ n4_
                  clear hb ho12
                  refine hK.out _ _ ⟨(blk_cell BK178.out 0).trans rfl, (blk_cell BK178.out 1).trans rfl, (blk_cell BK178.out 2).trans rfl⟩ (fun hHeld => ?_)
                  clear hK K
                  refine norm_ (a' := ?_) ?_ ?_
                  rotate_left
                  ·show Act.put _ (some 3) _ = _
                   simp only [Act.put, sT_, s0_, sS_, i64_w, i32_w]
                   rfl
                  exact norm_ (by first | (simp only [putAll, Act.put, List.setIfInBounds_toArray, List.set_cons_zero, List.set_cons_succ]; done) | (simp only [putAll, Act.put, List.setIfInBounds_toArray, List.set_cons_zero, List.set_cons_succ]; rfl)) (hJ0_8 (v181, v193) _ ⟨hHeld, (kr_ HO182), (kr_ HO194), (bk_ BK178), (bk_ BK179), (hg2_ GE178 GE179)⟩)
                 ·skip
                  refine Kd.R_lit_step Kd.string _ 9 ?hg (N := 7) ?hd (xs := ([] : List ByteArray)) (inner := []) (ok := fun _ => True) (okp := fun _ => True) ?hr ?hp (fun _ hk => hk) trivial (Below.refl _ _) (Nat.le_refl _) (by simp) ?_; (case hd => rfl); (case hg => rfl); (case hr => first | (go_simp; done) | (go_simp; rfl)); (case hp => exact (Reps.none _ _))
                  intro v187 w11 ho12 hb hg_ hnew_
                  clear hg_ hnew_
                  (first | rw [← Ny186.out] at ho12 | (simp only [Int.reduceToNat] at ho12; rw [← Ny186.out] at ho12))
                  have n0_ := ak_ (Kd.R_below (kr_ HO194) hb)
                  have n1_ := ak_ (Kd.R_lower ho12 (below_size (hg2_ GE178 GE179)))
                  have n2_ := ak_ (blk_below (g := gb178) (o := .cells #[.slice A0_0 l0_0.length c0_0, .slice A0_1 l0_1.length c0_1, .slice A0_2 l0_2.length c0_2] 31 (0, 0)) (bk_ BK178) hb)
                  have n3_ := ak_ (blk_below (g := gb179) (o := .cells #[.slice none 0 0, .slice none 0 0, .slice none 0 0] 31 (0, 0)) (bk_ BK179) hb)
                  have n4_ := ak_ (below_step (hg2_ GE178 GE179) hb)
                  clear HO194
                  clear BK178
                  clear BK179
                  clear HB
                  have HO194 := n0_
                  have HO188 := n1_
                  have BK178 := n2_
                  have BK179 := n3_
                  have HB := n4_
                  clear n0_ n1_ n2_ n3_ n4_
                  clear hb ho12
                  refine hK.out _ _ ⟨(blk_cell BK178.out 0).trans rfl, (blk_cell BK178.out 1).trans rfl, (blk_cell BK178.out 2).trans rfl⟩ (fun hHeld => ?_)
                  clear hK K
                  refine norm_ (a' := ?_) ?_ ?_
                  rotate_left
                  ·show Act.put _ (some 7) _ = _
                   simp only [Act.put, sT_, s0_, sS_, i64_w, i32_w]
                   rfl
                  exact norm_ (by first | (simp only [putAll, Act.put, List.setIfInBounds_toArray, List.set_cons_zero, List.set_cons_succ]; done) | (simp only [putAll, Act.put, List.setIfInBounds_toArray, List.set_cons_zero, List.set_cons_succ]; rfl)) (hJ4_8 (v187, v193) _ ⟨hHeld, (kr_ HO188), (kr_ HO194), (bk_ BK178), (bk_ BK179), (hg2_ GE178 GE179)⟩)
               ·skip
                rintro v187 w10 ⟨hS_, h0_, h1_, h2_, h3_⟩
                have n0_ : Aside0 (Kd.R Kd.string 9 w10 w.heap.size (fun _ => True) v187 y186) := ⟨h0_⟩
                have n1_ : Aside0 (w10.heap[gb178]? = some (.cells #[.slice A0_0 l0_0.length c0_0, .slice A0_1 l0_1.length c0_1, .slice A0_2 l0_2.length c0_2] 31 (0, 0))) := ⟨h1_⟩
                have n2_ : Aside0 (w10.heap[gb179]? = some (.cells #[.slice none 0 0, .slice none 0 0, .slice none 0 0] 31 (0, 0))) := ⟨h2_⟩
                have n3_ : Aside0 (Below w.heap.size w w10) := ⟨h3_⟩
                clear BK178
                clear BK179
                clear HB
                clear h0_ h1_ h2_ h3_
                have HO188 := n0_
                have BK178 := n1_
                have BK179 := n2_
                have HB := n3_
                clear n0_ n1_ n2_ n3_
                have hHeld : w10.cell? ⟨gb178, 0, none⟩ = some (.slice A0_0 l0_0.length c0_0) ∧ w10.cell? ⟨gb178, 1, none⟩ = some (.slice A0_1 l0_1.length c0_1) ∧ w10.cell? ⟨gb178, 2, none⟩ = some (.slice A0_2 l0_2.length c0_2) := hS_
                refine norm_ (a' := ?_) ?_ ?_
                rotate_left
                ·simp only [putAll, Act.put, List.setIfInBounds_toArray, List.set_cons_zero, List.set_cons_succ]
                 rfl
                refine two_ (i := 0) (j := 8) (Ni := some 3) (Nj := some 11) #[T_,T_,T_,F_,T_,T_,T_,F_,F_,T_,T_,F_,F_,F_] #[F_,T_,T_,F_,T_,T_,T_,F_,T_,T_,T_,F_,F_,F_] rfl rfl rfl rfl (two_of HT_.out (by kernel_rfl)) (by decide) (by decide) (fun K hK => ?_) (fun K hK => ?_)
                ·skip
                 refine Kd.R_lit_step k91 _ 91 ?hg (N := 3) ?hd (xs := ([] : List (S91))) (inner := []) (ok := fun _ => True) (okp := fun _ => True) ?hr ?hp (fun _ hk => hk) trivial (Below.refl _ _) (Nat.le_refl _) (by simp) ?_; (case hd => rfl); (case hg => rfl); (case hr => first | (go_simp; done) | (go_simp; rfl)); (case hp => exact (Reps.none _ _))
                 intro v181 w11 ho12 hb hg_ hnew_
                 clear hg_ hnew_
                 (first | rw [← Ny180.out] at ho12 | (simp only [Int.reduceToNat] at ho12; rw [← Ny180.out] at ho12))
                 have n0_ := ak_ (Kd.R_below (kr_ HO188) hb)
                 have n1_ := ak_ (Kd.R_lower ho12 (below_size (hg2_ GE178 GE179)))
                 have n2_ := ak_ (blk_below (g := gb178) (o := .cells #[.slice A0_0 l0_0.length c0_0, .slice A0_1 l0_1.length c0_1, .slice A0_2 l0_2.length c0_2] 31 (0, 0)) (bk_ BK178) hb)
                 have n3_ := ak_ (blk_below (g := gb179) (o := .cells #[.slice none 0 0, .slice none 0 0, .slice none 0 0] 31 (0, 0)) (bk_ BK179) hb)
                 have n4_ := ak_ (below_step (hg2_ GE178 GE179) hb)
                 clear HO188
                 clear BK178
                 clear BK179
                 clear HB
                 have HO188 := n0_
                 have HO182 := n1_
                 have BK178 := n2_
                 have BK179 := n3_
                 have HB := n4_
                 clear n0_ n1_ n2_ n3_ n4_
                 clear hb ho12
                 refine hK.out _ _ ⟨(blk_cell BK178.out 0).trans rfl, (blk_cell BK178.out 1).trans rfl, (blk_cell BK178.out 2).trans rfl⟩ (fun hHeld => ?_)
                 clear hK K
                 refine norm_ (a' := ?_) ?_ ?_
                 rotate_left
                 ·show Act.put _ (some 3) _ = _
                  simp only [Act.put, sT_, s0_, sS_, i64_w, i32_w]
                  rfl
                 exact norm_ (by first | (simp only [putAll, Act.put, List.setIfInBounds_toArray, List.set_cons_zero, List.set_cons_succ]; done) | (simp only [putAll, Act.put, List.setIfInBounds_toArray, List.set_cons_zero, List.set_cons_succ]; rfl)) (hJ0_4 (v181, v187) _ ⟨hHeld, (kr_ HO182), (kr_ HO188), (bk_ BK178), (bk_ BK179), (hg2_ GE178 GE179)⟩)
                ·skip
                 refine Kd.R_lit_step k41 _ 41 ?hg (N := 11) ?hd (xs := ([] : List (S41))) (inner := []) (ok := fun _ => True) (okp := fun _ => True) ?hr ?hp (fun _ hk => hk) trivial (Below.refl _ _) (Nat.le_refl _) (by simp) ?_; (case hd => rfl); (case hg => rfl); (case hr => first | (go_simp; done) | (go_simp; rfl)); (case hp => exact (Reps.none _ _))
                 intro v193 w11 ho12 hb hg_ hnew_
                 clear hg_ hnew_
                 (first | rw [← Ny192.out] at ho12 | (simp only [Int.reduceToNat] at ho12; rw [← Ny192.out] at ho12))
                 have n0_ := ak_ (Kd.R_below (kr_ HO188) hb)
                 have n1_ := ak_ (Kd.R_lower ho12 (below_size (hg2_ GE178 GE179)))
                 have n2_ := ak_ (blk_below (g := gb178) (o := .cells #[.slice A0_0 l0_0.length c0_0, .slice A0_1 l0_1.length c0_1, .slice A0_2 l0_2.length c0_2] 31 (0, 0)) (bk_ BK178) hb)
                 have n3_ := ak_ (blk_below (g := gb179) (o := .cells #[.slice none 0 0, .slice none 0 0, .slice none 0 0] 31 (0, 0)) (bk_ BK179) hb)
                 have n4_ := ak_ (below_step (hg2_ GE178 GE179) hb)
                 clear HO188
                 clear BK178
                 clear BK179
                 clear HB
                 have HO188 := n0_
                 have HO194 := n1_
                 have BK178 := n2_
                 have BK179 := n3_
                 have HB := n4_
                 clear n0_ n1_ n2_ n3_ n4_
                 clear hb ho12
                 refine hK.out _ _ ⟨(blk_cell BK178.out 0).trans rfl, (blk_cell BK178.out 1).trans rfl, (blk_cell BK178.out 2).trans rfl⟩ (fun hHeld => ?_)
                 clear hK K
                 refine norm_ (a' := ?_) ?_ ?_
                 rotate_left
                 ·show Act.put _ (some 11) _ = _
                  simp only [Act.put, sT_, s0_, sS_, i64_w, i32_w]
                  rfl
                 exact norm_ (by first | (simp only [putAll, Act.put, List.setIfInBounds_toArray, List.set_cons_zero, List.set_cons_succ]; done) | (simp only [putAll, Act.put, List.setIfInBounds_toArray, List.set_cons_zero, List.set_cons_succ]; rfl)) (hJ4_8 (v187, v193) _ ⟨hHeld, (kr_ HO188), (kr_ HO194), (bk_ BK178), (bk_ BK179), (hg2_ GE178 GE179)⟩)
              ·skip
               rintro v181 w10 ⟨hS_, h0_, h1_, h2_, h3_⟩
               have n0_ : Aside0 (Kd.R k91 91 w10 w.heap.size (fun _ => True) v181 y180) := ⟨h0_⟩
               have n1_ : Aside0 (w10.heap[gb178]? = some (.cells #[.slice A0_0 l0_0.length c0_0, .slice A0_1 l0_1.length c0_1, .slice A0_2 l0_2.length c0_2] 31 (0, 0))) := ⟨h1_⟩
               have n2_ : Aside0 (w10.heap[gb179]? = some (.cells #[.slice none 0 0, .slice none 0 0, .slice none 0 0] 31 (0, 0))) := ⟨h2_⟩
               have n3_ : Aside0 (Below w.heap.size w w10) := ⟨h3_⟩
               clear BK178
               clear BK179
               clear HB
               clear h0_ h1_ h2_ h3_
               have HO182 := n0_
               have BK178 := n1_
               have BK179 := n2_
               have HB := n3_
               clear n0_ n1_ n2_ n3_
               have hHeld : w10.cell? ⟨gb178, 0, none⟩ = some (.slice A0_0 l0_0.length c0_0) ∧ w10.cell? ⟨gb178, 1, none⟩ = some (.slice A0_1 l0_1.length c0_1) ∧ w10.cell? ⟨gb178, 2, none⟩ = some (.slice A0_2 l0_2.length c0_2) := hS_
               refine norm_ (a' := ?_) ?_ ?_
               rotate_left
               ·simp only [putAll, Act.put, List.setIfInBounds_toArray, List.set_cons_zero, List.set_cons_succ]
                rfl
               refine three_ (i := 3) (j := 4) (k := 8) (Ni := some 6) (Nj := some 7) (Nk := some 11) #[T_,T_,T_,T_,F_,T_,T_,F_,F_,T_,T_,F_,F_,F_] #[T_,T_,T_,F_,T_,T_,T_,F_,F_,T_,T_,F_,F_,F_] #[T_,T_,T_,F_,F_,T_,T_,F_,T_,T_,T_,F_,F_,F_] rfl rfl rfl rfl rfl rfl (three_of HT_.out (by kernel_rfl)) (by decide) (by decide) (by decide) (fun K hK => ?_) (fun K hK => ?_) (fun K hK => ?_)
               ·skip
                refine Kd.R_append_rows_step k91 (w0 := w) w.heap.size (by rfl) (.tmp 3) (.tmp 5) 28 91 (.agg #[(.string ⟨#[]⟩), (.string ⟨#[]⟩), (.int .i64 0)]) 40 rfl Try.underlying28 info91 rfl (by decide) (by omega) v181 y180 l0_0 _ _ _ (fun _ => True) (fun _ => False) rfl rfl ?aO ?aR (fun _ _ h => h) (fun _ h => h.elim) ?aF ?aB ?aS ?aL ?_
                (case aR => exact kc_ (Kd.C_below HR0_0.out HB.out))
                (case aB => exact (hg2_ GE178 GE179))
                (case aF => exact (fun _ _ => trivial))
                (case aO => exact (kr_ HO182))
                (case aS => exact (below_size (hg2_ GE178 GE179)))
                (case aL => have := LMc2.out; omega)
                intro v184 w11 ho hb hg hat
                rw [← Ny183.out] at ho
                have n0_ := ak_ (blk_grown (g := gb178) (o := .cells #[.slice A0_0 l0_0.length c0_0, .slice A0_1 l0_1.length c0_1, .slice A0_2 l0_2.length c0_2] 31 (0, 0)) (bk_ BK178) hg (Kd.R_ne HO182.out BK178.out (by decide)))
                have n1_ := ak_ (blk_grown (g := gb179) (o := .cells #[.slice none 0 0, .slice none 0 0, .slice none 0 0] 31 (0, 0)) (bk_ BK179) hg (Kd.R_ne HO182.out BK179.out (by decide)))
                have n2_ := ak_ (hb)
                have n3_ := ak_ (ho)
                clear BK178
                clear BK179
                clear HB
                clear HO182
                have BK178 := n0_
                have BK179 := n1_
                have HB := n2_
                have HO185 := n3_
                clear n0_ n1_ n2_ n3_
                clear ho hb hg hat
                refine hK.out _ _ ⟨(blk_cell BK178.out 0).trans rfl, (blk_cell BK178.out 1).trans rfl, (blk_cell BK178.out 2).trans rfl⟩ (fun hHeld => ?_)
                clear hK K
                refine norm_ (a' := ?_) ?_ ?_
                rotate_left
                ·show Act.put _ (some 6) _ = _
                 simp only [Act.put, sT_, s0_, sS_, i64_w, i32_w]
                 rfl
                exact norm_ (by first | (simp only [putAll, Act.put, List.setIfInBounds_toArray, List.set_cons_zero, List.set_cons_succ]; done) | (simp only [putAll, Act.put, List.setIfInBounds_toArray, List.set_cons_zero, List.set_cons_succ]; rfl)) (hJ0_3 (v181, v184) _ ⟨hHeld, (kr_ HO185), (bk_ BK178), (bk_ BK179), (hg2_ GE178 GE179)⟩)
               ·skip
                refine Kd.R_lit_step Kd.string _ 9 ?hg (N := 7) ?hd (xs := ([] : List ByteArray)) (inner := []) (ok := fun _ => True) (okp := fun _ => True) ?hr ?hp (fun _ hk => hk) trivial (Below.refl _ _) (Nat.le_refl _) (by simp) ?_; (case hd => rfl); (case hg => rfl); (case hr => first | (go_simp; done) | (go_simp; rfl)); (case hp => exact (Reps.none _ _))
                intro v187 w11 ho12 hb hg_ hnew_
                clear hg_ hnew_
                (first | rw [← Ny186.out] at ho12 | (simp only [Int.reduceToNat] at ho12; rw [← Ny186.out] at ho12))
                have n0_ := ak_ (Kd.R_below (kr_ HO182) hb)
                have n1_ := ak_ (Kd.R_lower ho12 (below_size (hg2_ GE178 GE179)))
                have n2_ := ak_ (blk_below (g := gb178) (o := .cells #[.slice A0_0 l0_0.length c0_0, .slice A0_1 l0_1.length c0_1, .slice A0_2 l0_2.length c0_2] 31 (0, 0)) (bk_ BK178) hb)
                have n3_ := ak_ (blk_below (g := gb179) (o := .cells #[.slice none 0 0, .slice none 0 0, .slice none 0 0] 31 (0, 0)) (bk_ BK179) hb)
                have n4_ := ak_ (below_step (hg2_ GE178 GE179) hb)
                clear HO182
                clear BK178
                clear BK179
                clear HB
                have HO182 := n0_
                have HO188 := n1_
                have BK178 := n2_
                have BK179 := n3_
                have HB := n4_
                clear n0_ n1_ n2_ n3_ n4_
                clear hb ho12
                refine hK.out _ _ ⟨(blk_cell BK178.out 0).trans rfl, (blk_cell BK178.out 1).trans rfl, (blk_cell BK178.out 2).trans rfl⟩ (fun hHeld => ?_)
                clear hK K
                refine norm_ (a' := ?_) ?_ ?_
                rotate_left
                ·show Act.put _ (some 7) _ = _
                 simp only [Act.put, sT_, s0_, sS_, i64_w, i32_w]
                 rfl
                exact norm_ (by first | (simp only [putAll, Act.put, List.setIfInBounds_toArray, List.set_cons_zero, List.set_cons_succ]; done) | (simp only [putAll, Act.put, List.setIfInBounds_toArray, List.set_cons_zero, List.set_cons_succ]; rfl)) (hJ0_4 (v181, v187) _ ⟨hHeld, (kr_ HO182), (kr_ HO188), (bk_ BK178), (bk_ BK179), (hg2_ GE178 GE179)⟩)
               ·skip
                refine Kd.R_lit_step k41 _ 41 ?hg (N := 11) ?hd (xs := ([] : List (S41))) (inner := []) (ok := fun _ => True) (okp := fun _ => True) ?hr ?hp (fun _ hk => hk) trivial (Below.refl _ _) (Nat.le_refl _) (by simp) ?_; (case hd => rfl); (case hg => rfl); (case hr => first | (go_simp; done) | (go_simp; rfl)); (case hp => exact (Reps.none _ _))
                intro v193 w11 ho12 hb hg_ hnew_
                clear hg_ hnew_
                (first | rw [← Ny192.out] at ho12 | (simp only [Int.reduceToNat] at ho12; rw [← Ny192.out] at ho12))
                have n0_ := ak_ (Kd.R_below (kr_ HO182) hb)
                have n1_ := ak_ (Kd.R_lower ho12 (below_size (hg2_ GE178 GE179)))
                have n2_ := ak_ (blk_below (g := gb178) (o := .cells #[.slice A0_0 l0_0.length c0_0, .slice A0_1 l0_1.length c0_1, .slice A0_2 l0_2.length c0_2] 31 (0, 0)) (bk_ BK178) hb)
                have n3_ := ak_ (blk_below (g := gb179) (o := .cells #[.slice none 0 0, .slice none 0 0, .slice none 0 0] 31 (0, 0)) (bk_ BK179) hb)
                have n4_ := ak_ (below_step (hg2_ GE178 GE179) hb)
                clear HO182
                clear BK178
                clear BK179
                clear HB
                have HO182 := n0_
                have HO194 := n1_
                have BK178 := n2_
                have BK179 := n3_
                have HB := n4_
                clear n0_ n1_ n2_ n3_ n4_
                clear hb ho12
                refine hK.out _ _ ⟨(blk_cell BK178.out 0).trans rfl, (blk_cell BK178.out 1).trans rfl, (blk_cell BK178.out 2).trans rfl⟩ (fun hHeld => ?_)
                clear hK K
                refine norm_ (a' := ?_) ?_ ?_
                rotate_left
                ·show Act.put _ (some 11) _ = _
                 simp only [Act.put, sT_, s0_, sS_, i64_w, i32_w]
                 rfl
                exact norm_ (by first | (simp only [putAll, Act.put, List.setIfInBounds_toArray, List.set_cons_zero, List.set_cons_succ]; done) | (simp only [putAll, Act.put, List.setIfInBounds_toArray, List.set_cons_zero, List.set_cons_succ]; rfl)) (hJ0_8 (v181, v193) _ ⟨hHeld, (kr_ HO182), (kr_ HO194), (bk_ BK178), (bk_ BK179), (hg2_ GE178 GE179)⟩)
             ·skip
              rintro ⟨v187, v193⟩ w12 ⟨hS_, h0_, h1_, h2_, h3_, h4_⟩
              have n0_ : Aside0 (Kd.R Kd.string 9 w12 w.heap.size (fun _ => True) v187 y186) := ⟨h0_⟩
              have n1_ : Aside0 (Kd.R k41 41 w12 w.heap.size (fun _ => True) v193 y192) := ⟨h1_⟩
              have n2_ : Aside0 (w12.heap[gb178]? = some (.cells #[.slice A0_0 l0_0.length c0_0, .slice A0_1 l0_1.length c0_1, .slice A0_2 l0_2.length c0_2] 31 (0, 0))) := ⟨h2_⟩
              have n3_ : Aside0 (w12.heap[gb179]? = some (.cells #[.slice none 0 0, .slice none 0 0, .slice none 0 0] 31 (0, 0))) := ⟨h3_⟩
              have n4_ : Aside0 (Below w.heap.size w w12) := ⟨h4_⟩
              clear BK178
              clear BK179
              clear HB
              clear h0_ h1_ h2_ h3_ h4_
              have HO188 := n0_
              have HO194 := n1_
              have BK178 := n2_
              have BK179 := n3_
              have HB := n4_
              clear n0_ n1_ n2_ n3_ n4_
              have hHeld : w12.cell? ⟨gb178, 0, none⟩ = some (.slice A0_0 l0_0.length c0_0) ∧ w12.cell? ⟨gb178, 1, none⟩ = some (.slice A0_1 l0_1.length c0_1) ∧ w12.cell? ⟨gb178, 2, none⟩ = some (.slice A0_2 l0_2.length c0_2) := hS_
              refine norm_ (a' := ?_) ?_ ?_
              rotate_left
              ·simp only [putAll, Act.put, List.setIfInBounds_toArray, List.set_cons_zero, List.set_cons_succ]
               rfl
              refine one_ (i := 0) (N := some 3) #[T_,T_,T_,F_,T_,T_,T_,F_,T_,T_,T_,F_,F_,F_] rfl rfl (one_of HT_.out (by kernel_rfl)) (by decide) (fun K hK => ?_)
              refine Kd.R_lit_step k91 _ 91 ?hg (N := 3) ?hd (xs := ([] : List (S91))) (inner := []) (ok := fun _ => True) (okp := fun _ => True) ?hr ?hp (fun _ hk => hk) trivial (Below.refl _ _) (Nat.le_refl _) (by simp) ?_; (case hd => rfl); (case hg => rfl); (case hr => first | (go_simp; done) | (go_simp; rfl)); (case hp => exact (Reps.none _ _))
              intro v181 w13 ho14 hb hg_ hnew_
              clear hg_ hnew_
              (first | rw [← Ny180.out] at ho14 | (simp only [Int.reduceToNat] at ho14; rw [← Ny180.out] at ho14))
              have n0_ := ak_ (Kd.R_below (kr_ HO188) hb)
              have n1_ := ak_ (Kd.R_below (kr_ HO194) hb)
              have n2_ := ak_ (Kd.R_lower ho14 (below_size (hg2_ GE178 GE179)))
              have n3_ := ak_ (blk_below (g := gb178) (o := .cells #[.slice A0_0 l0_0.length c0_0, .slice A0_1 l0_1.length c0_1, .slice A0_2 l0_2.length c0_2] 31 (0, 0)) (bk_ BK178) hb)
              have n4_ := ak_ (blk_below (g := gb179) (o := .cells #[.slice none 0 0, .slice none 0 0, .slice none 0 0] 31 (0, 0)) (bk_ BK179) hb)
              have n5_ := ak_ (below_step (hg2_ GE178 GE179) hb)
              clear HO188
              clear HO194
              clear BK178
              clear BK179
              clear HB
              have HO188 := n0_
              have HO194 := n1_
              have HO182 := n2_
              have BK178 := n3_
              have BK179 := n4_
              have HB := n5_
              clear n0_ n1_ n2_ n3_ n4_ n5_
              clear hb ho14
              refine hK.out _ _ ⟨(blk_cell BK178.out 0).trans rfl, (blk_cell BK178.out 1).trans rfl, (blk_cell BK178.out 2).trans rfl⟩ (fun hHeld => ?_)
              clear hK K
              refine norm_ (a' := ?_) ?_ ?_
              rotate_left
              ·show Act.put _ (some 3) _ = _
               simp only [Act.put, sT_, s0_, sS_, i64_w, i32_w]
               rfl
              exact norm_ (by first | (simp only [putAll, Act.put, List.setIfInBounds_toArray, List.set_cons_zero, List.set_cons_succ]; done) | (simp only [putAll, Act.put, List.setIfInBounds_toArray, List.set_cons_zero, List.set_cons_succ]; rfl)) (hJ0_4_8 (v181, v187, v193) _ ⟨hHeld, (kr_ HO182), (kr_ HO188), (kr_ HO194), (bk_ BK178), (bk_ BK179), (hg2_ GE178 GE179)⟩)
            ·skip
             rintro ⟨v181, v193⟩ w12 ⟨hS_, h0_, h1_, h2_, h3_, h4_⟩
             have n0_ : Aside0 (Kd.R k91 91 w12 w.heap.size (fun _ => True) v181 y180) := ⟨h0_⟩
             have n1_ : Aside0 (Kd.R k41 41 w12 w.heap.size (fun _ => True) v193 y192) := ⟨h1_⟩
             have n2_ : Aside0 (w12.heap[gb178]? = some (.cells #[.slice A0_0 l0_0.length c0_0, .slice A0_1 l0_1.length c0_1, .slice A0_2 l0_2.length c0_2] 31 (0, 0))) := ⟨h2_⟩
             have n3_ : Aside0 (w12.heap[gb179]? = some (.cells #[.slice none 0 0, .slice none 0 0, .slice none 0 0] 31 (0, 0))) := ⟨h3_⟩
             have n4_ : Aside0 (Below w.heap.size w w12) := ⟨h4_⟩
             clear BK178
             clear BK179
             clear HB
             clear h0_ h1_ h2_ h3_ h4_
             have HO182 := n0_
             have HO194 := n1_
             have BK178 := n2_
             have BK179 := n3_
             have HB := n4_
             clear n0_ n1_ n2_ n3_ n4_
             have hHeld : w12.cell? ⟨gb178, 0, none⟩ = some (.slice A0_0 l0_0.length c0_0) ∧ w12.cell? ⟨gb178, 1, none⟩ = some (.slice A0_1 l0_1.length c0_1) ∧ w12.cell? ⟨gb178, 2, none⟩ = some (.slice A0_2 l0_2.length c0_2) := hS_
             refine norm_ (a' := ?_) ?_ ?_
             rotate_left
             ·simp only [putAll, Act.put, List.setIfInBounds_toArray, List.set_cons_zero, List.set_cons_succ]
              rfl
             refine two_ (i := 3) (j := 4) (Ni := some 6) (Nj := some 7) #[T_,T_,T_,T_,F_,T_,T_,F_,T_,T_,T_,F_,F_,F_] #[T_,T_,T_,F_,T_,T_,T_,F_,T_,T_,T_,F_,F_,F_] rfl rfl rfl rfl (two_of HT_.out (by kernel_rfl)) (by decide) (by decide) (fun K hK => ?_) (fun K hK => ?_)
             ·skip
              refine Kd.R_append_rows_step k91 (w0 := w) w.heap.size (by rfl) (.tmp 3) (.tmp 5) 28 91 (.agg #[(.string ⟨#[]⟩), (.string ⟨#[]⟩), (.int .i64 0)]) 40 rfl Try.underlying28 info91 rfl (by decide) (by omega) v181 y180 l0_0 _ _ _ (fun _ => True) (fun _ => False) rfl rfl ?aO ?aR (fun _ _ h => h) (fun _ h => h.elim) ?aF ?aB ?aS ?aL ?_
              (case aR => exact kc_ (Kd.C_below HR0_0.out HB.out))
              (case aB => exact (hg2_ GE178 GE179))
              (case aF => exact (fun _ _ => trivial))
              (case aO => exact (kr_ HO182))
              (case aS => exact (below_size (hg2_ GE178 GE179)))
              (case aL => have := LMc2.out; omega)
              intro v184 w13 ho hb hg hat
              rw [← Ny183.out] at ho
              have n0_ := ak_ (blk_grown (g := gb178) (o := .cells #[.slice A0_0 l0_0.length c0_0, .slice A0_1 l0_1.length c0_1, .slice A0_2 l0_2.length c0_2] 31 (0, 0)) (bk_ BK178) hg (Kd.R_ne HO182.out BK178.out (by decide)))
              have n1_ := ak_ (blk_grown (g := gb179) (o := .cells #[.slice none 0 0, .slice none 0 0, .slice none 0 0] 31 (0, 0)) (bk_ BK179) hg (Kd.R_ne HO182.out BK179.out (by decide)))
              have n2_ := ak_ (Kd.R_over' (kr_ HO194) (Kd.R_typed (kr_ HO182)) (by decide) hg)
              have n3_ := ak_ (hb)
              have n4_ := ak_ (ho)
              clear BK178
              clear BK179
              clear HO194
              clear HB
              clear HO182
              have BK178 := n0_
              have BK179 := n1_
              have HO194 := n2_
              have HB := n3_
              have HO185 := n4_
              clear n0_ n1_ n2_ n3_ n4_
              clear ho hb hg hat
              refine hK.out _ _ ⟨(blk_cell BK178.out 0).trans rfl, (blk_cell BK178.out 1).trans rfl, (blk_cell BK178.out 2).trans rfl⟩ (fun hHeld => ?_)
              clear hK K
              refine norm_ (a' := ?_) ?_ ?_
              rotate_left
              ·show Act.put _ (some 6) _ = _
               simp only [Act.put, sT_, s0_, sS_, i64_w, i32_w]
               rfl
              exact norm_ (by first | (simp only [putAll, Act.put, List.setIfInBounds_toArray, List.set_cons_zero, List.set_cons_succ]; done) | (simp only [putAll, Act.put, List.setIfInBounds_toArray, List.set_cons_zero, List.set_cons_succ]; rfl)) (hJ0_3_8 (v181, v184, v193) _ ⟨hHeld, (kr_ HO185), (kr_ HO194), (bk_ BK178), (bk_ BK179), (hg2_ GE178 GE179)⟩)
             ·skip
              refine Kd.R_lit_step Kd.string _ 9 ?hg (N := 7) ?hd (xs := ([] : List ByteArray)) (inner := []) (ok := fun _ => True) (okp := fun _ => True) ?hr ?hp (fun _ hk => hk) trivial (Below.refl _ _) (Nat.le_refl _) (by simp) ?_; (case hd => rfl); (case hg => rfl); (case hr => first | (go_simp; done) | (go_simp; rfl)); (case hp => exact (Reps.none _ _))
              intro v187 w13 ho14 hb hg_ hnew_
              clear hg_ hnew_
              (first | rw [← Ny186.out] at ho14 | (simp only [Int.reduceToNat] at ho14; rw [← Ny186.out] at ho14))
              have n0_ := ak_ (Kd.R_below (kr_ HO182) hb)
              have n1_ := ak_ (Kd.R_below (kr_ HO194) hb)
              have n2_ := ak_ (Kd.R_lower ho14 (below_size (hg2_ GE178 GE179)))
              have n3_ := ak_ (blk_below (g := gb178) (o := .cells #[.slice A0_0 l0_0.length c0_0, .slice A0_1 l0_1.length c0_1, .slice A0_2 l0_2.length c0_2] 31 (0, 0)) (bk_ BK178) hb)
              have n4_ := ak_ (blk_below (g := gb179) (o := .cells #[.slice none 0 0, .slice none 0 0, .slice none 0 0] 31 (0, 0)) (bk_ BK179) hb)
              have n5_ := ak_ (below_step (hg2_ GE178 GE179) hb)
              clear HO182
              clear HO194
              clear BK178
              clear BK179
              clear HB
              have HO182 := n0_
              have HO194 := n1_
              have HO188 := n2_
              have BK178 := n3_
              have BK179 := n4_
              have HB := n5_
              clear n0_ n1_ n2_ n3_ n4_ n5_
              clear hb ho14
              refine hK.out _ _ ⟨(blk_cell BK178.out 0).trans rfl, (blk_cell BK178.out 1).trans rfl, (blk_cell BK178.out 2).trans rfl⟩ (fun hHeld => ?_)
              clear hK K
              refine norm_ (a' := ?_) ?_ ?_
              rotate_left
              ·show Act.put _ (some 7) _ = _
               simp only [Act.put, sT_, s0_, sS_, i64_w, i32_w]
               rfl
              exact norm_ (by first | (simp only [putAll, Act.put, List.setIfInBounds_toArray, List.set_cons_zero, List.set_cons_succ]; done) | (simp only [putAll, Act.put, List.setIfInBounds_toArray, List.set_cons_zero, List.set_cons_succ]; rfl)) (hJ0_4_8 (v181, v187, v193) _ ⟨hHeld, (kr_ HO182), (kr_ HO188), (kr_ HO194), (bk_ BK178), (bk_ BK179), (hg2_ GE178 GE179)⟩)
           ·skip
            rintro ⟨v181, v187⟩ w12 ⟨hS_, h0_, h1_, h2_, h3_, h4_⟩
            have n0_ : Aside0 (Kd.R k91 91 w12 w.heap.size (fun _ => True) v181 y180) := ⟨h0_⟩
            have n1_ : Aside0 (Kd.R Kd.string 9 w12 w.heap.size (fun _ => True) v187 y186) := ⟨h1_⟩
            have n2_ : Aside0 (w12.heap[gb178]? = some (.cells #[.slice A0_0 l0_0.length c0_0, .slice A0_1 l0_1.length c0_1, .slice A0_2 l0_2.length c0_2] 31 (0, 0))) := ⟨h2_⟩
            have n3_ : Aside0 (w12.heap[gb179]? = some (.cells #[.slice none 0 0, .slice none 0 0, .slice none 0 0] 31 (0, 0))) := ⟨h3_⟩
            have n4_ : Aside0 (Below w.heap.size w w12) := ⟨h4_⟩
            clear BK178
            clear BK179
            clear HB
            clear h0_ h1_ h2_ h3_ h4_
            have HO182 := n0_
            have HO188 := n1_
            have BK178 := n2_
            have BK179 := n3_
            have HB := n4_
            clear n0_ n1_ n2_ n3_ n4_
            have hHeld : w12.cell? ⟨gb178, 0, none⟩ = some (.slice A0_0 l0_0.length c0_0) ∧ w12.cell? ⟨gb178, 1, none⟩ = some (.slice A0_1 l0_1.length c0_1) ∧ w12.cell? ⟨gb178, 2, none⟩ = some (.slice A0_2 l0_2.length c0_2) := hS_
            refine norm_ (a' := ?_) ?_ ?_
            rotate_left
            ·simp only [putAll, Act.put, List.setIfInBounds_toArray, List.set_cons_zero, List.set_cons_succ]
             rfl
            refine two_ (i := 3) (j := 8) (Ni := some 6) (Nj := some 11) #[T_,T_,T_,T_,T_,T_,T_,F_,F_,T_,T_,F_,F_,F_] #[T_,T_,T_,F_,T_,T_,T_,F_,T_,T_,T_,F_,F_,F_] rfl rfl rfl rfl (two_of HT_.out (by kernel_rfl)) (by decide) (by decide) (fun K hK => ?_) (fun K hK => ?_)
            ·skip
             refine Kd.R_append_rows_step k91 (w0 := w) w.heap.size (by rfl) (.tmp 3) (.tmp 5) 28 91 (.agg #[(.string ⟨#[]⟩), (.string ⟨#[]⟩), (.int .i64 0)]) 40 rfl Try.underlying28 info91 rfl (by decide) (by omega) v181 y180 l0_0 _ _ _ (fun _ => True) (fun _ => False) rfl rfl ?aO ?aR (fun _ _ h => h) (fun _ h => h.elim) ?aF ?aB ?aS ?aL ?_
             (case aR => exact kc_ (Kd.C_below HR0_0.out HB.out))
             (case aB => exact (hg2_ GE178 GE179))
             (case aF => exact (fun _ _ => trivial))
             (case aO => exact (kr_ HO182))
             (case aS => exact (below_size (hg2_ GE178 GE179)))
             (case aL => have := LMc2.out; omega)
             intro v184 w13 ho hb hg hat
             rw [← Ny183.out] at ho
             have n0_ := ak_ (blk_grown (g := gb178) (o := .cells #[.slice A0_0 l0_0.length c0_0, .slice A0_1 l0_1.length c0_1, .slice A0_2 l0_2.length c0_2] 31 (0, 0)) (bk_ BK178) hg (Kd.R_ne HO182.out BK178.out (by decide)))
             have n1_ := ak_ (blk_grown (g := gb179) (o := .cells #[.slice none 0 0, .slice none 0 0, .slice none 0 0] 31 (0, 0)) (bk_ BK179) hg (Kd.R_ne HO182.out BK179.out (by decide)))
             have n2_ := ak_ (Kd.R_over' (kr_ HO188) (Kd.R_typed (kr_ HO182)) (by decide) hg)
             have n3_ := ak_ (hb)
             have n4_ := ak_ (ho)
             clear BK178
             clear BK179
             clear HO188
             clear HB
             clear HO182
             have BK178 := n0_
             have BK179 := n1_
             have HO188 := n2_
             have HB := n3_
             have HO185 := n4_
             clear n0_ n1_ n2_ n3_ n4_
             clear ho hb hg hat
             refine hK.out _ _ ⟨(blk_cell BK178.out 0).trans rfl, (blk_cell BK178.out 1).trans rfl, (blk_cell BK178.out 2).trans rfl⟩ (fun hHeld => ?_)
             clear hK K
             refine norm_ (a' := ?_) ?_ ?_
             rotate_left
             ·show Act.put _ (some 6) _ = _
              simp only [Act.put, sT_, s0_, sS_, i64_w, i32_w]
              rfl
             exact norm_ (by first | (simp only [putAll, Act.put, List.setIfInBounds_toArray, List.set_cons_zero, List.set_cons_succ]; done) | (simp only [putAll, Act.put, List.setIfInBounds_toArray, List.set_cons_zero, List.set_cons_succ]; rfl)) (hJ0_3_4 (v181, v184, v187) _ ⟨hHeld, (kr_ HO185), (kr_ HO188), (bk_ BK178), (bk_ BK179), (hg2_ GE178 GE179)⟩)
            ·skip
             refine Kd.R_lit_step k41 _ 41 ?hg (N := 11) ?hd (xs := ([] : List (S41))) (inner := []) (ok := fun _ => True) (okp := fun _ => True) ?hr ?hp (fun _ hk => hk) trivial (Below.refl _ _) (Nat.le_refl _) (by simp) ?_; (case hd => rfl); (case hg => rfl); (case hr => first | (go_simp; done) | (go_simp; rfl)); (case hp => exact (Reps.none _ _))
             intro v193 w13 ho14 hb hg_ hnew_
             clear hg_ hnew_
             (first | rw [← Ny192.out] at ho14 | (simp only [Int.reduceToNat] at ho14; rw [← Ny192.out] at ho14))
             have n0_ := ak_ (Kd.R_below (kr_ HO182) hb)
             have n1_ := ak_ (Kd.R_below (kr_ HO188) hb)
             have n2_ := ak_ (Kd.R_lower ho14 (below_size (hg2_ GE178 GE179)))
             have n3_ := ak_ (blk_below (g := gb178) (o := .cells #[.slice A0_0 l0_0.length c0_0, .slice A0_1 l0_1.length c0_1, .slice A0_2 l0_2.length c0_2] 31 (0, 0)) (bk_ BK178) hb)
             have n4_ := ak_ (blk_below (g := gb179) (o := .cells #[.slice none 0 0, .slice none 0 0, .slice none 0 0] 31 (0, 0)) (bk_ BK179) hb)
             have n5_ := ak_ (below_step (hg2_ GE178 GE179) hb)
             clear HO182
             clear HO188
             clear BK178
             clear BK179
             clear HB
             have HO182 := n0_
             have HO188 := n1_
             have HO194 := n2_
             have BK178 := n3_
             have BK179 := n4_
             have HB := n5_
             clear n0_ n1_ n2_ n3_ n4_ n5_
             clear hb ho14
             refine hK.out _ _ ⟨(blk_cell BK178.out 0).trans rfl, (blk_cell BK178.out 1).trans rfl, (blk_cell BK178.out 2).trans rfl⟩ (fun hHeld => ?_)
             clear hK K
             refine norm_ (a' := ?_) ?_ ?_
             rotate_left
             ·show Act.put _ (some 11) _ = _
              simp only [Act.put, sT_, s0_, sS_, i64_w, i32_w]
              rfl
             exact norm_ (by first | (simp only [putAll, Act.put, List.setIfInBounds_toArray, List.set_cons_zero, List.set_cons_succ]; done) | (simp only [putAll, Act.put, List.setIfInBounds_toArray, List.set_cons_zero, List.set_cons_succ]; rfl)) (hJ0_4_8 (v181, v187, v193) _ ⟨hHeld, (kr_ HO182), (kr_ HO188), (kr_ HO194), (bk_ BK178), (bk_ BK179), (hg2_ GE178 GE179)⟩)
          ·skip
           rintro ⟨v181, v184⟩ w11 ⟨hS_, h0_, h1_, h2_, h3_⟩
           have n0_ : Aside0 (Kd.R k91 91 w11 w.heap.size (fun _ => True) v184 y183) := ⟨h0_⟩
           have n1_ : Aside0 (w11.heap[gb178]? = some (.cells #[.slice A0_0 l0_0.length c0_0, .slice A0_1 l0_1.length c0_1, .slice A0_2 l0_2.length c0_2] 31 (0, 0))) := ⟨h1_⟩
           have n2_ : Aside0 (w11.heap[gb179]? = some (.cells #[.slice none 0 0, .slice none 0 0, .slice none 0 0] 31 (0, 0))) := ⟨h2_⟩
           have n3_ : Aside0 (Below w.heap.size w w11) := ⟨h3_⟩
           clear BK178
           clear BK179
           clear HB
           clear h0_ h1_ h2_ h3_
           have HO185 := n0_
           have BK178 := n1_
           have BK179 := n2_
           have HB := n3_
           clear n0_ n1_ n2_ n3_
           have hHeld : w11.cell? ⟨gb178, 0, none⟩ = some (.slice A0_0 l0_0.length c0_0) ∧ w11.cell? ⟨gb178, 1, none⟩ = some (.slice A0_1 l0_1.length c0_1) ∧ w11.cell? ⟨gb178, 2, none⟩ = some (.slice A0_2 l0_2.length c0_2) := hS_
           refine norm_ (a' := ?_) ?_ ?_
           rotate_left
           ·simp only [putAll, Act.put, List.setIfInBounds_toArray, List.set_cons_zero, List.set_cons_succ]
            rfl
           refine two_ (i := 4) (j := 8) (Ni := some 7) (Nj := some 11) #[T_,T_,T_,T_,T_,T_,T_,F_,F_,T_,T_,F_,F_,F_] #[T_,T_,T_,T_,F_,T_,T_,F_,T_,T_,T_,F_,F_,F_] rfl rfl rfl rfl (two_of HT_.out (by kernel_rfl)) (by decide) (by decide) (fun K hK => ?_) (fun K hK => ?_)
           ·skip
            refine Kd.R_lit_step Kd.string _ 9 ?hg (N := 7) ?hd (xs := ([] : List ByteArray)) (inner := []) (ok := fun _ => True) (okp := fun _ => True) ?hr ?hp (fun _ hk => hk) trivial (Below.refl _ _) (Nat.le_refl _) (by simp) ?_; (case hd => rfl); (case hg => rfl); (case hr => first | (go_simp; done) | (go_simp; rfl)); (case hp => exact (Reps.none _ _))
            intro v187 w12 ho13 hb hg_ hnew_
            clear hg_ hnew_
            (first | rw [← Ny186.out] at ho13 | (simp only [Int.reduceToNat] at ho13; rw [← Ny186.out] at ho13))
            have n0_ := ak_ (Kd.R_below (kr_ HO185) hb)
            have n1_ := ak_ (Kd.R_lower ho13 (below_size (hg2_ GE178 GE179)))
            have n2_ := ak_ (blk_below (g := gb178) (o := .cells #[.slice A0_0 l0_0.length c0_0, .slice A0_1 l0_1.length c0_1, .slice A0_2 l0_2.length c0_2] 31 (0, 0)) (bk_ BK178) hb)
            have n3_ := ak_ (blk_below (g := gb179) (o := .cells #[.slice none 0 0, .slice none 0 0, .slice none 0 0] 31 (0, 0)) (bk_ BK179) hb)
            have n4_ := ak_ (below_step (hg2_ GE178 GE179) hb)
            clear HO185
            clear BK178
            clear BK179
            clear HB
            have HO185 := n0_
            have HO188 := n1_
            have BK178 := n2_
            have BK179 := n3_
            have HB := n4_
            clear n0_ n1_ n2_ n3_ n4_
            clear hb ho13
            refine hK.out _ _ ⟨(blk_cell BK178.out 0).trans rfl, (blk_cell BK178.out 1).trans rfl, (blk_cell BK178.out 2).trans rfl⟩ (fun hHeld => ?_)
            clear hK K
            refine norm_ (a' := ?_) ?_ ?_
            rotate_left
            ·show Act.put _ (some 7) _ = _
             simp only [Act.put, sT_, s0_, sS_, i64_w, i32_w]
             rfl
            exact norm_ (by first | (simp only [putAll, Act.put, List.setIfInBounds_toArray, List.set_cons_zero, List.set_cons_succ]; done) | (simp only [putAll, Act.put, List.setIfInBounds_toArray, List.set_cons_zero, List.set_cons_succ]; rfl)) (hJ0_3_4 (v181, v184, v187) _ ⟨hHeld, (kr_ HO185), (kr_ HO188), (bk_ BK178), (bk_ BK179), (hg2_ GE178 GE179)⟩)
           ·skip
            refine Kd.R_lit_step k41 _ 41 ?hg (N := 11) ?hd (xs := ([] : List (S41))) (inner := []) (ok := fun _ => True) (okp := fun _ => True) ?hr ?hp (fun _ hk => hk) trivial (Below.refl _ _) (Nat.le_refl _) (by simp) ?_; (case hd => rfl); (case hg => rfl); (case hr => first | (go_simp; done) | (go_simp; rfl)); (case hp => exact (Reps.none _ _))
            intro v193 w12 ho13 hb hg_ hnew_
            clear hg_ hnew_
            (first | rw [← Ny192.out] at ho13 | (simp only [Int.reduceToNat] at ho13; rw [← Ny192.out] at ho13))
            have n0_ := ak_ (Kd.R_below (kr_ HO185) hb)
            have n1_ := ak_ (Kd.R_lower ho13 (below_size (hg2_ GE178 GE179)))
            have n2_ := ak_ (blk_below (g := gb178) (o := .cells #[.slice A0_0 l0_0.length c0_0, .slice A0_1 l0_1.length c0_1, .slice A0_2 l0_2.length c0_2] 31 (0, 0)) (bk_ BK178) hb)
            have n3_ := ak_ (blk_below (g := gb179) (o := .cells #[.slice none 0 0, .slice none 0 0, .slice none 0 0] 31 (0, 0)) (bk_ BK179) hb)
            have n4_ := ak_ (below_step (hg2_ GE178 GE179) hb)
            clear HO185
            clear BK178
            clear BK179
            clear HB
            have HO185 := n0_
            have HO194 := n1_
            have BK178 := n2_
            have BK179 := n3_
            have HB := n4_
            clear n0_ n1_ n2_ n3_ n4_
            clear hb ho13
            refine hK.out _ _ ⟨(blk_cell BK178.out 0).trans rfl, (blk_cell BK178.out 1).trans rfl, (blk_cell BK178.out 2).trans rfl⟩ (fun hHeld => ?_)
            clear hK K
            refine norm_ (a' := ?_) ?_ ?_
            rotate_left
            ·show Act.put _ (some 11) _ = _
             simp only [Act.put, sT_, s0_, sS_, i64_w, i32_w]
             rfl
            exact norm_ (by first | (simp only [putAll, Act.put, List.setIfInBounds_toArray, List.set_cons_zero, List.set_cons_succ]; done) | (simp only [putAll, Act.put, List.setIfInBounds_toArray, List.set_cons_zero, List.set_cons_succ]; rfl)) (hJ0_3_8 (v181, v184, v193) _ ⟨hHeld, (kr_ HO185), (kr_ HO194), (bk_ BK178), (bk_ BK179), (hg2_ GE178 GE179)⟩)
         ·skip
          rintro ⟨v181, v187, v193⟩ w14 ⟨hS_, h0_, h1_, h2_, h3_, h4_, h5_⟩
          have n0_ : Aside0 (Kd.R k91 91 w14 w.heap.size (fun _ => True) v181 y180) := ⟨h0_⟩
          have n1_ : Aside0 (Kd.R Kd.string 9 w14 w.heap.size (fun _ => True) v187 y186) := ⟨h1_⟩
          have n2_ : Aside0 (Kd.R k41 41 w14 w.heap.size (fun _ => True) v193 y192) := ⟨h2_⟩
          have n3_ : Aside0 (w14.heap[gb178]? = some (.cells #[.slice A0_0 l0_0.length c0_0, .slice A0_1 l0_1.length c0_1, .slice A0_2 l0_2.length c0_2] 31 (0, 0))) := ⟨h3_⟩
          have n4_ : Aside0 (w14.heap[gb179]? = some (.cells #[.slice none 0 0, .slice none 0 0, .slice none 0 0] 31 (0, 0))) := ⟨h4_⟩
          have n5_ : Aside0 (Below w.heap.size w w14) := ⟨h5_⟩
          clear BK178
          clear BK179
          clear HB
          clear h0_ h1_ h2_ h3_ h4_ h5_
          have HO182 := n0_
          have HO188 := n1_
          have HO194 := n2_
          have BK178 := n3_
          have BK179 := n4_
          have HB := n5_
          clear n0_ n1_ n2_ n3_ n4_ n5_
          have hHeld : w14.cell? ⟨gb178, 0, none⟩ = some (.slice A0_0 l0_0.length c0_0) ∧ w14.cell? ⟨gb178, 1, none⟩ = some (.slice A0_1 l0_1.length c0_1) ∧ w14.cell? ⟨gb178, 2, none⟩ = some (.slice A0_2 l0_2.length c0_2) := hS_
          refine norm_ (a' := ?_) ?_ ?_
          rotate_left
          ·simp only [putAll, Act.put, List.setIfInBounds_toArray, List.set_cons_zero, List.set_cons_succ]
           rfl
          refine one_ (i := 3) (N := some 6) #[T_,T_,T_,T_,T_,T_,T_,F_,T_,T_,T_,F_,F_,F_] rfl rfl (one_of HT_.out (by kernel_rfl)) (by decide) (fun K hK => ?_)
          refine Kd.R_append_rows_step k91 (w0 := w) w.heap.size (by rfl) (.tmp 3) (.tmp 5) 28 91 (.agg #[(.string ⟨#[]⟩), (.string ⟨#[]⟩), (.int .i64 0)]) 40 rfl Try.underlying28 info91 rfl (by decide) (by omega) v181 y180 l0_0 _ _ _ (fun _ => True) (fun _ => False) rfl rfl ?aO ?aR (fun _ _ h => h) (fun _ h => h.elim) ?aF ?aB ?aS ?aL ?_
          (case aR => exact kc_ (Kd.C_below HR0_0.out HB.out))
          (case aB => exact (hg2_ GE178 GE179))
          (case aF => exact (fun _ _ => trivial))
          (case aO => exact (kr_ HO182))
          (case aS => exact (below_size (hg2_ GE178 GE179)))
          (case aL => have := LMc2.out; omega)
          intro v184 w15 ho hb hg hat
          rw [← Ny183.out] at ho
          have n0_ := ak_ (blk_grown (g := gb178) (o := .cells #[.slice A0_0 l0_0.length c0_0, .slice A0_1 l0_1.length c0_1, .slice A0_2 l0_2.length c0_2] 31 (0, 0)) (bk_ BK178) hg (Kd.R_ne HO182.out BK178.out (by decide)))
          have n1_ := ak_ (blk_grown (g := gb179) (o := .cells #[.slice none 0 0, .slice none 0 0, .slice none 0 0] 31 (0, 0)) (bk_ BK179) hg (Kd.R_ne HO182.out BK179.out (by decide)))
          have n2_ := ak_ (Kd.R_over' (kr_ HO188) (Kd.R_typed (kr_ HO182)) (by decide) hg)
          have n3_ := ak_ (Kd.R_over' (kr_ HO194) (Kd.R_typed (kr_ HO182)) (by decide) hg)
          have n4_ := ak_ (hb)
          have n5_ := ak_ (ho)
          clear BK178
          clear BK179
          clear HO188
          clear HO194
          clear HB
          clear HO182
          have BK178 := n0_
          have BK179 := n1_
          have HO188 := n2_
          have HO194 := n3_
          have HB := n4_
          have HO185 := n5_
          clear n0_ n1_ n2_ n3_ n4_ n5_
          clear ho hb hg hat
          refine hK.out _ _ ⟨(blk_cell BK178.out 0).trans rfl, (blk_cell BK178.out 1).trans rfl, (blk_cell BK178.out 2).trans rfl⟩ (fun hHeld => ?_)
          clear hK K
          refine norm_ (a' := ?_) ?_ ?_
          rotate_left
          ·show Act.put _ (some 6) _ = _
           simp only [Act.put, sT_, s0_, sS_, i64_w, i32_w]
           rfl
          exact norm_ (by first | (simp only [putAll, Act.put, List.setIfInBounds_toArray, List.set_cons_zero, List.set_cons_succ]; done) | (simp only [putAll, Act.put, List.setIfInBounds_toArray, List.set_cons_zero, List.set_cons_succ]; rfl)) (hJ0_3_4_8 (v181, v184, v187, v193) _ ⟨hHeld, (kr_ HO185), (kr_ HO188), (kr_ HO194), (bk_ BK178), (bk_ BK179), (hg2_ GE178 GE179)⟩)
        ·skip
         rintro ⟨v181, v184, v193⟩ w13 ⟨hS_, h0_, h1_, h2_, h3_, h4_⟩
         have n0_ : Aside0 (Kd.R k91 91 w13 w.heap.size (fun _ => True) v184 y183) := ⟨h0_⟩
         have n1_ : Aside0 (Kd.R k41 41 w13 w.heap.size (fun _ => True) v193 y192) := ⟨h1_⟩
         have n2_ : Aside0 (w13.heap[gb178]? = some (.cells #[.slice A0_0 l0_0.length c0_0, .slice A0_1 l0_1.length c0_1, .slice A0_2 l0_2.length c0_2] 31 (0, 0))) := ⟨h2_⟩
         have n3_ : Aside0 (w13.heap[gb179]? = some (.cells #[.slice none 0 0, .slice none 0 0, .slice none 0 0] 31 (0, 0))) := ⟨h3_⟩
         have n4_ : Aside0 (Below w.heap.size w w13) := ⟨h4_⟩
         clear BK178
         clear BK179
         clear HB
         clear h0_ h1_ h2_ h3_ h4_
         have HO185 := n0_
         have HO194 := n1_
         have BK178 := n2_
         have BK179 := n3_
         have HB := n4_
         clear n0_ n1_ n2_ n3_ n4_
         have hHeld : w13.cell? ⟨gb178, 0, none⟩ = some (.slice A0_0 l0_0.length c0_0) ∧ w13.cell? ⟨gb178, 1, none⟩ = some (.slice A0_1 l0_1.length c0_1) ∧ w13.cell? ⟨gb178, 2, none⟩ = some (.slice A0_2 l0_2.length c0_2) := hS_
         refine norm_ (a' := ?_) ?_ ?_
         rotate_left
         ·simp only [putAll, Act.put, List.setIfInBounds_toArray, List.set_cons_zero, List.set_cons_succ]
          rfl
         refine one_ (i := 4) (N := some 7) #[T_,T_,T_,T_,T_,T_,T_,F_,T_,T_,T_,F_,F_,F_] rfl rfl (one_of HT_.out (by kernel_rfl)) (by decide) (fun K hK => ?_)
         refine Kd.R_lit_step Kd.string _ 9 ?hg (N := 7) ?hd (xs := ([] : List ByteArray)) (inner := []) (ok := fun _ => True) (okp := fun _ => True) ?hr ?hp (fun _ hk => hk) trivial (Below.refl _ _) (Nat.le_refl _) (by simp) ?_; (case hd => rfl); (case hg => rfl); (case hr => first | (go_simp; done) | (go_simp; rfl)); (case hp => exact (Reps.none _ _))
         intro v187 w14 ho15 hb hg_ hnew_
         clear hg_ hnew_
         (first | rw [← Ny186.out] at ho15 | (simp only [Int.reduceToNat] at ho15; rw [← Ny186.out] at ho15))
         have n0_ := ak_ (Kd.R_below (kr_ HO185) hb)
         have n1_ := ak_ (Kd.R_below (kr_ HO194) hb)
         have n2_ := ak_ (Kd.R_lower ho15 (below_size (hg2_ GE178 GE179)))
         have n3_ := ak_ (blk_below (g := gb178) (o := .cells #[.slice A0_0 l0_0.length c0_0, .slice A0_1 l0_1.length c0_1, .slice A0_2 l0_2.length c0_2] 31 (0, 0)) (bk_ BK178) hb)
         have n4_ := ak_ (blk_below (g := gb179) (o := .cells #[.slice none 0 0, .slice none 0 0, .slice none 0 0] 31 (0, 0)) (bk_ BK179) hb)
         have n5_ := ak_ (below_step (hg2_ GE178 GE179) hb)
         clear HO185
         clear HO194
         clear BK178
         clear BK179
         clear HB
         have HO185 := n0_
         have HO194 := n1_
         have HO188 := n2_
         have BK178 := n3_
         have BK179 := n4_
         have HB := n5_
         clear n0_ n1_ n2_ n3_ n4_ n5_
         clear hb ho15
         refine hK.out _ _ ⟨(blk_cell BK178.out 0).trans rfl, (blk_cell BK178.out 1).trans rfl, (blk_cell BK178.out 2).trans rfl⟩ (fun hHeld => ?_)
         clear hK K
         refine norm_ (a' := ?_) ?_ ?_
         rotate_left
         ·show Act.put _ (some 7) _ = _
          simp only [Act.put, sT_, s0_, sS_, i64_w, i32_w]
          rfl
         exact norm_ (by first | (simp only [putAll, Act.put, List.setIfInBounds_toArray, List.set_cons_zero, List.set_cons_succ]; done) | (simp only [putAll, Act.put, List.setIfInBounds_toArray, List.set_cons_zero, List.set_cons_succ]; rfl)) (hJ0_3_4_8 (v181, v184, v187, v193) _ ⟨hHeld, (kr_ HO185), (kr_ HO188), (kr_ HO194), (bk_ BK178), (bk_ BK179), (hg2_ GE178 GE179)⟩)
       ·skip
        rintro ⟨v181, v184, v187⟩ w13 ⟨hS_, h0_, h1_, h2_, h3_, h4_⟩
        have n0_ : Aside0 (Kd.R k91 91 w13 w.heap.size (fun _ => True) v184 y183) := ⟨h0_⟩
        have n1_ : Aside0 (Kd.R Kd.string 9 w13 w.heap.size (fun _ => True) v187 y186) := ⟨h1_⟩
        have n2_ : Aside0 (w13.heap[gb178]? = some (.cells #[.slice A0_0 l0_0.length c0_0, .slice A0_1 l0_1.length c0_1, .slice A0_2 l0_2.length c0_2] 31 (0, 0))) := ⟨h2_⟩
        have n3_ : Aside0 (w13.heap[gb179]? = some (.cells #[.slice none 0 0, .slice none 0 0, .slice none 0 0] 31 (0, 0))) := ⟨h3_⟩
        have n4_ : Aside0 (Below w.heap.size w w13) := ⟨h4_⟩
        clear BK178
        clear BK179
        clear HB
        clear h0_ h1_ h2_ h3_ h4_
        have HO185 := n0_
        have HO188 := n1_
        have BK178 := n2_
        have BK179 := n3_
        have HB := n4_
        clear n0_ n1_ n2_ n3_ n4_
        have hHeld : w13.cell? ⟨gb178, 0, none⟩ = some (.slice A0_0 l0_0.length c0_0) ∧ w13.cell? ⟨gb178, 1, none⟩ = some (.slice A0_1 l0_1.length c0_1) ∧ w13.cell? ⟨gb178, 2, none⟩ = some (.slice A0_2 l0_2.length c0_2) := hS_
        refine norm_ (a' := ?_) ?_ ?_
        rotate_left
        ·simp only [putAll, Act.put, List.setIfInBounds_toArray, List.set_cons_zero, List.set_cons_succ]
         rfl
        refine two_ (i := 7) (j := 8) (Ni := some 10) (Nj := some 11) #[T_,T_,T_,T_,T_,T_,T_,T_,F_,T_,T_,F_,F_,F_] #[T_,T_,T_,T_,T_,T_,T_,F_,T_,T_,T_,F_,F_,F_] rfl rfl rfl rfl (two_of HT_.out (by kernel_rfl)) (by decide) (by decide) (fun K hK => ?_) (fun K hK => ?_)
        ·skip
         refine Kd.R_append_rows_step Kd.string (w0 := w) w.heap.size (by rfl) (.tmp 7) (.tmp 9) 23 9 (.string ⟨#[]⟩) 16 rfl Try.underlying23 info9 rfl (by decide) (by omega) v187 y186 l0_1 _ _ _ (fun _ => True) (fun _ => False) rfl rfl ?aO ?aR (fun _ _ h => h) (fun _ h => h.elim) ?aF ?aB ?aS ?aL ?_
         (case aR => exact kc_ (Kd.C_below HR0_1.out HB.out))
         (case aB => exact (hg2_ GE178 GE179))
         (case aF => exact (fun _ _ => trivial))
         (case aO => exact (kr_ HO188))
         (case aS => exact (below_size (hg2_ GE178 GE179)))
         (case aL => have := LMc3.out; omega)
         intro v190 w14 ho hb hg hat
         rw [← Ny189.out] at ho
         have n0_ := ak_ (blk_grown (g := gb178) (o := .cells #[.slice A0_0 l0_0.length c0_0, .slice A0_1 l0_1.length c0_1, .slice A0_2 l0_2.length c0_2] 31 (0, 0)) (bk_ BK178) hg (Kd.R_ne HO188.out BK178.out (by decide)))
         have n1_ := ak_ (blk_grown (g := gb179) (o := .cells #[.slice none 0 0, .slice none 0 0, .slice none 0 0] 31 (0, 0)) (bk_ BK179) hg (Kd.R_ne HO188.out BK179.out (by decide)))
         have n2_ := ak_ (Kd.R_over' (kr_ HO185) (Kd.R_typed (kr_ HO188)) (by decide) hg)
         have n3_ := ak_ (hb)
         have n4_ := ak_ (ho)
         clear BK178
         clear BK179
         clear HO185
         clear HB
         clear HO188
         have BK178 := n0_
         have BK179 := n1_
         have HO185 := n2_
         have HB := n3_
         have HO191 := n4_
         clear n0_ n1_ n2_ n3_ n4_
         clear ho hb hg hat
         refine hK.out _ _ ⟨(blk_cell BK178.out 0).trans rfl, (blk_cell BK178.out 1).trans rfl, (blk_cell BK178.out 2).trans rfl⟩ (fun hHeld => ?_)
         clear hK K
         refine norm_ (a' := ?_) ?_ ?_
         rotate_left
         ·show Act.put _ (some 10) _ = _
          simp only [Act.put, sT_, s0_, sS_, i64_w, i32_w]
          rfl
         exact norm_ (by first | (simp only [putAll, Act.put, List.setIfInBounds_toArray, List.set_cons_zero, List.set_cons_succ]; done) | (simp only [putAll, Act.put, List.setIfInBounds_toArray, List.set_cons_zero, List.set_cons_succ]; rfl)) (hJ0_3_4_7 (v181, v184, v187, v190) _ ⟨hHeld, (kr_ HO185), (kr_ HO191), (bk_ BK178), (bk_ BK179), (hg2_ GE178 GE179)⟩)
        ·skip
         refine Kd.R_lit_step k41 _ 41 ?hg (N := 11) ?hd (xs := ([] : List (S41))) (inner := []) (ok := fun _ => True) (okp := fun _ => True) ?hr ?hp (fun _ hk => hk) trivial (Below.refl _ _) (Nat.le_refl _) (by simp) ?_; (case hd => rfl); (case hg => rfl); (case hr => first | (go_simp; done) | (go_simp; rfl)); (case hp => exact (Reps.none _ _))
         intro v193 w14 ho15 hb hg_ hnew_
         clear hg_ hnew_
         (first | rw [← Ny192.out] at ho15 | (simp only [Int.reduceToNat] at ho15; rw [← Ny192.out] at ho15))
         have n0_ := ak_ (Kd.R_below (kr_ HO185) hb)
         have n1_ := ak_ (Kd.R_below (kr_ HO188) hb)
         have n2_ := ak_ (Kd.R_lower ho15 (below_size (hg2_ GE178 GE179)))
         have n3_ := ak_ (blk_below (g := gb178) (o := .cells #[.slice A0_0 l0_0.length c0_0, .slice A0_1 l0_1.length c0_1, .slice A0_2 l0_2.length c0_2] 31 (0, 0)) (bk_ BK178) hb)
         have n4_ := ak_ (blk_below (g := gb179) (o := .cells #[.slice none 0 0, .slice none 0 0, .slice none 0 0] 31 (0, 0)) (bk_ BK179) hb)
         have n5_ := ak_ (below_step (hg2_ GE178 GE179) hb)
         clear HO185
         clear HO188
         clear BK178
         clear BK179
         clear HB
         have HO185 := n0_
         have HO188 := n1_
         have HO194 := n2_
         have BK178 := n3_
         have BK179 := n4_
         have HB := n5_
         clear n0_ n1_ n2_ n3_ n4_ n5_
         clear hb ho15
         refine hK.out _ _ ⟨(blk_cell BK178.out 0).trans rfl, (blk_cell BK178.out 1).trans rfl, (blk_cell BK178.out 2).trans rfl⟩ (fun hHeld => ?_)
         clear hK K
         refine norm_ (a' := ?_) ?_ ?_
         rotate_left
         ·show Act.put _ (some 11) _ = _
          simp only [Act.put, sT_, s0_, sS_, i64_w, i32_w]
          rfl
         exact norm_ (by first | (simp only [putAll, Act.put, List.setIfInBounds_toArray, List.set_cons_zero, List.set_cons_succ]; done) | (simp only [putAll, Act.put, List.setIfInBounds_toArray, List.set_cons_zero, List.set_cons_succ]; rfl)) (hJ0_3_4_8 (v181, v184, v187, v193) _ ⟨hHeld, (kr_ HO185), (kr_ HO188), (kr_ HO194), (bk_ BK178), (bk_ BK179), (hg2_ GE178 GE179)⟩)
      ·skip
       rintro ⟨v181, v184, v187, v193⟩ w15 ⟨hS_, h0_, h1_, h2_, h3_, h4_, h5_⟩
       have n0_ : Aside0 (Kd.R k91 91 w15 w.heap.size (fun _ => True) v184 y183) := ⟨h0_⟩
       have n1_ : Aside0 (Kd.R Kd.string 9 w15 w.heap.size (fun _ => True) v187 y186) := ⟨h1_⟩
       have n2_ : Aside0 (Kd.R k41 41 w15 w.heap.size (fun _ => True) v193 y192) := ⟨h2_⟩
       have n3_ : Aside0 (w15.heap[gb178]? = some (.cells #[.slice A0_0 l0_0.length c0_0, .slice A0_1 l0_1.length c0_1, .slice A0_2 l0_2.length c0_2] 31 (0, 0))) := ⟨h3_⟩
       have n4_ : Aside0 (w15.heap[gb179]? = some (.cells #[.slice none 0 0, .slice none 0 0, .slice none 0 0] 31 (0, 0))) := ⟨h4_⟩
       have n5_ : Aside0 (Below w.heap.size w w15) := ⟨h5_⟩
       clear BK178
       clear BK179
       clear HB
       clear h0_ h1_ h2_ h3_ h4_ h5_
       have HO185 := n0_
       have HO188 := n1_
       have HO194 := n2_
       have BK178 := n3_
       have BK179 := n4_
       have HB := n5_
       clear n0_ n1_ n2_ n3_ n4_ n5_
       have hHeld : w15.cell? ⟨gb178, 0, none⟩ = some (.slice A0_0 l0_0.length c0_0) ∧ w15.cell? ⟨gb178, 1, none⟩ = some (.slice A0_1 l0_1.length c0_1) ∧ w15.cell? ⟨gb178, 2, none⟩ = some (.slice A0_2 l0_2.length c0_2) := hS_
       refine norm_ (a' := ?_) ?_ ?_
       rotate_left
       ·simp only [putAll, Act.put, List.setIfInBounds_toArray, List.set_cons_zero, List.set_cons_succ]
        rfl
       refine one_ (i := 7) (N := some 10) #[T_,T_,T_,T_,T_,T_,T_,T_,T_,T_,T_,F_,F_,F_] rfl rfl (one_of HT_.out (by kernel_rfl)) (by decide) (fun K hK => ?_)
       refine Kd.R_append_rows_step Kd.string (w0 := w) w.heap.size (by rfl) (.tmp 7) (.tmp 9) 23 9 (.string ⟨#[]⟩) 16 rfl Try.underlying23 info9 rfl (by decide) (by omega) v187 y186 l0_1 _ _ _ (fun _ => True) (fun _ => False) rfl rfl ?aO ?aR (fun _ _ h => h) (fun _ h => h.elim) ?aF ?aB ?aS ?aL ?_
       (case aR => exact kc_ (Kd.C_below HR0_1.out HB.out))
       (case aB => exact (hg2_ GE178 GE179))
       (case aF => exact (fun _ _ => trivial))
       (case aO => exact (kr_ HO188))
       (case aS => exact (below_size (hg2_ GE178 GE179)))
       (case aL => have := LMc3.out; omega)
       intro v190 w16 ho hb hg hat
       rw [← Ny189.out] at ho
       have n0_ := ak_ (blk_grown (g := gb178) (o := .cells #[.slice A0_0 l0_0.length c0_0, .slice A0_1 l0_1.length c0_1, .slice A0_2 l0_2.length c0_2] 31 (0, 0)) (bk_ BK178) hg (Kd.R_ne HO188.out BK178.out (by decide)))
       have n1_ := ak_ (blk_grown (g := gb179) (o := .cells #[.slice none 0 0, .slice none 0 0, .slice none 0 0] 31 (0, 0)) (bk_ BK179) hg (Kd.R_ne HO188.out BK179.out (by decide)))
       have n2_ := ak_ (Kd.R_over' (kr_ HO185) (Kd.R_typed (kr_ HO188)) (by decide) hg)
       have n3_ := ak_ (Kd.R_over' (kr_ HO194) (Kd.R_typed (kr_ HO188)) (by decide) hg)
       have n4_ := ak_ (hb)
       have n5_ := ak_ (ho)
       clear BK178
       clear BK179
       clear HO185
       clear HO194
       clear HB
       clear HO188
       have BK178 := n0_
       have BK179 := n1_
       have HO185 := n2_
       have HO194 := n3_
       have HB := n4_
       have HO191 := n5_
       clear n0_ n1_ n2_ n3_ n4_ n5_
       clear ho hb hg hat
       refine hK.out _ _ ⟨(blk_cell BK178.out 0).trans rfl, (blk_cell BK178.out 1).trans rfl, (blk_cell BK178.out 2).trans rfl⟩ (fun hHeld => ?_)
       clear hK K
       refine norm_ (a' := ?_) ?_ ?_
       rotate_left
       ·show Act.put _ (some 10) _ = _
        simp only [Act.put, sT_, s0_, sS_, i64_w, i32_w]
        rfl
       exact norm_ (by first | (simp only [putAll, Act.put, List.setIfInBounds_toArray, List.set_cons_zero, List.set_cons_succ]; done) | (simp only [putAll, Act.put, List.setIfInBounds_toArray, List.set_cons_zero, List.set_cons_succ]; rfl)) (hJ0_3_4_7_8 (v181, v184, v187, v190, v193) _ ⟨hHeld, (kr_ HO185), (kr_ HO191), (kr_ HO194), (bk_ BK178), (bk_ BK179), (hg2_ GE178 GE179)⟩)
     ·skip
      rintro ⟨v181, v184, v187, v190⟩ w14 ⟨hS_, h0_, h1_, h2_, h3_, h4_⟩
      have n0_ : Aside0 (Kd.R k91 91 w14 w.heap.size (fun _ => True) v184 y183) := ⟨h0_⟩
      have n1_ : Aside0 (Kd.R Kd.string 9 w14 w.heap.size (fun _ => True) v190 y189) := ⟨h1_⟩
      have n2_ : Aside0 (w14.heap[gb178]? = some (.cells #[.slice A0_0 l0_0.length c0_0, .slice A0_1 l0_1.length c0_1, .slice A0_2 l0_2.length c0_2] 31 (0, 0))) := ⟨h2_⟩
      have n3_ : Aside0 (w14.heap[gb179]? = some (.cells #[.slice none 0 0, .slice none 0 0, .slice none 0 0] 31 (0, 0))) := ⟨h3_⟩
      have n4_ : Aside0 (Below w.heap.size w w14) := ⟨h4_⟩
      clear BK178
      clear BK179
      clear HB
      clear h0_ h1_ h2_ h3_ h4_
      have HO185 := n0_
      have HO191 := n1_
      have BK178 := n2_
      have BK179 := n3_
      have HB := n4_
      clear n0_ n1_ n2_ n3_ n4_
      have hHeld : w14.cell? ⟨gb178, 0, none⟩ = some (.slice A0_0 l0_0.length c0_0) ∧ w14.cell? ⟨gb178, 1, none⟩ = some (.slice A0_1 l0_1.length c0_1) ∧ w14.cell? ⟨gb178, 2, none⟩ = some (.slice A0_2 l0_2.length c0_2) := hS_
      refine norm_ (a' := ?_) ?_ ?_
      rotate_left
      ·simp only [putAll, Act.put, List.setIfInBounds_toArray, List.set_cons_zero, List.set_cons_succ]
       rfl
      refine one_ (i := 8) (N := some 11) #[T_,T_,T_,T_,T_,T_,T_,T_,T_,T_,T_,F_,F_,F_] rfl rfl (one_of HT_.out (by kernel_rfl)) (by decide) (fun K hK => ?_)
      refine Kd.R_lit_step k41 _ 41 ?hg (N := 11) ?hd (xs := ([] : List (S41))) (inner := []) (ok := fun _ => True) (okp := fun _ => True) ?hr ?hp (fun _ hk => hk) trivial (Below.refl _ _) (Nat.le_refl _) (by simp) ?_; (case hd => rfl); (case hg => rfl); (case hr => first | (go_simp; done) | (go_simp; rfl)); (case hp => exact (Reps.none _ _))
      intro v193 w15 ho16 hb hg_ hnew_
      clear hg_ hnew_
      (first | rw [← Ny192.out] at ho16 | (simp only [Int.reduceToNat] at ho16; rw [← Ny192.out] at ho16))
      have n0_ := ak_ (Kd.R_below (kr_ HO185) hb)
      have n1_ := ak_ (Kd.R_below (kr_ HO191) hb)
      have n2_ := ak_ (Kd.R_lower ho16 (below_size (hg2_ GE178 GE179)))
      have n3_ := ak_ (blk_below (g := gb178) (o := .cells #[.slice A0_0 l0_0.length c0_0, .slice A0_1 l0_1.length c0_1, .slice A0_2 l0_2.length c0_2] 31 (0, 0)) (bk_ BK178) hb)
      have n4_ := ak_ (blk_below (g := gb179) (o := .cells #[.slice none 0 0, .slice none 0 0, .slice none 0 0] 31 (0, 0)) (bk_ BK179) hb)
      have n5_ := ak_ (below_step (hg2_ GE178 GE179) hb)
      clear HO185
      clear HO191
      clear BK178
      clear BK179
      clear HB
      have HO185 := n0_
      have HO191 := n1_
      have HO194 := n2_
      have BK178 := n3_
      have BK179 := n4_
      have HB := n5_
      clear n0_ n1_ n2_ n3_ n4_ n5_
      clear hb ho16
      refine hK.out _ _ ⟨(blk_cell BK178.out 0).trans rfl, (blk_cell BK178.out 1).trans rfl, (blk_cell BK178.out 2).trans rfl⟩ (fun hHeld => ?_)
      clear hK K
      refine norm_ (a' := ?_) ?_ ?_
      rotate_left
      ·show Act.put _ (some 11) _ = _
       simp only [Act.put, sT_, s0_, sS_, i64_w, i32_w]
       rfl
      exact norm_ (by first | (simp only [putAll, Act.put, List.setIfInBounds_toArray, List.set_cons_zero, List.set_cons_succ]; done) | (simp only [putAll, Act.put, List.setIfInBounds_toArray, List.set_cons_zero, List.set_cons_succ]; rfl)) (hJ0_3_4_7_8 (v181, v184, v187, v190, v193) _ ⟨hHeld, (kr_ HO185), (kr_ HO191), (kr_ HO194), (bk_ BK178), (bk_ BK179), (hg2_ GE178 GE179)⟩)
    rintro ⟨v181, v184, v187, v190, v193⟩ w16 ⟨hS_, h0_, h1_, h2_, h3_, h4_, h5_⟩
    have n0_ : Aside0 (Kd.R k91 91 w16 w.heap.size (fun _ => True) v184 y183) := ⟨h0_⟩
    have n1_ : Aside0 (Kd.R Kd.string 9 w16 w.heap.size (fun _ => True) v190 y189) := ⟨h1_⟩
    have n2_ : Aside0 (Kd.R k41 41 w16 w.heap.size (fun _ => True) v193 y192) := ⟨h2_⟩
    have n3_ : Aside0 (w16.heap[gb178]? = some (.cells #[.slice A0_0 l0_0.length c0_0, .slice A0_1 l0_1.length c0_1, .slice A0_2 l0_2.length c0_2] 31 (0, 0))) := ⟨h3_⟩
    have n4_ : Aside0 (w16.heap[gb179]? = some (.cells #[.slice none 0 0, .slice none 0 0, .slice none 0 0] 31 (0, 0))) := ⟨h4_⟩
    have n5_ : Aside0 (Below w.heap.size w w16) := ⟨h5_⟩
    clear BK178
    clear BK179
    clear HB
    clear h0_ h1_ h2_ h3_ h4_ h5_
    have HO185 := n0_
    have HO191 := n1_
    have HO194 := n2_
    have BK178 := n3_
    have BK179 := n4_
    have HB := n5_
    clear n0_ n1_ n2_ n3_ n4_ n5_
    have hHeld : w16.cell? ⟨gb178, 0, none⟩ = some (.slice A0_0 l0_0.length c0_0) ∧ w16.cell? ⟨gb178, 1, none⟩ = some (.slice A0_1 l0_1.length c0_1) ∧ w16.cell? ⟨gb178, 2, none⟩ = some (.slice A0_2 l0_2.length c0_2) := hS_
    refine norm_ (a' := ?_) ?_ ?_
    rotate_left
    ·simp only [putAll, Act.put, List.setIfInBounds_toArray, List.set_cons_zero, List.set_cons_succ]
     rfl
    refine one_ (i := 11) (N := some 14) #[T_,T_,T_,T_,T_,T_,T_,T_,T_,T_,T_,T_,F_,F_] rfl rfl (one_of HT_.out (by kernel_rfl)) (by decide) (fun K hK => ?_)
    refine Kd.R_append_rows_step k41 (w0 := w) w.heap.size (by rfl) (.tmp 11) (.tmp 13) 29 41 (.agg #[(.string ⟨#[]⟩), (.string ⟨#[]⟩), (.int .i64 0)]) 40 rfl Try.underlying29 info41 rfl (by decide) (by omega) v193 y192 l0_2 _ _ _ (fun _ => True) (fun _ => False) rfl rfl ?aO ?aR (fun _ _ h => h) (fun _ h => h.elim) ?aF ?aB ?aS ?aL ?_
    (case aR => exact kc_ (Kd.C_below HR0_2.out HB.out))
    (case aB => exact (hg2_ GE178 GE179))
    (case aF => exact (fun _ _ => trivial))
    (case aO => exact (kr_ HO194))
    (case aS => exact (below_size (hg2_ GE178 GE179)))
    (case aL => have := LMc4.out; omega)
    intro v196 w17 ho hb hg hat
    rw [← Ny195.out] at ho
    have n0_ := ak_ (blk_grown (g := gb178) (o := .cells #[.slice A0_0 l0_0.length c0_0, .slice A0_1 l0_1.length c0_1, .slice A0_2 l0_2.length c0_2] 31 (0, 0)) (bk_ BK178) hg (Kd.R_ne HO194.out BK178.out (by decide)))
    have n1_ := ak_ (blk_grown (g := gb179) (o := .cells #[.slice none 0 0, .slice none 0 0, .slice none 0 0] 31 (0, 0)) (bk_ BK179) hg (Kd.R_ne HO194.out BK179.out (by decide)))
    have n2_ := ak_ (Kd.R_over' (kr_ HO185) (Kd.R_typed (kr_ HO194)) (by decide) hg)
    have n3_ := ak_ (Kd.R_over' (kr_ HO191) (Kd.R_typed (kr_ HO194)) (by decide) hg)
    have n4_ := ak_ (hb)
    have n5_ := ak_ (ho)
    clear BK178
    clear BK179
    clear HO185
    clear HO191
    clear HB
    clear HO194
    have BK178 := n0_
    have BK179 := n1_
    have HO185 := n2_
    have HO191 := n3_
    have HB := n4_
    have HO197 := n5_
    clear n0_ n1_ n2_ n3_ n4_ n5_
    clear ho hb hg hat
    obtain ⟨Ao18, co18, eo18⟩ := Kd.R_slice HO197.out
    (first | subst eo18 | (injection eo18 with f1_ f2_ f3_; have f4_ := f1_.symm; have f5_ := f3_.symm; clear f1_ f2_ f3_; subst f4_; subst f5_))
    obtain ⟨Ao19, co19, eo19⟩ := Kd.R_slice HO191.out
    (first | subst eo19 | (injection eo19 with f1_ f2_ f3_; have f4_ := f1_.symm; have f5_ := f3_.symm; clear f1_ f2_ f3_; subst f4_; subst f5_))
    obtain ⟨Ao20, co20, eo20⟩ := Kd.R_slice HO185.out
    (first | subst eo20 | (injection eo20 with f1_ f2_ f3_; have f4_ := f1_.symm; have f5_ := f3_.symm; clear f1_ f2_ f3_; subst f4_; subst f5_))
    refine hK.out _ _ ⟨(blk_cell BK178.out 0).trans rfl, (blk_cell BK178.out 1).trans rfl, (blk_cell BK178.out 2).trans rfl⟩ (fun hHeld => ?_)
    clear hK K
    refine norm_ (a' := ?_) ?_ ?_
    rotate_left
    ·show Act.put _ (some 14) _ = _
     simp only [Act.put, sT_, s0_, sS_, i64_w, i32_w]
     rfl
    refine pv (i := 12) (N := some 15) HT_ ?_
    refine one_ (i := 13) (N := none) #[T_,T_,T_,T_,T_,T_,T_,T_,T_,T_,T_,T_,T_,T_] rfl rfl (one_of HT_.out (by kernel_rfl)) (by decide) (fun K hK => ?_)
    have hs21 : w17.cell? ⟨gb179, 0, none⟩ = some (.slice none 0 0) := (blk_cell BK179.out 0).trans rfl
    have hfs21 := blk_frozen BK179.out 0
    have hns21_0 := NB178_179.out
    have hms21_0 := NB179_178.out
    have hs22 : w17.cell? ⟨gb179, 1, none⟩ = some (.slice none 0 0) := (blk_cell BK179.out 1).trans rfl
    have hfs22 := blk_frozen BK179.out 1
    have hns22_0 := NB178_179.out
    have hms22_0 := NB179_178.out
    have hs23 : w17.cell? ⟨gb179, 2, none⟩ = some (.slice none 0 0) := (blk_cell BK179.out 2).trans rfl
    have hfs23 := blk_frozen BK179.out 2
    have hns23_0 := NB178_179.out
    have hms23_0 := NB179_178.out
    refine skip_ (w1 := ?_) (by rfl) rfl ?_ ?_
    rotate_left
    ·go_simp
     rfl
    refine hK.out _ _ ⟨((cell_far (p := ⟨gb179, _, none⟩) NB178_179.out _).trans (((cell_far (p := ⟨gb179, _, none⟩) NB178_179.out _).trans (((cell_far (p := ⟨gb179, _, none⟩) NB178_179.out _).trans (hHeld.1)))))), ((cell_far (p := ⟨gb179, _, none⟩) NB178_179.out _).trans (((cell_far (p := ⟨gb179, _, none⟩) NB178_179.out _).trans (((cell_far (p := ⟨gb179, _, none⟩) NB178_179.out _).trans (hHeld.2.1)))))), ((cell_far (p := ⟨gb179, _, none⟩) NB178_179.out _).trans (((cell_far (p := ⟨gb179, _, none⟩) NB178_179.out _).trans (((cell_far (p := ⟨gb179, _, none⟩) NB178_179.out _).trans (hHeld.2.2))))))⟩ (fun hHeld => ?_)
    clear hK K
    refine done_ (done_of HT_.out (by kernel_rfl)) ?_
    try go_wp2
    refine bodyPost_ret (results_cell_row rfl _ _ gb179 31 #[.slice Ao20 y183.length co20, .slice Ao19 y189.length co19, .slice Ao18 y195.length co18] (0, 0) _ rfl (by (with_reducible repeat (first | refine blk_drewN ?_ _ | refine blk_drew ?_ | refine blk_alloc ?_ _)); refine blk_put (cs := #[.slice Ao20 y183.length co20, .slice Ao19 y189.length co19, .slice none 0 0]) ?_ 2 _ rfl; (with_reducible repeat (first | refine blk_drewN ?_ _ | refine blk_drew ?_ | refine blk_alloc ?_ _)); refine blk_put (cs := #[.slice Ao20 y183.length co20, .slice none 0 0, .slice none 0 0]) ?_ 1 _ rfl; (with_reducible repeat (first | refine blk_drewN ?_ _ | refine blk_drew ?_ | refine blk_alloc ?_ _)); refine blk_put (cs := #[.slice none 0 0, .slice none 0 0, .slice none 0 0]) ?_ 0 _ rfl; (with_reducible repeat (first | refine blk_drewN ?_ _ | refine blk_drew ?_ | refine blk_alloc ?_ _)); exact BK179.out) Try.underlying31 rfl (by kernel_rfl)) rfl ?_
    exact ⟨_, _, _, ew_, by (with_reducible repeat (first | apply Kd.R_alloc | apply Kd.R_drewN | apply Kd.R_drew)); exact Kd.R_mono (Kd.R_far (p := ⟨gb179, 2, none⟩) (Kd.R_far (p := ⟨gb179, 1, none⟩) (Kd.R_far (p := ⟨gb179, 0, none⟩) (Kd.R_types HO185.out BK179.out (by decide)) (fun _ hk => hk.2) (.slice Ao20 y183.length co20)) (fun _ hk => hk.2) (.slice Ao19 y189.length co19)) (fun _ hk => hk.2) (.slice Ao18 y195.length co18)) (fun _ hk => trivial), by (with_reducible repeat (first | apply Kd.R_alloc | apply Kd.R_drewN | apply Kd.R_drew)); exact Kd.R_mono (Kd.R_far (p := ⟨gb179, 2, none⟩) (Kd.R_far (p := ⟨gb179, 1, none⟩) (Kd.R_far (p := ⟨gb179, 0, none⟩) (Kd.R_types HO191.out BK179.out (by decide)) (fun _ hk => hk.2) (.slice Ao20 y183.length co20)) (fun _ hk => hk.2) (.slice Ao19 y189.length co19)) (fun _ hk => hk.2) (.slice Ao18 y195.length co18)) (fun _ hk => trivial), by (with_reducible repeat (first | apply Kd.R_alloc | apply Kd.R_drewN | apply Kd.R_drew)); exact Kd.R_mono (Kd.R_far (p := ⟨gb179, 2, none⟩) (Kd.R_far (p := ⟨gb179, 1, none⟩) (Kd.R_far (p := ⟨gb179, 0, none⟩) (Kd.R_types HO197.out BK179.out (by decide)) (fun _ hk => hk.2) (.slice Ao20 y183.length co20)) (fun _ hk => hk.2) (.slice Ao19 y189.length co19)) (fun _ hk => hk.2) (.slice Ao18 y195.length co18)) (fun _ hk => trivial), (hg2_ GE178 GE179)⟩
   ·rw [if_neg c4] at H
    exact absurd H (by simp)
  ·rw [if_neg c3] at H
   exact absurd H (by simp)
 ·rw [if_neg c2] at H
  exact absurd H (by simp)

/-! ### impl_CastOff: function 8 -/
def impl_CastOff.f (k : Nat) (l0_0 : List (S91)) (l0_1 : List ByteArray) (l0_2 : List (S41)) (a1 : ByteArray) : Option ((List (S91)) × List ByteArray × (List (S41)) × Int) := (impl_ValidRig.f k l0_0 l0_1 l0_2).bind fun t200 => (if t200 = true then ((slices_Contains_string_string.f k l0_1 a1).bind fun t201 => (if t201 = true then ((impl_belayOf.f l0_0 l0_1 l0_2 a1).bind fun t202 => (if t202 < 0 then (some (([] : List (S91)), ([] : List ByteArray), ([] : List (S41)), 10)) else ((impl_copyRig.f l0_0 l0_1 l0_2).bind fun bt203 => (if 0 ≤ t202 then (if t202 ≤ (bt203.2.2.length : Int) then (if 0 ≤ (wrap64 (t202 + 1)) then (if (wrap64 (t202 + 1)) ≤ (bt203.2.2.length : Int) then (some (bt203.1, bt203.2.1, (bt203.2.2.eraseIdx (t202 : Int).toNat), 0)) else (none)) else (none)) else (none)) else (none))))) else (some (([] : List (S91)), ([] : List ByteArray), ([] : List (S41)), 2)))) else (some (([] : List (S91)), ([] : List ByteArray), ([] : List (S41)), 1)))
def impl_CastOff.T9 : Bool × List (List Nat × List Nat) := (true, [([], []), ([0], [0]), ([], []), ([1, 2], [1, 2]), ([], []), ([4], [4]), ([], []), ([6], [6]), ([5, 7], [5, 7]), ([3, 8], [3, 8]), ([0, 1, 2, 3, 4, 5, 6, 7, 8, 9], []), ([10, 9, 9, 0, 1, 2, 3, 4, 5, 6, 7, 8, 9], [9, 10])])
def impl_CastOff.B9 : List Nat := [0, 1, 0, 7, 0, 16, 0, 64, 240, 511, 1023, 2047]
theorem impl_CastOff.tab9 : rtab .any (opsOf Try.f8 9) = impl_CastOff.T9 := by kernel_rfl
theorem impl_CastOff.bits9 : waitsOk impl_CastOff.T9.2 impl_CastOff.B9 = true := by kernel_rfl
set_option maxHeartbeats 8000000 in
set_option maxRecDepth 100000 in
theorem impl_CastOff.calls (k : Nat) (A0_0 : Option Addr) (c0_0 : Nat) (l0_0 : List (S91)) (A0_1 : Option Addr) (c0_1 : Nat) (l0_1 : List ByteArray) (A0_2 : Option Addr) (c0_2 : Nat) (l0_2 : List (S41)) (a1 : ByteArray) (r1 : List (S91)) (r2 : List ByteArray) (r3 : List (S41)) (r4 : Int) (w : World) (hr0_0 : Kd.C k91 w A0_0 l0_0.length l0_0) (hc0_0 : l0_0.length ≤ c0_0) (hr0_1 : Kd.C Kd.string w A0_1 l0_1.length l0_1) (hc0_1 : l0_1.length ≤ c0_1) (hr0_2 : Kd.C k41 w A0_2 l0_2.length l0_2) (hc0_2 : l0_2.length ≤ c0_2) (h : impl_CastOff.f k l0_0 l0_1 l0_2 a1 = some (r1, r2, r3, r4)) :
  Calls Try.prog 8 #[.agg #[.slice A0_0 l0_0.length c0_0, .slice A0_1 l0_1.length c0_1, .slice A0_2 l0_2.length c0_2], .string a1] w fun e w' => ∃ v0_ v1_ v2_ : Value, e = .returned (.tuple #[.agg #[v0_, v1_, v2_], .int .i64 r4]) ∧ Kd.R k91 91 w' w.heap.size (fun _ => True) v0_ r1 ∧ Kd.R Kd.string 9 w' w.heap.size (fun _ => True) v1_ r2 ∧ Kd.R k41 41 w' w.heap.size (fun _ => True) v2_ r3 ∧ Below w.heap.size w w' := by
 have hu31 := Try.underlying31
 have HR0_0 := ak_ hr0_0
 have HC0_0 := ak_ hc0_0
 clear hr0_0 hc0_0
 have HR0_1 := ak_ hr0_1
 have HC0_1 := ak_ hc0_1
 clear hr0_1 hc0_1
 have HR0_2 := ak_ hr0_2
 have HC0_2 := ak_ hc0_2
 clear hr0_2 hc0_2
 have HB := ak_ (Below.refl w.heap.size w)
 have H : ((impl_ValidRig.f k l0_0 l0_1 l0_2).bind fun t200 => (if t200 = true then ((slices_Contains_string_string.f k l0_1 a1).bind fun t201 => (if t201 = true then ((impl_belayOf.f l0_0 l0_1 l0_2 a1).bind fun t202 => (if t202 < 0 then (some (([] : List (S91)), ([] : List ByteArray), ([] : List (S41)), 10)) else ((impl_copyRig.f l0_0 l0_1 l0_2).bind fun bt203 => (if 0 ≤ t202 then (if t202 ≤ (bt203.2.2.length : Int) then (if 0 ≤ (wrap64 (t202 + 1)) then (if (wrap64 (t202 + 1)) ≤ (bt203.2.2.length : Int) then (some (bt203.1, bt203.2.1, (bt203.2.2.eraseIdx (t202 : Int).toNat), 0)) else (none)) else (none)) else (none)) else (none))))) else (some (([] : List (S91)), ([] : List ByteArray), ([] : List (S41)), 2)))) else (some (([] : List (S91)), ([] : List ByteArray), ([] : List (S41)), 1)))) = some (r1, r2, r3, r4) := h
 clear h
 replace H := ob_ H
 obtain ⟨t200, A30, H⟩ := H
 (try dsimp only at H)
 have A3 := ak_ A30
 clear A30
 by_cases c4 : t200 = true
 ·subst c4
  have H1 : ((slices_Contains_string_string.f k l0_1 a1).bind fun t201 => (if t201 = true then ((impl_belayOf.f l0_0 l0_1 l0_2 a1).bind fun t202 => (if t202 < 0 then (some (([] : List (S91)), ([] : List ByteArray), ([] : List (S41)), 10)) else ((impl_copyRig.f l0_0 l0_1 l0_2).bind fun bt203 => (if 0 ≤ t202 then (if t202 ≤ (bt203.2.2.length : Int) then (if 0 ≤ (wrap64 (t202 + 1)) then (if (wrap64 (t202 + 1)) ≤ (bt203.2.2.length : Int) then (some (bt203.1, bt203.2.1, (bt203.2.2.eraseIdx (t202 : Int).toNat), 0)) else (none)) else (none)) else (none)) else (none))))) else (some (([] : List (S91)), ([] : List ByteArray), ([] : List (S41)), 2)))) = some (r1, r2, r3, r4) := by rw [if_pos rfl] at H; exact H
  clear H
  have H := H1
  clear H1
  replace H := ob_ H
  obtain ⟨t201, A50, H⟩ := H
  (try dsimp only at H)
  have A5 := ak_ A50
  clear A50
  by_cases c6 : t201 = true
  ·subst c6
   have H1 : ((impl_belayOf.f l0_0 l0_1 l0_2 a1).bind fun t202 => (if t202 < 0 then (some (([] : List (S91)), ([] : List ByteArray), ([] : List (S41)), 10)) else ((impl_copyRig.f l0_0 l0_1 l0_2).bind fun bt203 => (if 0 ≤ t202 then (if t202 ≤ (bt203.2.2.length : Int) then (if 0 ≤ (wrap64 (t202 + 1)) then (if (wrap64 (t202 + 1)) ≤ (bt203.2.2.length : Int) then (some (bt203.1, bt203.2.1, (bt203.2.2.eraseIdx (t202 : Int).toNat), 0)) else (none)) else (none)) else (none)) else (none))))) = some (r1, r2, r3, r4) := by rw [if_pos rfl] at H; exact H
   clear H
   have H := H1
   clear H1
   replace H := ob_ H
   obtain ⟨t202, A70, H⟩ := H
   (try dsimp only at H)
   have A7 := ak_ A70
   clear A70
   by_cases c8 : t202 < 0
   ·rw [if_pos c8] at H
    have c8b0 : decide (t202 < 0) = true := dt_ c8
    clear c8
    simp only [Option.some.injEq, Prod.mk.injEq] at H
    obtain ⟨rfl, rfl, rfl, rfl⟩ := H
    go_enter Try.func8, Try.ntmps8
    go_wp2_with (first | ((with_reducible refine gate_dst (N := 2) rfl ?_); refine box_event ?hg (N := 2) ?hd (cs := #[.slice A0_0 l0_0.length c0_0, .slice A0_1 l0_1.length c0_1, .slice A0_2 l0_2.length c0_2]) (t := 31) ?hr ?_; (case hd => rfl); (case hg => rfl); (case hr => first | (go_simp; done) | (go_simp; rfl)); intro gb198 hg w9 hbox hb; have BK198 := ak_ (hbox); have GW198 := ak_ ((by rw [hg]; exact (below_size hb_) : w.heap.size ≤ gb198)); have GE198 := ak_ ((by rw [hg]; exact (below_size hb_) : w.heap.size ≤ gb198)); replace HB := ak_ (below_step hb_ hb); skip; clear hb hbox hg) | ((with_reducible refine gate_dst (N := 4) rfl ?_); refine box_event ?hg (N := 4) ?hd (cs := #[.slice none 0 0, .slice none 0 0, .slice none 0 0]) (t := 31) ?hr ?_; (case hd => rfl); (case hg => rfl); (case hr => first | (go_simp; done) | (go_simp; rfl)); intro gb199 hg w10 hbox hb; have BK199 := ak_ (hbox); have GW199 := ak_ ((by rw [hg]; exact (below_size (hg_ GE198)) : w.heap.size ≤ gb199)); have GE199 := ak_ ((by rw [hg]; exact (below_size (hg_ GE198)) : w.heap.size ≤ gb199)); replace HB := ak_ (below_step (hg_ GE198) hb); have NB198_199 := ak_ ((by rw [hg]; exact Nat.ne_of_lt (blk_lt (g := gb198) (o := .cells #[.slice A0_0 l0_0.length c0_0, .slice A0_1 l0_1.length c0_1, .slice A0_2 l0_2.length c0_2] 31 (0, 0)) (bk_ BK198)) : gb198 ≠ gb199)); have NB199_198 := ak_ ((by rw [hg]; exact Nat.ne_of_gt (blk_lt (g := gb198) (o := .cells #[.slice A0_0 l0_0.length c0_0, .slice A0_1 l0_1.length c0_1, .slice A0_2 l0_2.length c0_2] 31 (0, 0)) (bk_ BK198)) : gb199 ≠ gb198)); replace BK198 := ak_ (blk_below (g := gb198) (o := .cells #[.slice A0_0 l0_0.length c0_0, .slice A0_1 l0_1.length c0_1, .slice A0_2 l0_2.length c0_2] 31 (0, 0)) (bk_ BK198) hb); skip; clear hb hbox hg; have hnb11 := NB198_199.out; have hnc11 := NB199_198.out; have hcz12_0 : w10.cell? ⟨gb198, 0, none⟩ = some (.slice A0_0 l0_0.length c0_0) := (blk_cell BK198.out 0).trans rfl; have hcz12_1 : w10.cell? ⟨gb198, 1, none⟩ = some (.slice A0_1 l0_1.length c0_1) := (blk_cell BK198.out 1).trans rfl; have hcz12_2 : w10.cell? ⟨gb198, 2, none⟩ = some (.slice A0_2 l0_2.length c0_2) := (blk_cell BK198.out 2).trans rfl; have hfz12_0 := blk_frozen BK198.out 0; have hfz12_1 := blk_frozen BK198.out 1; have hfz12_2 := blk_frozen BK198.out 2) | ((with_reducible refine gate_callee (f := 34) rfl ?_); refine goesL_ (some 9) rfl rfl Try.func34 (by kernel_rfl) rfl #[.agg #[.slice A0_0 l0_0.length c0_0, .slice A0_1 l0_1.length c0_1, .slice A0_2 l0_2.length c0_2]] rfl ln_ ?_; (with_reducible refine (impl_ValidRig.calls k _ _ l0_0 _ _ l0_1 _ _ l0_2 true _ (kc_ (Kd.C_below HR0_0.out HB.out)) HC0_0.out (kc_ (Kd.C_below HR0_1.out HB.out)) HC0_1.out (kc_ (Kd.C_below HR0_2.out HB.out)) HC0_2.out A3.out).mono ?_); rintro e w13 ⟨rfl, hb⟩; refine ⟨_, rfl, ?_⟩; replace BK198 := ak_ (blk_below (g := gb198) (o := .cells #[.slice A0_0 l0_0.length c0_0, .slice A0_1 l0_1.length c0_1, .slice A0_2 l0_2.length c0_2] 31 (0, 0)) (bk_ BK198) hb); replace BK199 := ak_ (blk_below (g := gb199) (o := .cells #[.slice none 0 0, .slice none 0 0, .slice none 0 0] 31 (0, 0)) (bk_ BK199) hb); replace HB := ak_ (below_step (hg2_ GE198 GE199) hb); skip; (try clear hb); (try clear hb2); (try clear hk); (try clear hi); have hcz14_0 : w13.cell? ⟨gb198, 0, none⟩ = some (.slice A0_0 l0_0.length c0_0) := (blk_cell BK198.out 0).trans rfl; have hcz14_1 : w13.cell? ⟨gb198, 1, none⟩ = some (.slice A0_1 l0_1.length c0_1) := (blk_cell BK198.out 1).trans rfl; have hcz14_2 : w13.cell? ⟨gb198, 2, none⟩ = some (.slice A0_2 l0_2.length c0_2) := (blk_cell BK198.out 2).trans rfl; have hfz14_0 := blk_frozen BK198.out 0; have hfz14_1 := blk_frozen BK198.out 1; have hfz14_2 := blk_frozen BK198.out 2) | ((with_reducible refine gate_callee (f := 43) rfl ?_); refine goesL_ (some 15) rfl rfl Try.func43 (by kernel_rfl) rfl #[.slice A0_1 l0_1.length c0_1, .string a1] rfl ln_ ?_; (with_reducible refine (slices_Contains_string_string.calls k _ _ l0_1 a1 true _ (kc_ (Kd.C_below HR0_1.out HB.out)) HC0_1.out A5.out).mono ?_); rintro e w' ⟨rfl, ⟨nd, rfl⟩⟩; refine ⟨_, rfl, ?_⟩; (try (rw [drewN_self w13]; generalize hq_ : World.drewN w13 _ = w13; have n0_ : Aside0 (w13.heap[gb198]? = some (.cells #[.slice A0_0 l0_0.length c0_0, .slice A0_1 l0_1.length c0_1, .slice A0_2 l0_2.length c0_2] 31 (0, 0))) := ⟨by rw [← hq_]; exact (bk_ BK198)⟩; have n1_ : Aside0 (w13.heap[gb199]? = some (.cells #[.slice none 0 0, .slice none 0 0, .slice none 0 0] 31 (0, 0))) := ⟨by rw [← hq_]; exact (bk_ BK199)⟩; have n2_ : Aside0 (Below w.heap.size w w13) := ⟨by rw [← hq_]; exact (hg2_ GE198 GE199)⟩; clear BK198 BK199 HB hq_; have BK198 := n0_; have BK199 := n1_; have HB := n2_; clear n0_ n1_ n2_; have hcy0 : w13.cell? ⟨gb198, 0, none⟩ = some (.slice A0_0 l0_0.length c0_0) := (blk_cell BK198.out 0).trans rfl; have hcy1 : w13.cell? ⟨gb198, 1, none⟩ = some (.slice A0_1 l0_1.length c0_1) := (blk_cell BK198.out 1).trans rfl; have hcy2 : w13.cell? ⟨gb198, 2, none⟩ = some (.slice A0_2 l0_2.length c0_2) := (blk_cell BK198.out 2).trans rfl))) | ((with_reducible refine gate_callee (f := 44) rfl ?_); refine goesL_ (some 20) rfl rfl Try.func44 (by kernel_rfl) rfl #[.agg #[.slice A0_0 l0_0.length c0_0, .slice A0_1 l0_1.length c0_1, .slice A0_2 l0_2.length c0_2], .string a1] rfl ln_ ?_; (with_reducible refine (impl_belayOf.calls _ _ l0_0 _ _ l0_1 _ _ l0_2 a1 t202 _ (kc_ (Kd.C_below HR0_0.out HB.out)) HC0_0.out (kc_ (Kd.C_below HR0_1.out HB.out)) HC0_1.out (kc_ (Kd.C_below HR0_2.out HB.out)) HC0_2.out A7.out).mono ?_); rintro e w15 ⟨rfl, hb⟩; refine ⟨_, rfl, ?_⟩; replace BK198 := ak_ (blk_below (g := gb198) (o := .cells #[.slice A0_0 l0_0.length c0_0, .slice A0_1 l0_1.length c0_1, .slice A0_2 l0_2.length c0_2] 31 (0, 0)) (bk_ BK198) hb); replace BK199 := ak_ (blk_below (g := gb199) (o := .cells #[.slice none 0 0, .slice none 0 0, .slice none 0 0] 31 (0, 0)) (bk_ BK199) hb); replace HB := ak_ (below_step (hg2_ GE198 GE199) hb); skip; (try clear hb); (try clear hb2); (try clear hk); (try clear hi); have hcz16_0 : w15.cell? ⟨gb199, 0, none⟩ = some (.slice none 0 0) := (blk_cell BK199.out 0).trans rfl; have hcz16_1 : w15.cell? ⟨gb199, 1, none⟩ = some (.slice none 0 0) := (blk_cell BK199.out 1).trans rfl; have hcz16_2 : w15.cell? ⟨gb199, 2, none⟩ = some (.slice none 0 0) := (blk_cell BK199.out 2).trans rfl; have hfz16_0 := blk_frozen BK199.out 0; have hfz16_1 := blk_frozen BK199.out 1; have hfz16_2 := blk_frozen BK199.out 2))
    refine bodyPost_ret (results_ct rfl _ _ gb199 31 #[.slice none 0 0, .slice none 0 0, .slice none 0 0] (0, 0) _ rfl (by (with_reducible repeat (first | refine blk_drewN ?_ _ | refine blk_drew ?_ | refine blk_alloc ?_ _)); refine blk_put (cs := #[.slice none 0 0, .slice none 0 0, .slice none 0 0]) ?_ 2 _ rfl; (with_reducible repeat (first | refine blk_drewN ?_ _ | refine blk_drew ?_ | refine blk_alloc ?_ _)); refine blk_put (cs := #[.slice none 0 0, .slice none 0 0, .slice none 0 0]) ?_ 1 _ rfl; (with_reducible repeat (first | refine blk_drewN ?_ _ | refine blk_drew ?_ | refine blk_alloc ?_ _)); refine blk_put (cs := #[.slice none 0 0, .slice none 0 0, .slice none 0 0]) ?_ 0 _ rfl; (with_reducible repeat (first | refine blk_drewN ?_ _ | refine blk_drew ?_ | refine blk_alloc ?_ _)); exact BK199.out) Try.underlying31 rfl (by kernel_rfl)) rfl ?_
    exact ⟨_, _, _, ew_, by first | exact Kd.R_nil _ _ _ _ _ | exact Kd.N_nil _ _ _ _ _ | exact Kd.V_nil _ _ _ _ _ | exact Kd.Q_nil _ _ _ _ _ | exact Kd.S_nil _ _ _ _ _, by first | exact Kd.R_nil _ _ _ _ _ | exact Kd.N_nil _ _ _ _ _ | exact Kd.V_nil _ _ _ _ _ | exact Kd.Q_nil _ _ _ _ _ | exact Kd.S_nil _ _ _ _ _, by first | exact Kd.R_nil _ _ _ _ _ | exact Kd.N_nil _ _ _ _ _ | exact Kd.V_nil _ _ _ _ _ | exact Kd.Q_nil _ _ _ _ _ | exact Kd.S_nil _ _ _ _ _, (hg2_ GE198 GE199)⟩
   ·rw [if_neg c8] at H
    have c8b0 : decide (t202 < 0) = false := decide_eq_false c8
    clear c8
    replace H := ob_ H
    obtain ⟨⟨t203, t206, t209⟩, A170, H⟩ := H
    (try dsimp only at H)
    have A17 := ak_ A170
    clear A170
    by_cases c18 : 0 ≤ t202
    ·rw [if_pos c18] at H
     have c18b0 := eq_true c18
     have c18b1 : decide (0 ≤ t202) = true := dt_ c18
     clear c18
     by_cases c19 : t202 ≤ (t209.length : Int)
     ·rw [if_pos c19] at H
      have c19b0 := eq_true c19
      have c19b1 : decide (t202 ≤ (t209.length : Int)) = true := dt_ c19
      clear c19
      obtain ⟨y213, hy213⟩ : ∃ y_ : List (S41), y_ = (t209.take (t202 : Int).toNat) := ⟨_, rfl⟩
      replace H : (if 0 ≤ (wrap64 (t202 + 1)) then (if (wrap64 (t202 + 1)) ≤ (t209.length : Int) then (some (t203, t206, (t209.eraseIdx (t202 : Int).toNat), 0)) else (none)) else (none)) = some (r1, r2, r3, r4) := by first | (rw [hy213]; with_reducible exact H) | (have H2_ := (Option.bind_some _ _).symm.trans H; rw [hy213]; with_reducible exact H2_) | (have H2_ := (Option.bind_some _ _).symm.trans H; with_reducible exact H2_) | with_reducible exact H | (rw [hy213]; exact H) | exact H
      have Ny213 := ak_ hy213
      clear hy213
      obtain ⟨ji20, hji20⟩ : ∃ j_ : Int, (wrap64 (t202 + 1)) = j_ := ⟨_, rfl⟩
      replace H : (if 0 ≤ (ji20) then (if (ji20) ≤ (t209.length : Int) then (some (t203, t206, (t209.eraseIdx (t202 : Int).toNat), 0)) else (none)) else (none)) = some (r1, r2, r3, r4) := by first | (rw [hji20] at H; exact H) | (simp only [hji20] at H ⊢; exact H)
      (try rw [hji20] at A3)
      (try rw [hji20] at A5)
      (try rw [hji20] at A7)
      (try rw [hji20] at A17)
      have hji20w : (IntKind.i64.wrap (t202 + 1)) = ji20 := (i64_w _).trans hji20
      by_cases c21 : 0 ≤ (ji20)
      ·rw [if_pos c21] at H
       have c21b0 := eq_true c21
       have c21b1 : decide (0 ≤ (ji20)) = true := dt_ c21
       clear c21
       by_cases c22 : (ji20) ≤ (t209.length : Int)
       ·rw [if_pos c22] at H
        have c22b0 := eq_true c22
        have c22b1 : decide ((ji20) ≤ (t209.length : Int)) = true := dt_ c22
        clear c22
        obtain ⟨y217, hy217⟩ : ∃ y_ : List (S41), y_ = (t209.drop ((ji20) : Int).toNat) := ⟨_, rfl⟩
        replace H : (some (t203, t206, (t209.eraseIdx (t202 : Int).toNat), 0)) = some (r1, r2, r3, r4) := by first | (rw [hy217]; with_reducible exact H) | (have H2_ := (Option.bind_some _ _).symm.trans H; rw [hy217]; with_reducible exact H2_) | (have H2_ := (Option.bind_some _ _).symm.trans H; with_reducible exact H2_) | with_reducible exact H | (rw [hy217]; exact H) | exact H
        have Ny217 := ak_ hy217
        clear hy217
        obtain ⟨y221, hy221⟩ : ∃ y_ : List (S41), y_ = (t209.eraseIdx (t202 : Int).toNat) := ⟨_, rfl⟩
        replace H : (some (t203, t206, y221, 0)) = some (r1, r2, r3, r4) := by first | (rw [hy221]; with_reducible exact H) | (have H2_ := (Option.bind_some _ _).symm.trans H; rw [hy221]; with_reducible exact H2_) | (have H2_ := (Option.bind_some _ _).symm.trans H; with_reducible exact H2_) | with_reducible exact H | (rw [hy221]; exact H) | exact H
        have Ny221 := ak_ hy221
        clear hy221
        simp only [Option.some.injEq, Prod.mk.injEq] at H
        obtain ⟨rfl, rfl, rfl, rfl⟩ := H
        go_enter Try.func8, Try.ntmps8
        try go_wp2_with (first | ((with_reducible refine gate_dst (N := 2) rfl ?_); refine box_event ?hg (N := 2) ?hd (cs := #[.slice A0_0 l0_0.length c0_0, .slice A0_1 l0_1.length c0_1, .slice A0_2 l0_2.length c0_2]) (t := 31) ?hr ?_; (case hd => rfl); (case hg => rfl); (case hr => first | (go_simp; done) | (go_simp; rfl)); intro gb198 hg w23 hbox hb; have BK198 := ak_ (hbox); have GW198 := ak_ ((by rw [hg]; exact (below_size hb_) : w.heap.size ≤ gb198)); have GE198 := ak_ ((by rw [hg]; exact (below_size hb_) : w.heap.size ≤ gb198)); replace HB := ak_ (below_step hb_ hb); skip; clear hb hbox hg) | ((with_reducible refine gate_dst (N := 4) rfl ?_); refine box_event ?hg (N := 4) ?hd (cs := #[.slice none 0 0, .slice none 0 0, .slice none 0 0]) (t := 31) ?hr ?_; (case hd => rfl); (case hg => rfl); (case hr => first | (go_simp; done) | (go_simp; rfl)); intro gb199 hg w24 hbox hb; have BK199 := ak_ (hbox); have GW199 := ak_ ((by rw [hg]; exact (below_size (hg_ GE198)) : w.heap.size ≤ gb199)); have GE199 := ak_ ((by rw [hg]; exact (below_size (hg_ GE198)) : w.heap.size ≤ gb199)); replace HB := ak_ (below_step (hg_ GE198) hb); have NB198_199 := ak_ ((by rw [hg]; exact Nat.ne_of_lt (blk_lt (g := gb198) (o := .cells #[.slice A0_0 l0_0.length c0_0, .slice A0_1 l0_1.length c0_1, .slice A0_2 l0_2.length c0_2] 31 (0, 0)) (bk_ BK198)) : gb198 ≠ gb199)); have NB199_198 := ak_ ((by rw [hg]; exact Nat.ne_of_gt (blk_lt (g := gb198) (o := .cells #[.slice A0_0 l0_0.length c0_0, .slice A0_1 l0_1.length c0_1, .slice A0_2 l0_2.length c0_2] 31 (0, 0)) (bk_ BK198)) : gb199 ≠ gb198)); replace BK198 := ak_ (blk_below (g := gb198) (o := .cells #[.slice A0_0 l0_0.length c0_0, .slice A0_1 l0_1.length c0_1, .slice A0_2 l0_2.length c0_2] 31 (0, 0)) (bk_ BK198) hb); skip; clear hb hbox hg; have hnb25 := NB198_199.out; have hnc25 := NB199_198.out; have hcz26_0 : w24.cell? ⟨gb198, 0, none⟩ = some (.slice A0_0 l0_0.length c0_0) := (blk_cell BK198.out 0).trans rfl; have hcz26_1 : w24.cell? ⟨gb198, 1, none⟩ = some (.slice A0_1 l0_1.length c0_1) := (blk_cell BK198.out 1).trans rfl; have hcz26_2 : w24.cell? ⟨gb198, 2, none⟩ = some (.slice A0_2 l0_2.length c0_2) := (blk_cell BK198.out 2).trans rfl; have hfz26_0 := blk_frozen BK198.out 0; have hfz26_1 := blk_frozen BK198.out 1; have hfz26_2 := blk_frozen BK198.out 2) | ((with_reducible refine gate_callee (f := 34) rfl ?_); refine goesL_ (some 9) rfl rfl Try.func34 (by kernel_rfl) rfl #[.agg #[.slice A0_0 l0_0.length c0_0, .slice A0_1 l0_1.length c0_1, .slice A0_2 l0_2.length c0_2]] rfl ln_ ?_; (with_reducible refine (impl_ValidRig.calls k _ _ l0_0 _ _ l0_1 _ _ l0_2 true _ (kc_ (Kd.C_below HR0_0.out HB.out)) HC0_0.out (kc_ (Kd.C_below HR0_1.out HB.out)) HC0_1.out (kc_ (Kd.C_below HR0_2.out HB.out)) HC0_2.out A3.out).mono ?_); rintro e w27 ⟨rfl, hb⟩; refine ⟨_, rfl, ?_⟩; replace BK198 := ak_ (blk_below (g := gb198) (o := .cells #[.slice A0_0 l0_0.length c0_0, .slice A0_1 l0_1.length c0_1, .slice A0_2 l0_2.length c0_2] 31 (0, 0)) (bk_ BK198) hb); replace BK199 := ak_ (blk_below (g := gb199) (o := .cells #[.slice none 0 0, .slice none 0 0, .slice none 0 0] 31 (0, 0)) (bk_ BK199) hb); replace HB := ak_ (below_step (hg2_ GE198 GE199) hb); skip; (try clear hb); (try clear hb2); (try clear hk); (try clear hi); have hcz28_0 : w27.cell? ⟨gb198, 0, none⟩ = some (.slice A0_0 l0_0.length c0_0) := (blk_cell BK198.out 0).trans rfl; have hcz28_1 : w27.cell? ⟨gb198, 1, none⟩ = some (.slice A0_1 l0_1.length c0_1) := (blk_cell BK198.out 1).trans rfl; have hcz28_2 : w27.cell? ⟨gb198, 2, none⟩ = some (.slice A0_2 l0_2.length c0_2) := (blk_cell BK198.out 2).trans rfl; have hfz28_0 := blk_frozen BK198.out 0; have hfz28_1 := blk_frozen BK198.out 1; have hfz28_2 := blk_frozen BK198.out 2) | ((with_reducible refine gate_callee (f := 43) rfl ?_); refine goesL_ (some 15) rfl rfl Try.func43 (by kernel_rfl) rfl #[.slice A0_1 l0_1.length c0_1, .string a1] rfl ln_ ?_; (with_reducible refine (slices_Contains_string_string.calls k _ _ l0_1 a1 true _ (kc_ (Kd.C_below HR0_1.out HB.out)) HC0_1.out A5.out).mono ?_); rintro e w' ⟨rfl, ⟨nd, rfl⟩⟩; refine ⟨_, rfl, ?_⟩; (try (rw [drewN_self w27]; generalize hq_ : World.drewN w27 _ = w27; have n0_ : Aside0 (w27.heap[gb198]? = some (.cells #[.slice A0_0 l0_0.length c0_0, .slice A0_1 l0_1.length c0_1, .slice A0_2 l0_2.length c0_2] 31 (0, 0))) := ⟨by rw [← hq_]; exact (bk_ BK198)⟩; have n1_ : Aside0 (w27.heap[gb199]? = some (.cells #[.slice none 0 0, .slice none 0 0, .slice none 0 0] 31 (0, 0))) := ⟨by rw [← hq_]; exact (bk_ BK199)⟩; have n2_ : Aside0 (Below w.heap.size w w27) := ⟨by rw [← hq_]; exact (hg2_ GE198 GE199)⟩; clear BK198 BK199 HB hq_; have BK198 := n0_; have BK199 := n1_; have HB := n2_; clear n0_ n1_ n2_; have hcy0 : w27.cell? ⟨gb198, 0, none⟩ = some (.slice A0_0 l0_0.length c0_0) := (blk_cell BK198.out 0).trans rfl; have hcy1 : w27.cell? ⟨gb198, 1, none⟩ = some (.slice A0_1 l0_1.length c0_1) := (blk_cell BK198.out 1).trans rfl; have hcy2 : w27.cell? ⟨gb198, 2, none⟩ = some (.slice A0_2 l0_2.length c0_2) := (blk_cell BK198.out 2).trans rfl))) | ((with_reducible refine gate_callee (f := 44) rfl ?_); refine goesL_ (some 20) rfl rfl Try.func44 (by kernel_rfl) rfl #[.agg #[.slice A0_0 l0_0.length c0_0, .slice A0_1 l0_1.length c0_1, .slice A0_2 l0_2.length c0_2], .string a1] rfl ln_ ?_; (with_reducible refine (impl_belayOf.calls _ _ l0_0 _ _ l0_1 _ _ l0_2 a1 t202 _ (kc_ (Kd.C_below HR0_0.out HB.out)) HC0_0.out (kc_ (Kd.C_below HR0_1.out HB.out)) HC0_1.out (kc_ (Kd.C_below HR0_2.out HB.out)) HC0_2.out A7.out).mono ?_); rintro e w29 ⟨rfl, hb⟩; refine ⟨_, rfl, ?_⟩; replace BK198 := ak_ (blk_below (g := gb198) (o := .cells #[.slice A0_0 l0_0.length c0_0, .slice A0_1 l0_1.length c0_1, .slice A0_2 l0_2.length c0_2] 31 (0, 0)) (bk_ BK198) hb); replace BK199 := ak_ (blk_below (g := gb199) (o := .cells #[.slice none 0 0, .slice none 0 0, .slice none 0 0] 31 (0, 0)) (bk_ BK199) hb); replace HB := ak_ (below_step (hg2_ GE198 GE199) hb); skip; (try clear hb); (try clear hb2); (try clear hk); (try clear hi); have hcz30_0 : w29.cell? ⟨gb198, 0, none⟩ = some (.slice A0_0 l0_0.length c0_0) := (blk_cell BK198.out 0).trans rfl; have hcz30_1 : w29.cell? ⟨gb198, 1, none⟩ = some (.slice A0_1 l0_1.length c0_1) := (blk_cell BK198.out 1).trans rfl; have hcz30_2 : w29.cell? ⟨gb198, 2, none⟩ = some (.slice A0_2 l0_2.length c0_2) := (blk_cell BK198.out 2).trans rfl; have hfz30_0 := blk_frozen BK198.out 0; have hfz30_1 := blk_frozen BK198.out 1; have hfz30_2 := blk_frozen BK198.out 2) | ((with_reducible refine gate_callee (f := 45) rfl ?_); refine goesL_ (some 25) rfl rfl Try.func45 (by kernel_rfl) rfl #[.agg #[.slice A0_0 l0_0.length c0_0, .slice A0_1 l0_1.length c0_1, .slice A0_2 l0_2.length c0_2]] rfl ln_ ?_; (with_reducible refine (impl_copyRig.calls _ _ l0_0 _ _ l0_1 _ _ l0_2 t203 t206 t209 _ (kc_ (Kd.C_below HR0_0.out HB.out)) HC0_0.out (kc_ (Kd.C_below HR0_1.out HB.out)) HC0_1.out (kc_ (Kd.C_below HR0_2.out HB.out)) HC0_2.out A17.out).mono ?_); rintro e w31 ⟨v204, v207, v210, rfl, ho0, ho1, ho2, hb⟩; refine ⟨_, rfl, ?_⟩; have HO205 := ak_ (Kd.R_lower ho0 (below_size (hg2_ GE198 GE199))); have HO208 := ak_ (Kd.R_lower ho1 (below_size (hg2_ GE198 GE199))); have HO211 := ak_ (Kd.R_lower ho2 (below_size (hg2_ GE198 GE199))); replace BK198 := ak_ (blk_below (g := gb198) (o := .cells #[.slice A0_0 l0_0.length c0_0, .slice A0_1 l0_1.length c0_1, .slice A0_2 l0_2.length c0_2] 31 (0, 0)) (bk_ BK198) hb); replace BK199 := ak_ (blk_below (g := gb199) (o := .cells #[.slice none 0 0, .slice none 0 0, .slice none 0 0] 31 (0, 0)) (bk_ BK199) hb); replace HB := ak_ (below_step (hg2_ GE198 GE199) hb); skip; clear hb ho0 ho1 ho2) | ((with_reducible refine gate_dst (N := 7) rfl ?_); refine box_event ?hg (N := 7) ?hd (cs := #[.slice none 0 0, .slice none 0 0, .slice none 0 0]) (t := 31) ?hr ?_; (case hd => rfl); (case hg => rfl); (case hr => first | (go_simp; done) | (go_simp; rfl)); intro gb212 hg w32 hbox hb; replace HO205 := ak_ (Kd.R_below (kr_ HO205) hb); replace HO208 := ak_ (Kd.R_below (kr_ HO208) hb); replace HO211 := ak_ (Kd.R_below (kr_ HO211) hb); have BK212 := ak_ (hbox); have GW212 := ak_ ((by rw [hg]; exact (below_size (hg2_ GE198 GE199)) : w.heap.size ≤ gb212)); have GE212 := ak_ ((by rw [hg]; exact (below_size (hg2_ GE198 GE199)) : w.heap.size ≤ gb212)); replace HB := ak_ (below_step (hg2_ GE198 GE199) hb); have NB198_212 := ak_ ((by rw [hg]; exact Nat.ne_of_lt (blk_lt (g := gb198) (o := .cells #[.slice A0_0 l0_0.length c0_0, .slice A0_1 l0_1.length c0_1, .slice A0_2 l0_2.length c0_2] 31 (0, 0)) (bk_ BK198)) : gb198 ≠ gb212)); have NB212_198 := ak_ ((by rw [hg]; exact Nat.ne_of_gt (blk_lt (g := gb198) (o := .cells #[.slice A0_0 l0_0.length c0_0, .slice A0_1 l0_1.length c0_1, .slice A0_2 l0_2.length c0_2] 31 (0, 0)) (bk_ BK198)) : gb212 ≠ gb198)); replace BK198 := ak_ (blk_below (g := gb198) (o := .cells #[.slice A0_0 l0_0.length c0_0, .slice A0_1 l0_1.length c0_1, .slice A0_2 l0_2.length c0_2] 31 (0, 0)) (bk_ BK198) hb); have NB199_212 := ak_ ((by rw [hg]; exact Nat.ne_of_lt (blk_lt (g := gb199) (o := .cells #[.slice none 0 0, .slice none 0 0, .slice none 0 0] 31 (0, 0)) (bk_ BK199)) : gb199 ≠ gb212)); have NB212_199 := ak_ ((by rw [hg]; exact Nat.ne_of_gt (blk_lt (g := gb199) (o := .cells #[.slice none 0 0, .slice none 0 0, .slice none 0 0] 31 (0, 0)) (bk_ BK199)) : gb212 ≠ gb199)); replace BK199 := ak_ (blk_below (g := gb199) (o := .cells #[.slice none 0 0, .slice none 0 0, .slice none 0 0] 31 (0, 0)) (bk_ BK199) hb); skip; clear hb hbox hg; obtain ⟨Ao33, co33, eo33⟩ := Kd.R_slice HO205.out; subst eo33; have hnb34 := NB212_198.out; have hnc34 := NB198_212.out; have hnb35 := NB212_199.out; have hnc35 := NB199_212.out; have hcz36_0 : w32.cell? ⟨gb212, 0, none⟩ = some (.slice none 0 0) := (blk_cell BK212.out 0).trans rfl; have hcz36_1 : w32.cell? ⟨gb212, 1, none⟩ = some (.slice none 0 0) := (blk_cell BK212.out 1).trans rfl; have hcz36_2 : w32.cell? ⟨gb212, 2, none⟩ = some (.slice none 0 0) := (blk_cell BK212.out 2).trans rfl; have hfz36_0 := blk_frozen BK212.out 0; have hfz36_1 := blk_frozen BK212.out 1; have hfz36_2 := blk_frozen BK212.out 2; obtain ⟨Ao37, co37, eo37⟩ := Kd.R_slice HO208.out; subst eo37; obtain ⟨Ao38, co38, eo38⟩ := Kd.R_slice HO211.out; subst eo38))
        have n0_ : Aside0 (Kd.R k91 91 (((w32.setCell ⟨gb212, 0, none⟩ (.slice Ao33 t203.length co33)).setCell ⟨gb212, 1, none⟩ (.slice Ao37 t206.length co37)).setCell ⟨gb212, 2, none⟩ (.slice Ao38 t209.length co38)) w.heap.size (fun _ => True) (.slice Ao33 t203.length co33) t203) := ⟨by (with_reducible repeat (first | apply Kd.R_alloc | apply Kd.R_drewN | apply Kd.R_drew)); exact Kd.R_mono (Kd.R_far (p := ⟨gb212, 2, none⟩) (Kd.R_far (p := ⟨gb212, 1, none⟩) (Kd.R_far (p := ⟨gb212, 0, none⟩) (Kd.R_types HO205.out BK212.out (by decide)) (fun _ hk => hk.2) (.slice Ao33 t203.length co33)) (fun _ hk => hk.2) (.slice Ao37 t206.length co37)) (fun _ hk => hk.2) (.slice Ao38 t209.length co38)) (fun _ hk => trivial)⟩
        have n1_ : Aside0 (Kd.R Kd.string 9 (((w32.setCell ⟨gb212, 0, none⟩ (.slice Ao33 t203.length co33)).setCell ⟨gb212, 1, none⟩ (.slice Ao37 t206.length co37)).setCell ⟨gb212, 2, none⟩ (.slice Ao38 t209.length co38)) w.heap.size (fun _ => True) (.slice Ao37 t206.length co37) t206) := ⟨by (with_reducible repeat (first | apply Kd.R_alloc | apply Kd.R_drewN | apply Kd.R_drew)); exact Kd.R_mono (Kd.R_far (p := ⟨gb212, 2, none⟩) (Kd.R_far (p := ⟨gb212, 1, none⟩) (Kd.R_far (p := ⟨gb212, 0, none⟩) (Kd.R_types HO208.out BK212.out (by decide)) (fun _ hk => hk.2) (.slice Ao33 t203.length co33)) (fun _ hk => hk.2) (.slice Ao37 t206.length co37)) (fun _ hk => hk.2) (.slice Ao38 t209.length co38)) (fun _ hk => trivial)⟩
        have n2_ : Aside0 (Kd.R k41 41 (((w32.setCell ⟨gb212, 0, none⟩ (.slice Ao33 t203.length co33)).setCell ⟨gb212, 1, none⟩ (.slice Ao37 t206.length co37)).setCell ⟨gb212, 2, none⟩ (.slice Ao38 t209.length co38)) w.heap.size (fun _ => True) (.slice Ao38 t209.length co38) t209) := ⟨by (with_reducible repeat (first | apply Kd.R_alloc | apply Kd.R_drewN | apply Kd.R_drew)); exact Kd.R_mono (Kd.R_far (p := ⟨gb212, 2, none⟩) (Kd.R_far (p := ⟨gb212, 1, none⟩) (Kd.R_far (p := ⟨gb212, 0, none⟩) (Kd.R_types HO211.out BK212.out (by decide)) (fun _ hk => hk.2) (.slice Ao33 t203.length co33)) (fun _ hk => hk.2) (.slice Ao37 t206.length co37)) (fun _ hk => hk.2) (.slice Ao38 t209.length co38)) (fun _ hk => trivial)⟩
        have n3_ : Aside0 ((((w32.setCell ⟨gb212, 0, none⟩ (.slice Ao33 t203.length co33)).setCell ⟨gb212, 1, none⟩ (.slice Ao37 t206.length co37)).setCell ⟨gb212, 2, none⟩ (.slice Ao38 t209.length co38)).heap[gb198]? = some (.cells #[.slice A0_0 l0_0.length c0_0, .slice A0_1 l0_1.length c0_1, .slice A0_2 l0_2.length c0_2] 31 (0, 0))) := ⟨by (with_reducible repeat (first | refine blk_drewN ?_ _ | refine blk_drew ?_ | refine blk_alloc ?_ _)); refine blk_far ?_ NB198_212.out _; (with_reducible repeat (first | refine blk_drewN ?_ _ | refine blk_drew ?_ | refine blk_alloc ?_ _)); refine blk_far ?_ NB198_212.out _; (with_reducible repeat (first | refine blk_drewN ?_ _ | refine blk_drew ?_ | refine blk_alloc ?_ _)); refine blk_far ?_ NB198_212.out _; (with_reducible repeat (first | refine blk_drewN ?_ _ | refine blk_drew ?_ | refine blk_alloc ?_ _)); exact BK198.out⟩
        have n4_ : Aside0 ((((w32.setCell ⟨gb212, 0, none⟩ (.slice Ao33 t203.length co33)).setCell ⟨gb212, 1, none⟩ (.slice Ao37 t206.length co37)).setCell ⟨gb212, 2, none⟩ (.slice Ao38 t209.length co38)).heap[gb199]? = some (.cells #[.slice none 0 0, .slice none 0 0, .slice none 0 0] 31 (0, 0))) := ⟨by (with_reducible repeat (first | refine blk_drewN ?_ _ | refine blk_drew ?_ | refine blk_alloc ?_ _)); refine blk_far ?_ NB199_212.out _; (with_reducible repeat (first | refine blk_drewN ?_ _ | refine blk_drew ?_ | refine blk_alloc ?_ _)); refine blk_far ?_ NB199_212.out _; (with_reducible repeat (first | refine blk_drewN ?_ _ | refine blk_drew ?_ | refine blk_alloc ?_ _)); refine blk_far ?_ NB199_212.out _; (with_reducible repeat (first | refine blk_drewN ?_ _ | refine blk_drew ?_ | refine blk_alloc ?_ _)); exact BK199.out⟩
        have n5_ : Aside0 ((((w32.setCell ⟨gb212, 0, none⟩ (.slice Ao33 t203.length co33)).setCell ⟨gb212, 1, none⟩ (.slice Ao37 t206.length co37)).setCell ⟨gb212, 2, none⟩ (.slice Ao38 t209.length co38)).heap[gb212]? = some (.cells #[.slice Ao33 t203.length co33, .slice Ao37 t206.length co37, .slice Ao38 t209.length co38] 31 (0, 0))) := ⟨by (with_reducible repeat (first | refine blk_drewN ?_ _ | refine blk_drew ?_ | refine blk_alloc ?_ _)); refine blk_put (cs := #[.slice Ao33 t203.length co33, .slice Ao37 t206.length co37, .slice none 0 0]) ?_ 2 _ rfl; (with_reducible repeat (first | refine blk_drewN ?_ _ | refine blk_drew ?_ | refine blk_alloc ?_ _)); refine blk_put (cs := #[.slice Ao33 t203.length co33, .slice none 0 0, .slice none 0 0]) ?_ 1 _ rfl; (with_reducible repeat (first | refine blk_drewN ?_ _ | refine blk_drew ?_ | refine blk_alloc ?_ _)); refine blk_put (cs := #[.slice none 0 0, .slice none 0 0, .slice none 0 0]) ?_ 0 _ rfl; (with_reducible repeat (first | refine blk_drewN ?_ _ | refine blk_drew ?_ | refine blk_alloc ?_ _)); exact BK212.out⟩
        have n6_ : Aside0 (Below w.heap.size w (((w32.setCell ⟨gb212, 0, none⟩ (.slice Ao33 t203.length co33)).setCell ⟨gb212, 1, none⟩ (.slice Ao37 t206.length co37)).setCell ⟨gb212, 2, none⟩ (.slice Ao38 t209.length co38))) := ⟨by repeat (first | (with_reducible first | exact HB.out | apply below_alloc | apply pw_below_drewN | apply below_drew1 | refine below_set ?_ GE198.out | refine below_set ?_ GE199.out | refine below_set ?_ GE212.out) | exact HB.out)⟩
        (try clear HO205)
        (try clear HO208)
        (try clear HO211)
        (try clear BK198)
        (try clear BK199)
        (try clear BK212)
        (try clear HB)
        generalize (((w32.setCell ⟨gb212, 0, none⟩ (.slice Ao33 t203.length co33)).setCell ⟨gb212, 1, none⟩ (.slice Ao37 t206.length co37)).setCell ⟨gb212, 2, none⟩ (.slice Ao38 t209.length co38)) = w39 at n0_ n1_ n2_ n3_ n4_ n5_ n6_ ⊢
        have HO205 := n0_
        have HO208 := n1_
        have HO211 := n2_
        have BK198 := n3_
        have BK199 := n4_
        have BK212 := n5_
        have HB := n6_
        clear n0_ n1_ n2_ n3_ n4_ n5_ n6_
        have n0_ := ak_ (Kd.R_drew HO205.out)
        have n1_ := ak_ (Kd.R_drew HO208.out)
        have n2_ := ak_ (Kd.R_drew HO211.out)
        have n3_ := ak_ (blk_drew BK198.out)
        have n4_ := ak_ (blk_drew BK199.out)
        have n5_ := ak_ (blk_drew BK212.out)
        have n6_ := ak_ (below_drew1 HB.out)
        clear HO205
        clear HO208
        clear HO211
        clear BK198
        clear BK199
        clear BK212
        clear HB
        have HO205 := n0_
        have HO208 := n1_
        have HO211 := n2_
        have BK198 := n3_
        have BK199 := n4_
        have BK212 := n5_
        have HB := n6_
        clear n0_ n1_ n2_ n3_ n4_ n5_ n6_
        have q41 : (t202 : Int) ≤ ((t209.length : Int) : Int) := od_
        obtain ⟨i041, hi041, _, hsz41, _⟩ := info_parts info41
        have hroom41 : t209.length ≤ co38 := (Kd.R_reads' HO211.out).2.1
        have hC41 : Kd.C k41 _ Ao38 t209.length t209 := (Kd.R_reads' HO211.out).2.2
        have hcut41 := cut_to (P := Try.prog) 29 41 .i64 Try.underlying29 hi041 Ao38 t209.length co38 t202 (od_) q41 hroom41
        have hr41 := Kd.C_take (m := (t202 : Int).toNat) hC41 (by omega)
        have hy41 : y213.length = (t202 : Int).toNat := (by rw [Ny213.out, List.length_take]; omega)
        rw [← Ny213.out] at hr41
        rw [← hy41] at hcut41
        have HR216 := ak_ hr41
        have HC216 := ak_ (show y213.length ≤ co38 from by omega)
        clear hr41 hC41 hroom41 hi041 hsz41
        have KY41 := ak_ hy41
        clear hy41
        have KL41 := ak_ (show (t202 : Int).toNat ≤ t209.length from by omega)
        replace q41 := eq_true q41
        have q42 : ((ji20) : Int) ≤ ((t209.length : Int) : Int) := od_
        obtain ⟨i042, hi042, _, hsz42, _⟩ := info_parts info41
        have hroom42 : t209.length ≤ co38 := (Kd.R_reads' HO211.out).2.1
        have hC42 : Kd.C k41 _ Ao38 t209.length t209 := (Kd.R_reads' HO211.out).2.2
        have q042 : (0 : Int) ≤ ((ji20) : Int) := od_
        have hcut42 := cut_from (P := Try.prog) 29 41 .i64 Try.underlying29 hi042 3 hsz42 Ao38 t209.length co38 (ji20) q042 q42
        have hr42 := Kd.C_drop (m := ((ji20) : Int).toNat) (c := co38) hC42 (by omega) hroom42
        obtain ⟨A42, hA42⟩ : ∃ Az_, Az_ = (if co38 = ((ji20) : Int).toNat then Ao38 else (Ao38 : Option Addr).map (·.add (((ji20) : Int).toNat * 3))) := ⟨_, rfl⟩
        obtain ⟨c42, hc42⟩ : ∃ cz_, cz_ = co38 - ((ji20) : Int).toNat := ⟨_, rfl⟩
        have hy42 : y217.length = t209.length - ((ji20) : Int).toNat := (by rw [Ny217.out, List.length_drop] <;> omega)
        rw [show (t209).drop ((ji20) : Int).toNat = y217 from Ny217.out.symm] at hr42
        replace hr42 : Kd.C k41 _ A42 y217.length y217 := (by rw [hA42]; exact hr42)
        rw [← hy42, ← hA42, ← hc42] at hcut42
        have HR220 := ak_ hr42
        have HC220 := ak_ (show y217.length ≤ c42 from by rw [hy42, hc42]; exact Nat.sub_le_sub_right hroom42 _)
        clear hr42 hC42 hroom42 hi042 hsz42 hc42
        have KY42 := ak_ hy42
        have KA42 := ak_ hA42
        clear hy42 hA42
        have KL42 := ak_ (show ((ji20) : Int).toNat ≤ t209.length from by omega)
        replace q42 := eq_true q42
        obtain ⟨go44, co44, eo44, gb44, gl44, cl44, HG44⟩ := Kd.R_form HO211.out (by have hj_ : 0 ≤ (t202 : Int) := od_; have hl_ : (ji20 : Int) ≤ (t209.length : Int) := od_; have hh_ : (t202 : Int) ≤ (t209.length : Int) := od_; rw [← hji20] at hl_; unfold wrap64 at hl_; omega)
        (first | cases eo44 | (injection eo44 with ea_ en_ ec_; (first | subst ea_ | (injection ea_ with ea_; subst ea_)); subst ec_; clear en_))
        have GB44 := ak_ gb44
        have GG44 := ak_ HG44
        clear gb44 gl44 HG44
        refine start_ (n := 12) (S := fun w' => w'.cell? ⟨gb212, 0, none⟩ = some (.slice Ao33 t203.length co33) ∧ w'.cell? ⟨gb212, 1, none⟩ = some (.slice Ao37 t206.length co37) ∧ w'.cell? ⟨gb212, 2, none⟩ = some (.slice (some ⟨go44, 0, none⟩) t209.length co38)) (ds := [11]) #[F_,F_,F_,F_,F_,F_,F_,F_,F_,F_,F_,F_] (by kernel_rfl) rfl rfl ⟨(blk_cell BK212.out 0).trans rfl, (blk_cell BK212.out 1).trans rfl, (blk_cell BK212.out 2).trans rfl⟩ (fun hHeld => ?_); refine with_tabW impl_CastOff.tab9 impl_CastOff.bits9 (fun HT_ HW_ => ?_)
        generalize w39.drew = w40 at HO205 HO208 HO211 BK198 BK199 BK212 HB GG44 HR216 HR220 hHeld ⊢
        refine pv (i := 0) (N := some 26) HT_ ?_
        refine pv (i := 2) (N := some 28) HT_ ?_
        refine pv (i := 4) (N := some 30) HT_ ?_
        refine pv (i := 6) (N := some 32) HT_ ?_
        refine pv (i := 7) (N := some 33) HT_ ?_
        refine take_ (i := 1) (N := some 27) (v := ?_) (a' := ?_) #[T_,T_,T_,F_,T_,F_,T_,T_,F_,F_,F_,F_] rfl rfl (take_ofW HT_.out HW_.out (by kernel_rfl)) (fun _ _ _ h => h) (Or.inl ⟨by rfl, ?_⟩) hHeld ?_ ?_
        rotate_left
        ·rintro w' ⟨s0, s1, s2⟩
         go_simp
         with_reducible rfl
        rotate_left
        ·simp only [Act.put, sT_, s0_, sS_, i64_w, i32_w]
         rfl
        refine pv (i := 3) (N := some 29) HT_ ?_
        refine take_ (i := 5) (N := some 31) (v := ?_) (a' := ?_) #[T_,T_,T_,T_,T_,T_,T_,T_,F_,F_,F_,F_] rfl rfl (take_ofW HT_.out HW_.out (by kernel_rfl)) (fun _ _ _ h => h) (Or.inl ⟨by rfl, ?_⟩) hHeld ?_ ?_
        rotate_left
        ·rintro w' ⟨s0, s1, s2⟩
         go_simp
         with_reducible rfl
        rotate_left
        ·simp only [Act.put, sT_, s0_, sS_, i64_w, i32_w]
         rfl
        refine pv (i := 8) (N := some 34) HT_ ?_
        refine one_ (i := 9) (N := some 35) #[T_,T_,T_,T_,T_,T_,T_,T_,T_,T_,F_,F_] rfl rfl (one_of HT_.out (by kernel_rfl)) (by decide) (fun K hK => ?_)
        have hj_ : 0 ≤ (t202 : Int) := od_
        have hl_ : (ji20 : Int) ≤ (t209.length : Int) := od_
        have hh_ : (t202 : Int) ≤ (t209.length : Int) := od_
        have hb_ := (Kd.R_reads' HO211.out).2.2.2.1
        have h0_ : (0 : Int) ≤ (ji20 : Int) := od_
        have hy1_ := KY41.out
        have hk_ : (ji20 : Int).toNat = y213.length + 1 := (by have hw_ : (ji20 : Int) = t202 + 1 := (by have h00_ := h0_; (try have hz213_ := congrArg List.length Ny213.out); (try rw [List.length_set] at hz213_); (try have hz217_ := congrArg List.length Ny217.out); (try rw [List.length_set] at hz217_); (try have hz221_ := congrArg List.length Ny221.out); (try rw [List.length_set] at hz221_); rw [← hji20] at h00_ ⊢; unfold wrap64 at h00_ ⊢; omega); rw [hw_]; omega)
        refine Kd.R_delete_step k41 (w0 := w) w.heap.size (by rfl) (.tmp 29) (.tmp 34) 29 41 rfl Try.underlying29 (by kernel_rfl) (g := go44) (n := t209.length) (c := co38) (k := y213.length) rfl rfl ?hA ?hm (kr_ HO211) ?hk (by repeat (first | (with_reducible first | exact HB.out | apply below_alloc | apply pw_below_drewN | apply below_drew1 | refine below_set ?_ GE198.out | refine below_set ?_ GE199.out | refine below_set ?_ GE212.out) | exact HB.out)) (below_size (by repeat (first | (with_reducible first | exact HB.out | apply below_alloc | apply pw_below_drewN | apply below_drew1 | refine below_set ?_ GE198.out | refine below_set ?_ GE199.out | refine below_set ?_ GE212.out) | exact HB.out))) ?_
        (case hA => have ha_ := KA42.out; rw [hk_] at ha_; exact ha_)
        (case hm => have ha_ := KY42.out; omega)
        (case hk => omega)
        intro w43 ho hb hg
        clear hj_ hl_ hh_ hb_ hk_ h0_
        rw [hy1_, ← Ny221.out] at ho
        clear hy1_
        have hn_ : t209.length - 1 = y221.length := (by have := (Kd.R_reads' ho).1; omega)
        rw [hn_] at ho ⊢
        clear hn_
        have n0_ := ak_ (blk_grown (g := gb198) (o := .cells #[.slice A0_0 l0_0.length c0_0, .slice A0_1 l0_1.length c0_1, .slice A0_2 l0_2.length c0_2] 31 (0, 0)) (bk_ BK198) hg (Kd.R_ne HO211.out BK198.out (by decide)))
        have n1_ := ak_ (blk_grown (g := gb199) (o := .cells #[.slice none 0 0, .slice none 0 0, .slice none 0 0] 31 (0, 0)) (bk_ BK199) hg (Kd.R_ne HO211.out BK199.out (by decide)))
        have n2_ := ak_ (Kd.R_over' (v := (.slice (some ⟨go44, 0, none⟩) t209.length co38)) (kr_ HO205) (Kd.R_typed HO211.out) (by decide) hg)
        have n3_ := ak_ (Kd.R_over' (v := (.slice (some ⟨go44, 0, none⟩) t209.length co38)) (kr_ HO208) (Kd.R_typed HO211.out) (by decide) hg)
        have n4_ := ak_ (ho)
        have n5_ := ak_ (blk_grown (g := gb212) (o := .cells #[.slice Ao33 t203.length co33, .slice Ao37 t206.length co37, .slice (some ⟨go44, 0, none⟩) t209.length co38] 31 (0, 0)) (bk_ BK212) hg (Kd.R_ne HO211.out BK212.out (by decide)))
        have n6_ := ak_ (hb)
        clear BK198
        clear BK199
        clear HO205
        clear HO208
        clear HO211
        clear BK212
        clear HB
        have BK198 := n0_
        have BK199 := n1_
        have HO205 := n2_
        have HO208 := n3_
        have HO211 := n4_
        have BK212 := n5_
        have HB := n6_
        clear n0_ n1_ n2_ n3_ n4_ n5_ n6_
        clear ho hb hg
        refine hK.out _ _ ⟨(blk_cell BK212.out 0).trans rfl, (blk_cell BK212.out 1).trans rfl, (blk_cell BK212.out 2).trans rfl⟩ (fun hHeld => ?_)
        clear hK K
        refine norm_ (a' := ?_) ?_ ?_
        rotate_left
        ·show Act.put _ (some 35) _ = _
         simp only [Act.put, sT_, s0_, sS_, i64_w, i32_w]
         rfl
        refine pv (i := 10) (N := some 36) HT_ ?_
        refine last_ (i := 11) (N := none) #[T_,T_,T_,T_,T_,T_,T_,T_,T_,T_,T_,T_] rfl rfl (one_of HT_.out (by kernel_rfl)) (by decide) (fun K hK => ?_)
        have hs45 : w43.cell? ⟨gb212, 2, none⟩ = some (.slice (some ⟨go44, 0, none⟩) t209.length co38) := (blk_cell BK212.out 2).trans rfl
        have hfs45 := blk_frozen BK212.out 2
        have hns45_0 := NB198_212.out
        have hns45_1 := NB199_212.out
        have hms45_0 := NB212_198.out
        have hms45_1 := NB212_199.out
        refine skip_ (w1 := ?_) (by rfl) rfl ?_ ?_
        rotate_left
        ·go_simp
         rfl
        refine hK.out _ _ ?_
        clear hK K
        refine done_ (done_of HT_.out (by kernel_rfl)) ?_
        have hcz46_0 : w43.cell? ⟨gb212, 0, none⟩ = some (.slice Ao33 t203.length co33) := (blk_cell BK212.out 0).trans rfl
        have hcz46_1 : w43.cell? ⟨gb212, 1, none⟩ = some (.slice Ao37 t206.length co37) := (blk_cell BK212.out 1).trans rfl
        have hcz46_2 : w43.cell? ⟨gb212, 2, none⟩ = some (.slice (some ⟨go44, 0, none⟩) t209.length co38) := (blk_cell BK212.out 2).trans rfl
        have hfz46_0 := blk_frozen BK212.out 0
        have hfz46_1 := blk_frozen BK212.out 1
        have hfz46_2 := blk_frozen BK212.out 2
        have hcz47_0 : w43.cell? ⟨gb199, 0, none⟩ = some (.slice none 0 0) := (blk_cell BK199.out 0).trans rfl
        have hcz47_1 : w43.cell? ⟨gb199, 1, none⟩ = some (.slice none 0 0) := (blk_cell BK199.out 1).trans rfl
        have hcz47_2 : w43.cell? ⟨gb199, 2, none⟩ = some (.slice none 0 0) := (blk_cell BK199.out 2).trans rfl
        have hfz47_0 := blk_frozen BK199.out 0
        have hfz47_1 := blk_frozen BK199.out 1
        have hfz47_2 := blk_frozen BK199.out 2
        try go_wp2
        refine bodyPost_ret (results_ct rfl _ _ gb199 31 #[.slice Ao33 t203.length co33, .slice Ao37 t206.length co37, .slice (some ⟨go44, 0, none⟩) y221.length co38] (0, 0) _ rfl (by (with_reducible repeat (first | refine blk_drewN ?_ _ | refine blk_drew ?_ | refine blk_alloc ?_ _)); refine blk_put (cs := #[.slice Ao33 t203.length co33, .slice Ao37 t206.length co37, .slice none 0 0]) ?_ 2 _ rfl; (with_reducible repeat (first | refine blk_drewN ?_ _ | refine blk_drew ?_ | refine blk_alloc ?_ _)); refine blk_put (cs := #[.slice Ao33 t203.length co33, .slice none 0 0, .slice none 0 0]) ?_ 1 _ rfl; (with_reducible repeat (first | refine blk_drewN ?_ _ | refine blk_drew ?_ | refine blk_alloc ?_ _)); refine blk_put (cs := #[.slice none 0 0, .slice none 0 0, .slice none 0 0]) ?_ 0 _ rfl; (with_reducible repeat (first | refine blk_drewN ?_ _ | refine blk_drew ?_ | refine blk_alloc ?_ _)); refine blk_far ?_ NB199_212.out _; (with_reducible repeat (first | refine blk_drewN ?_ _ | refine blk_drew ?_ | refine blk_alloc ?_ _)); exact BK199.out) Try.underlying31 rfl (by kernel_rfl)) rfl ?_
        exact ⟨_, _, _, by first | rfl | (simp [errW_none, errW_some] <;> rfl) | (simp only [← hji20]; first | rfl | (simp [errW_none, errW_some] <;> rfl)) | (simp [*, errW_none, errW_some] <;> rfl), by (with_reducible repeat (first | apply Kd.R_alloc | apply Kd.R_drewN | apply Kd.R_drew)); exact Kd.R_mono (Kd.R_far (p := ⟨gb199, 2, none⟩) (Kd.R_far (p := ⟨gb199, 1, none⟩) (Kd.R_far (p := ⟨gb199, 0, none⟩) (Kd.R_far (p := ⟨gb212, 2, none⟩) (Kd.R_types (Kd.R_types HO205.out BK212.out (by decide)) BK199.out (by decide)) (fun _ hk => hk.1.2) (.slice (some ⟨go44, 0, none⟩) y221.length co38)) (fun _ hk => hk.2) (.slice Ao33 t203.length co33)) (fun _ hk => hk.2) (.slice Ao37 t206.length co37)) (fun _ hk => hk.2) (.slice (some ⟨go44, 0, none⟩) y221.length co38)) (fun _ hk => trivial), by (with_reducible repeat (first | apply Kd.R_alloc | apply Kd.R_drewN | apply Kd.R_drew)); exact Kd.R_mono (Kd.R_far (p := ⟨gb199, 2, none⟩) (Kd.R_far (p := ⟨gb199, 1, none⟩) (Kd.R_far (p := ⟨gb199, 0, none⟩) (Kd.R_far (p := ⟨gb212, 2, none⟩) (Kd.R_types (Kd.R_types HO208.out BK212.out (by decide)) BK199.out (by decide)) (fun _ hk => hk.1.2) (.slice (some ⟨go44, 0, none⟩) y221.length co38)) (fun _ hk => hk.2) (.slice Ao33 t203.length co33)) (fun _ hk => hk.2) (.slice Ao37 t206.length co37)) (fun _ hk => hk.2) (.slice (some ⟨go44, 0, none⟩) y221.length co38)) (fun _ hk => trivial), by (with_reducible repeat (first | apply Kd.R_alloc | apply Kd.R_drewN | apply Kd.R_drew)); exact Kd.R_mono (Kd.R_far (p := ⟨gb199, 2, none⟩) (Kd.R_far (p := ⟨gb199, 1, none⟩) (Kd.R_far (p := ⟨gb199, 0, none⟩) (Kd.R_far (p := ⟨gb212, 2, none⟩) (Kd.R_types (Kd.R_types HO211.out BK212.out (by decide)) BK199.out (by decide)) (fun _ hk => hk.1.2) (.slice (some ⟨go44, 0, none⟩) y221.length co38)) (fun _ hk => hk.2) (.slice Ao33 t203.length co33)) (fun _ hk => hk.2) (.slice Ao37 t206.length co37)) (fun _ hk => hk.2) (.slice (some ⟨go44, 0, none⟩) y221.length co38)) (fun _ hk => trivial), by repeat (first | (with_reducible first | exact HB.out | apply below_alloc | apply pw_below_drewN | apply below_drew1 | refine below_set ?_ GE198.out | refine below_set ?_ GE199.out | refine below_set ?_ GE212.out) | exact HB.out)⟩
       ·rw [if_neg c22] at H
        exact absurd H (by simp)
      ·rw [if_neg c21] at H
       exact absurd H (by simp)
     ·rw [if_neg c19] at H
      exact absurd H (by simp)
    ·rw [if_neg c18] at H
     exact absurd H (by simp)
  ·replace c6 := Bool.eq_false_iff.mpr c6
   subst c6
   have H1 : (some (([] : List (S91)), ([] : List ByteArray), ([] : List (S41)), 2)) = some (r1, r2, r3, r4) := by rw [if_neg (show ¬ (false = true) by decide)] at H; exact H
   clear H
   have H := H1
   clear H1
   simp only [Option.some.injEq, Prod.mk.injEq] at H
   obtain ⟨rfl, rfl, rfl, rfl⟩ := H
   go_enter Try.func8, Try.ntmps8
   go_wp2_with (first | ((with_reducible refine gate_dst (N := 2) rfl ?_); refine box_event ?hg (N := 2) ?hd (cs := #[.slice A0_0 l0_0.length c0_0, .slice A0_1 l0_1.length c0_1, .slice A0_2 l0_2.length c0_2]) (t := 31) ?hr ?_; (case hd => rfl); (case hg => rfl); (case hr => first | (go_simp; done) | (go_simp; rfl)); intro gb198 hg w48 hbox hb; have BK198 := ak_ (hbox); have GW198 := ak_ ((by rw [hg]; exact (below_size hb_) : w.heap.size ≤ gb198)); have GE198 := ak_ ((by rw [hg]; exact (below_size hb_) : w.heap.size ≤ gb198)); replace HB := ak_ (below_step hb_ hb); skip; clear hb hbox hg) | ((with_reducible refine gate_dst (N := 4) rfl ?_); refine box_event ?hg (N := 4) ?hd (cs := #[.slice none 0 0, .slice none 0 0, .slice none 0 0]) (t := 31) ?hr ?_; (case hd => rfl); (case hg => rfl); (case hr => first | (go_simp; done) | (go_simp; rfl)); intro gb199 hg w49 hbox hb; have BK199 := ak_ (hbox); have GW199 := ak_ ((by rw [hg]; exact (below_size (hg_ GE198)) : w.heap.size ≤ gb199)); have GE199 := ak_ ((by rw [hg]; exact (below_size (hg_ GE198)) : w.heap.size ≤ gb199)); replace HB := ak_ (below_step (hg_ GE198) hb); have NB198_199 := ak_ ((by rw [hg]; exact Nat.ne_of_lt (blk_lt (g := gb198) (o := .cells #[.slice A0_0 l0_0.length c0_0, .slice A0_1 l0_1.length c0_1, .slice A0_2 l0_2.length c0_2] 31 (0, 0)) (bk_ BK198)) : gb198 ≠ gb199)); have NB199_198 := ak_ ((by rw [hg]; exact Nat.ne_of_gt (blk_lt (g := gb198) (o := .cells #[.slice A0_0 l0_0.length c0_0, .slice A0_1 l0_1.length c0_1, .slice A0_2 l0_2.length c0_2] 31 (0, 0)) (bk_ BK198)) : gb199 ≠ gb198)); replace BK198 := ak_ (blk_below (g := gb198) (o := .cells #[.slice A0_0 l0_0.length c0_0, .slice A0_1 l0_1.length c0_1, .slice A0_2 l0_2.length c0_2] 31 (0, 0)) (bk_ BK198) hb); skip; clear hb hbox hg; have hnb50 := NB198_199.out; have hnc50 := NB199_198.out; have hcz51_0 : w49.cell? ⟨gb198, 0, none⟩ = some (.slice A0_0 l0_0.length c0_0) := (blk_cell BK198.out 0).trans rfl; have hcz51_1 : w49.cell? ⟨gb198, 1, none⟩ = some (.slice A0_1 l0_1.length c0_1) := (blk_cell BK198.out 1).trans rfl; have hcz51_2 : w49.cell? ⟨gb198, 2, none⟩ = some (.slice A0_2 l0_2.length c0_2) := (blk_cell BK198.out 2).trans rfl; have hfz51_0 := blk_frozen BK198.out 0; have hfz51_1 := blk_frozen BK198.out 1; have hfz51_2 := blk_frozen BK198.out 2) | ((with_reducible refine gate_callee (f := 34) rfl ?_); refine goesL_ (some 9) rfl rfl Try.func34 (by kernel_rfl) rfl #[.agg #[.slice A0_0 l0_0.length c0_0, .slice A0_1 l0_1.length c0_1, .slice A0_2 l0_2.length c0_2]] rfl ln_ ?_; (with_reducible refine (impl_ValidRig.calls k _ _ l0_0 _ _ l0_1 _ _ l0_2 true _ (kc_ (Kd.C_below HR0_0.out HB.out)) HC0_0.out (kc_ (Kd.C_below HR0_1.out HB.out)) HC0_1.out (kc_ (Kd.C_below HR0_2.out HB.out)) HC0_2.out A3.out).mono ?_); rintro e w52 ⟨rfl, hb⟩; refine ⟨_, rfl, ?_⟩; replace BK198 := ak_ (blk_below (g := gb198) (o := .cells #[.slice A0_0 l0_0.length c0_0, .slice A0_1 l0_1.length c0_1, .slice A0_2 l0_2.length c0_2] 31 (0, 0)) (bk_ BK198) hb); replace BK199 := ak_ (blk_below (g := gb199) (o := .cells #[.slice none 0 0, .slice none 0 0, .slice none 0 0] 31 (0, 0)) (bk_ BK199) hb); replace HB := ak_ (below_step (hg2_ GE198 GE199) hb); skip; (try clear hb); (try clear hb2); (try clear hk); (try clear hi); have hcz53_0 : w52.cell? ⟨gb198, 0, none⟩ = some (.slice A0_0 l0_0.length c0_0) := (blk_cell BK198.out 0).trans rfl; have hcz53_1 : w52.cell? ⟨gb198, 1, none⟩ = some (.slice A0_1 l0_1.length c0_1) := (blk_cell BK198.out 1).trans rfl; have hcz53_2 : w52.cell? ⟨gb198, 2, none⟩ = some (.slice A0_2 l0_2.length c0_2) := (blk_cell BK198.out 2).trans rfl; have hfz53_0 := blk_frozen BK198.out 0; have hfz53_1 := blk_frozen BK198.out 1; have hfz53_2 := blk_frozen BK198.out 2) | ((with_reducible refine gate_callee (f := 43) rfl ?_); refine goesL_ (some 15) rfl rfl Try.func43 (by kernel_rfl) rfl #[.slice A0_1 l0_1.length c0_1, .string a1] rfl ln_ ?_; (with_reducible refine (slices_Contains_string_string.calls k _ _ l0_1 a1 false _ (kc_ (Kd.C_below HR0_1.out HB.out)) HC0_1.out A5.out).mono ?_); rintro e w' ⟨rfl, ⟨nd, rfl⟩⟩; refine ⟨_, rfl, ?_⟩; (try (rw [drewN_self w52]; generalize hq_ : World.drewN w52 _ = w52; have n0_ : Aside0 (w52.heap[gb198]? = some (.cells #[.slice A0_0 l0_0.length c0_0, .slice A0_1 l0_1.length c0_1, .slice A0_2 l0_2.length c0_2] 31 (0, 0))) := ⟨by rw [← hq_]; exact (bk_ BK198)⟩; have n1_ : Aside0 (w52.heap[gb199]? = some (.cells #[.slice none 0 0, .slice none 0 0, .slice none 0 0] 31 (0, 0))) := ⟨by rw [← hq_]; exact (bk_ BK199)⟩; have n2_ : Aside0 (Below w.heap.size w w52) := ⟨by rw [← hq_]; exact (hg2_ GE198 GE199)⟩; clear BK198 BK199 HB hq_; have BK198 := n0_; have BK199 := n1_; have HB := n2_; clear n0_ n1_ n2_; have hcy0 : w52.cell? ⟨gb198, 0, none⟩ = some (.slice A0_0 l0_0.length c0_0) := (blk_cell BK198.out 0).trans rfl; have hcy1 : w52.cell? ⟨gb198, 1, none⟩ = some (.slice A0_1 l0_1.length c0_1) := (blk_cell BK198.out 1).trans rfl; have hcy2 : w52.cell? ⟨gb198, 2, none⟩ = some (.slice A0_2 l0_2.length c0_2) := (blk_cell BK198.out 2).trans rfl)); have hcz54_0 : w52.cell? ⟨gb199, 0, none⟩ = some (.slice none 0 0) := (blk_cell BK199.out 0).trans rfl; have hcz54_1 : w52.cell? ⟨gb199, 1, none⟩ = some (.slice none 0 0) := (blk_cell BK199.out 1).trans rfl; have hcz54_2 : w52.cell? ⟨gb199, 2, none⟩ = some (.slice none 0 0) := (blk_cell BK199.out 2).trans rfl; have hfz54_0 := blk_frozen BK199.out 0; have hfz54_1 := blk_frozen BK199.out 1; have hfz54_2 := blk_frozen BK199.out 2))
   refine bodyPost_ret (results_ct rfl _ _ gb199 31 #[.slice none 0 0, .slice none 0 0, .slice none 0 0] (0, 0) _ rfl (by (with_reducible repeat (first | refine blk_drewN ?_ _ | refine blk_drew ?_ | refine blk_alloc ?_ _)); refine blk_put (cs := #[.slice none 0 0, .slice none 0 0, .slice none 0 0]) ?_ 2 _ rfl; (with_reducible repeat (first | refine blk_drewN ?_ _ | refine blk_drew ?_ | refine blk_alloc ?_ _)); refine blk_put (cs := #[.slice none 0 0, .slice none 0 0, .slice none 0 0]) ?_ 1 _ rfl; (with_reducible repeat (first | refine blk_drewN ?_ _ | refine blk_drew ?_ | refine blk_alloc ?_ _)); refine blk_put (cs := #[.slice none 0 0, .slice none 0 0, .slice none 0 0]) ?_ 0 _ rfl; (with_reducible repeat (first | refine blk_drewN ?_ _ | refine blk_drew ?_ | refine blk_alloc ?_ _)); exact BK199.out) Try.underlying31 rfl (by kernel_rfl)) rfl ?_
   exact ⟨_, _, _, ew_, by first | exact Kd.R_nil _ _ _ _ _ | exact Kd.N_nil _ _ _ _ _ | exact Kd.V_nil _ _ _ _ _ | exact Kd.Q_nil _ _ _ _ _ | exact Kd.S_nil _ _ _ _ _, by first | exact Kd.R_nil _ _ _ _ _ | exact Kd.N_nil _ _ _ _ _ | exact Kd.V_nil _ _ _ _ _ | exact Kd.Q_nil _ _ _ _ _ | exact Kd.S_nil _ _ _ _ _, by first | exact Kd.R_nil _ _ _ _ _ | exact Kd.N_nil _ _ _ _ _ | exact Kd.V_nil _ _ _ _ _ | exact Kd.Q_nil _ _ _ _ _ | exact Kd.S_nil _ _ _ _ _, (hg2_ GE198 GE199)⟩
 ·replace c4 := Bool.eq_false_iff.mpr c4
  subst c4
  have H1 : (some (([] : List (S91)), ([] : List ByteArray), ([] : List (S41)), 1)) = some (r1, r2, r3, r4) := by rw [if_neg (show ¬ (false = true) by decide)] at H; exact H
  clear H
  have H := H1
  clear H1
  simp only [Option.some.injEq, Prod.mk.injEq] at H
  obtain ⟨rfl, rfl, rfl, rfl⟩ := H
  go_enter Try.func8, Try.ntmps8
  go_wp2_with (first | ((with_reducible refine gate_dst (N := 2) rfl ?_); refine box_event ?hg (N := 2) ?hd (cs := #[.slice A0_0 l0_0.length c0_0, .slice A0_1 l0_1.length c0_1, .slice A0_2 l0_2.length c0_2]) (t := 31) ?hr ?_; (case hd => rfl); (case hg => rfl); (case hr => first | (go_simp; done) | (go_simp; rfl)); intro gb198 hg w55 hbox hb; have BK198 := ak_ (hbox); have GW198 := ak_ ((by rw [hg]; exact (below_size hb_) : w.heap.size ≤ gb198)); have GE198 := ak_ ((by rw [hg]; exact (below_size hb_) : w.heap.size ≤ gb198)); replace HB := ak_ (below_step hb_ hb); skip; clear hb hbox hg) | ((with_reducible refine gate_dst (N := 4) rfl ?_); refine box_event ?hg (N := 4) ?hd (cs := #[.slice none 0 0, .slice none 0 0, .slice none 0 0]) (t := 31) ?hr ?_; (case hd => rfl); (case hg => rfl); (case hr => first | (go_simp; done) | (go_simp; rfl)); intro gb199 hg w56 hbox hb; have BK199 := ak_ (hbox); have GW199 := ak_ ((by rw [hg]; exact (below_size (hg_ GE198)) : w.heap.size ≤ gb199)); have GE199 := ak_ ((by rw [hg]; exact (below_size (hg_ GE198)) : w.heap.size ≤ gb199)); replace HB := ak_ (below_step (hg_ GE198) hb); have NB198_199 := ak_ ((by rw [hg]; exact Nat.ne_of_lt (blk_lt (g := gb198) (o := .cells #[.slice A0_0 l0_0.length c0_0, .slice A0_1 l0_1.length c0_1, .slice A0_2 l0_2.length c0_2] 31 (0, 0)) (bk_ BK198)) : gb198 ≠ gb199)); have NB199_198 := ak_ ((by rw [hg]; exact Nat.ne_of_gt (blk_lt (g := gb198) (o := .cells #[.slice A0_0 l0_0.length c0_0, .slice A0_1 l0_1.length c0_1, .slice A0_2 l0_2.length c0_2] 31 (0, 0)) (bk_ BK198)) : gb199 ≠ gb198)); replace BK198 := ak_ (blk_below (g := gb198) (o := .cells #[.slice A0_0 l0_0.length c0_0, .slice A0_1 l0_1.length c0_1, .slice A0_2 l0_2.length c0_2] 31 (0, 0)) (bk_ BK198) hb); skip; clear hb hbox hg; have hnb57 := NB198_199.out; have hnc57 := NB199_198.out; have hcz58_0 : w56.cell? ⟨gb198, 0, none⟩ = some (.slice A0_0 l0_0.length c0_0) := (blk_cell BK198.out 0).trans rfl; have hcz58_1 : w56.cell? ⟨gb198, 1, none⟩ = some (.slice A0_1 l0_1.length c0_1) := (blk_cell BK198.out 1).trans rfl; have hcz58_2 : w56.cell? ⟨gb198, 2, none⟩ = some (.slice A0_2 l0_2.length c0_2) := (blk_cell BK198.out 2).trans rfl; have hfz58_0 := blk_frozen BK198.out 0; have hfz58_1 := blk_frozen BK198.out 1; have hfz58_2 := blk_frozen BK198.out 2) | ((with_reducible refine gate_callee (f := 34) rfl ?_); refine goesL_ (some 9) rfl rfl Try.func34 (by kernel_rfl) rfl #[.agg #[.slice A0_0 l0_0.length c0_0, .slice A0_1 l0_1.length c0_1, .slice A0_2 l0_2.length c0_2]] rfl ln_ ?_; (with_reducible refine (impl_ValidRig.calls k _ _ l0_0 _ _ l0_1 _ _ l0_2 false _ (kc_ (Kd.C_below HR0_0.out HB.out)) HC0_0.out (kc_ (Kd.C_below HR0_1.out HB.out)) HC0_1.out (kc_ (Kd.C_below HR0_2.out HB.out)) HC0_2.out A3.out).mono ?_); rintro e w59 ⟨rfl, hb⟩; refine ⟨_, rfl, ?_⟩; replace BK198 := ak_ (blk_below (g := gb198) (o := .cells #[.slice A0_0 l0_0.length c0_0, .slice A0_1 l0_1.length c0_1, .slice A0_2 l0_2.length c0_2] 31 (0, 0)) (bk_ BK198) hb); replace BK199 := ak_ (blk_below (g := gb199) (o := .cells #[.slice none 0 0, .slice none 0 0, .slice none 0 0] 31 (0, 0)) (bk_ BK199) hb); replace HB := ak_ (below_step (hg2_ GE198 GE199) hb); skip; (try clear hb); (try clear hb2); (try clear hk); (try clear hi); have hcz60_0 : w59.cell? ⟨gb199, 0, none⟩ = some (.slice none 0 0) := (blk_cell BK199.out 0).trans rfl; have hcz60_1 : w59.cell? ⟨gb199, 1, none⟩ = some (.slice none 0 0) := (blk_cell BK199.out 1).trans rfl; have hcz60_2 : w59.cell? ⟨gb199, 2, none⟩ = some (.slice none 0 0) := (blk_cell BK199.out 2).trans rfl; have hfz60_0 := blk_frozen BK199.out 0; have hfz60_1 := blk_frozen BK199.out 1; have hfz60_2 := blk_frozen BK199.out 2))
  refine bodyPost_ret (results_ct rfl _ _ gb199 31 #[.slice none 0 0, .slice none 0 0, .slice none 0 0] (0, 0) _ rfl (by (with_reducible repeat (first | refine blk_drewN ?_ _ | refine blk_drew ?_ | refine blk_alloc ?_ _)); refine blk_put (cs := #[.slice none 0 0, .slice none 0 0, .slice none 0 0]) ?_ 2 _ rfl; (with_reducible repeat (first | refine blk_drewN ?_ _ | refine blk_drew ?_ | refine blk_alloc ?_ _)); refine blk_put (cs := #[.slice none 0 0, .slice none 0 0, .slice none 0 0]) ?_ 1 _ rfl; (with_reducible repeat (first | refine blk_drewN ?_ _ | refine blk_drew ?_ | refine blk_alloc ?_ _)); refine blk_put (cs := #[.slice none 0 0, .slice none 0 0, .slice none 0 0]) ?_ 0 _ rfl; (with_reducible repeat (first | refine blk_drewN ?_ _ | refine blk_drew ?_ | refine blk_alloc ?_ _)); exact BK199.out) Try.underlying31 rfl (by kernel_rfl)) rfl ?_
  exact ⟨_, _, _, ew_, by first | exact Kd.R_nil _ _ _ _ _ | exact Kd.N_nil _ _ _ _ _ | exact Kd.V_nil _ _ _ _ _ | exact Kd.Q_nil _ _ _ _ _ | exact Kd.S_nil _ _ _ _ _, by first | exact Kd.R_nil _ _ _ _ _ | exact Kd.N_nil _ _ _ _ _ | exact Kd.V_nil _ _ _ _ _ | exact Kd.Q_nil _ _ _ _ _ | exact Kd.S_nil _ _ _ _ _, by first | exact Kd.R_nil _ _ _ _ _ | exact Kd.N_nil _ _ _ _ _ | exact Kd.V_nil _ _ _ _ _ | exact Kd.Q_nil _ _ _ _ _ | exact Kd.S_nil _ _ _ _ _, (hg2_ GE198 GE199)⟩

/-! ### laws_eqRail: function 80 -/
def laws_eqRail.f (a0_0 : ByteArray) (a0_1 : ByteArray) (a0_2 : Int) (a1_0 : ByteArray) (a1_1 : ByteArray) (a1_2 : Int) : Option (Bool) := if a0_0.toList = a1_0.toList then (if a0_1.toList = a1_1.toList then (if a0_2 = a1_2 then (some true) else (some false)) else (some false)) else (some false)
set_option maxHeartbeats 8000000 in
set_option maxRecDepth 100000 in
theorem laws_eqRail.calls (a0_0 : ByteArray) (a0_1 : ByteArray) (a0_2 : Int) (a1_0 : ByteArray) (a1_1 : ByteArray) (a1_2 : Int) (r : Bool) (w : World) (h : laws_eqRail.f a0_0 a0_1 a0_2 a1_0 a1_1 a1_2 = some r) :
  Calls Try.prog 80 #[.agg #[.string a0_0, .string a0_1, .int .i64 a0_2], .agg #[.string a1_0, .string a1_1, .int .i64 a1_2]] w fun e w' => e = .returned (.bool r) ∧ Below w.heap.size w w' := by
 have hu91 := Try.underlying91
 have HB := ak_ (Below.refl w.heap.size w)
 have H : (if a0_0.toList = a1_0.toList then (if a0_1.toList = a1_1.toList then (if a0_2 = a1_2 then (some true) else (some false)) else (some false)) else (some false)) = some r := h
 clear h
 by_cases c3 : a0_0.toList = a1_0.toList
 ·rw [if_pos c3] at H
  have c3b0 : (a0_0.toList == a1_0.toList) = true := beq_iff_eq.mpr c3
  have c3b1 : (a0_0.toList != a1_0.toList) = false := bne_eq_false_iff_eq.mpr c3
  clear c3
  by_cases c4 : a0_1.toList = a1_1.toList
  ·rw [if_pos c4] at H
   have c4b0 : (a0_1.toList == a1_1.toList) = true := beq_iff_eq.mpr c4
   have c4b1 : (a0_1.toList != a1_1.toList) = false := bne_eq_false_iff_eq.mpr c4
   clear c4
   by_cases c5 : a0_2 = a1_2
   ·rw [if_pos c5] at H
    have c5b0 : (a0_2 == a1_2) = true := beq_iff_eq.mpr c5
    have c5b1 : (a0_2 != a1_2) = false := bne_eq_false_iff_eq.mpr c5
    clear c5
    obtain rfl := Option.some.inj H
    go_enter Try.func80, Try.ntmps80
    go_wp2_with (first | ((with_reducible refine gate_dst (N := 2) rfl ?_); refine box_event ?hg (N := 2) ?hd (cs := #[.string a0_0, .string a0_1, .int .i64 a0_2]) (t := 91) ?hr ?_; (case hd => rfl); (case hg => rfl); (case hr => first | (go_simp; done) | (go_simp; rfl)); intro gb224 hg w6 hbox hb; have BK224 := ak_ (hbox); have GW224 := ak_ ((by rw [hg]; exact (below_size hb_) : w.heap.size ≤ gb224)); have GE224 := ak_ ((by rw [hg]; exact (below_size hb_) : w.heap.size ≤ gb224)); replace HB := ak_ (below_step hb_ hb); skip; clear hb hbox hg) | ((with_reducible refine gate_dst (N := 3) rfl ?_); refine box_event ?hg (N := 3) ?hd (cs := #[.string a1_0, .string a1_1, .int .i64 a1_2]) (t := 91) ?hr ?_; (case hd => rfl); (case hg => rfl); (case hr => first | (go_simp; done) | (go_simp; rfl)); intro gb225 hg w7 hbox hb; have BK225 := ak_ (hbox); have GW225 := ak_ ((by rw [hg]; exact (below_size (hg_ GE224)) : w.heap.size ≤ gb225)); have GE225 := ak_ ((by rw [hg]; exact (below_size (hg_ GE224)) : w.heap.size ≤ gb225)); replace HB := ak_ (below_step (hg_ GE224) hb); have NB224_225 := ak_ ((by rw [hg]; exact Nat.ne_of_lt (blk_lt (g := gb224) (o := .cells #[.string a0_0, .string a0_1, .int .i64 a0_2] 91 (0, 0)) (bk_ BK224)) : gb224 ≠ gb225)); have NB225_224 := ak_ ((by rw [hg]; exact Nat.ne_of_gt (blk_lt (g := gb224) (o := .cells #[.string a0_0, .string a0_1, .int .i64 a0_2] 91 (0, 0)) (bk_ BK224)) : gb225 ≠ gb224)); replace BK224 := ak_ (blk_below (g := gb224) (o := .cells #[.string a0_0, .string a0_1, .int .i64 a0_2] 91 (0, 0)) (bk_ BK224) hb); skip; clear hb hbox hg; have hnb8 := NB224_225.out; have hnc8 := NB225_224.out; have hcz9_0 : w7.cell? ⟨gb224, 0, none⟩ = some (.string a0_0) := (blk_cell BK224.out 0).trans rfl; have hcz9_1 : w7.cell? ⟨gb224, 1, none⟩ = some (.string a0_1) := (blk_cell BK224.out 1).trans rfl; have hcz9_2 : w7.cell? ⟨gb224, 2, none⟩ = some (.int .i64 a0_2) := (blk_cell BK224.out 2).trans rfl; have hfz9_0 := blk_frozen BK224.out 0; have hfz9_1 := blk_frozen BK224.out 1; have hfz9_2 := blk_frozen BK224.out 2; have hcz10_0 : w7.cell? ⟨gb225, 0, none⟩ = some (.string a1_0) := (blk_cell BK225.out 0).trans rfl; have hcz10_1 : w7.cell? ⟨gb225, 1, none⟩ = some (.string a1_1) := (blk_cell BK225.out 1).trans rfl; have hcz10_2 : w7.cell? ⟨gb225, 2, none⟩ = some (.int .i64 a1_2) := (blk_cell BK225.out 2).trans rfl; have hfz10_0 := blk_frozen BK225.out 0; have hfz10_1 := blk_frozen BK225.out 1; have hfz10_2 := blk_frozen BK225.out 2))
    go_ret
    exact ⟨ew_, (hg2_ GE224 GE225)⟩
   ·rw [if_neg c5] at H
    have c5b0 : (a0_2 == a1_2) = false := beq_eq_false_iff_ne.mpr c5
    have c5b1 : (a0_2 != a1_2) = true := bne_iff_ne.mpr c5
    obtain rfl := Option.some.inj H
    go_enter Try.func80, Try.ntmps80
    go_wp2_with (first | ((with_reducible refine gate_dst (N := 2) rfl ?_); refine box_event ?hg (N := 2) ?hd (cs := #[.string a0_0, .string a0_1, .int .i64 a0_2]) (t := 91) ?hr ?_; (case hd => rfl); (case hg => rfl); (case hr => first | (go_simp; done) | (go_simp; rfl)); intro gb224 hg w11 hbox hb; have BK224 := ak_ (hbox); have GW224 := ak_ ((by rw [hg]; exact (below_size hb_) : w.heap.size ≤ gb224)); have GE224 := ak_ ((by rw [hg]; exact (below_size hb_) : w.heap.size ≤ gb224)); replace HB := ak_ (below_step hb_ hb); skip; clear hb hbox hg) | ((with_reducible refine gate_dst (N := 3) rfl ?_); refine box_event ?hg (N := 3) ?hd (cs := #[.string a1_0, .string a1_1, .int .i64 a1_2]) (t := 91) ?hr ?_; (case hd => rfl); (case hg => rfl); (case hr => first | (go_simp; done) | (go_simp; rfl)); intro gb225 hg w12 hbox hb; have BK225 := ak_ (hbox); have GW225 := ak_ ((by rw [hg]; exact (below_size (hg_ GE224)) : w.heap.size ≤ gb225)); have GE225 := ak_ ((by rw [hg]; exact (below_size (hg_ GE224)) : w.heap.size ≤ gb225)); replace HB := ak_ (below_step (hg_ GE224) hb); have NB224_225 := ak_ ((by rw [hg]; exact Nat.ne_of_lt (blk_lt (g := gb224) (o := .cells #[.string a0_0, .string a0_1, .int .i64 a0_2] 91 (0, 0)) (bk_ BK224)) : gb224 ≠ gb225)); have NB225_224 := ak_ ((by rw [hg]; exact Nat.ne_of_gt (blk_lt (g := gb224) (o := .cells #[.string a0_0, .string a0_1, .int .i64 a0_2] 91 (0, 0)) (bk_ BK224)) : gb225 ≠ gb224)); replace BK224 := ak_ (blk_below (g := gb224) (o := .cells #[.string a0_0, .string a0_1, .int .i64 a0_2] 91 (0, 0)) (bk_ BK224) hb); skip; clear hb hbox hg; have hnb13 := NB224_225.out; have hnc13 := NB225_224.out; have hcz14_0 : w12.cell? ⟨gb224, 0, none⟩ = some (.string a0_0) := (blk_cell BK224.out 0).trans rfl; have hcz14_1 : w12.cell? ⟨gb224, 1, none⟩ = some (.string a0_1) := (blk_cell BK224.out 1).trans rfl; have hcz14_2 : w12.cell? ⟨gb224, 2, none⟩ = some (.int .i64 a0_2) := (blk_cell BK224.out 2).trans rfl; have hfz14_0 := blk_frozen BK224.out 0; have hfz14_1 := blk_frozen BK224.out 1; have hfz14_2 := blk_frozen BK224.out 2; have hcz15_0 : w12.cell? ⟨gb225, 0, none⟩ = some (.string a1_0) := (blk_cell BK225.out 0).trans rfl; have hcz15_1 : w12.cell? ⟨gb225, 1, none⟩ = some (.string a1_1) := (blk_cell BK225.out 1).trans rfl; have hcz15_2 : w12.cell? ⟨gb225, 2, none⟩ = some (.int .i64 a1_2) := (blk_cell BK225.out 2).trans rfl; have hfz15_0 := blk_frozen BK225.out 0; have hfz15_1 := blk_frozen BK225.out 1; have hfz15_2 := blk_frozen BK225.out 2))
    go_ret
    exact ⟨ew_, (hg2_ GE224 GE225)⟩
  ·rw [if_neg c4] at H
   have c4b0 : (a0_1.toList == a1_1.toList) = false := beq_eq_false_iff_ne.mpr c4
   have c4b1 : (a0_1.toList != a1_1.toList) = true := bne_iff_ne.mpr c4
   obtain rfl := Option.some.inj H
   go_enter Try.func80, Try.ntmps80
   go_wp2_with (first | ((with_reducible refine gate_dst (N := 2) rfl ?_); refine box_event ?hg (N := 2) ?hd (cs := #[.string a0_0, .string a0_1, .int .i64 a0_2]) (t := 91) ?hr ?_; (case hd => rfl); (case hg => rfl); (case hr => first | (go_simp; done) | (go_simp; rfl)); intro gb224 hg w16 hbox hb; have BK224 := ak_ (hbox); have GW224 := ak_ ((by rw [hg]; exact (below_size hb_) : w.heap.size ≤ gb224)); have GE224 := ak_ ((by rw [hg]; exact (below_size hb_) : w.heap.size ≤ gb224)); replace HB := ak_ (below_step hb_ hb); skip; clear hb hbox hg) | ((with_reducible refine gate_dst (N := 3) rfl ?_); refine box_event ?hg (N := 3) ?hd (cs := #[.string a1_0, .string a1_1, .int .i64 a1_2]) (t := 91) ?hr ?_; (case hd => rfl); (case hg => rfl); (case hr => first | (go_simp; done) | (go_simp; rfl)); intro gb225 hg w17 hbox hb; have BK225 := ak_ (hbox); have GW225 := ak_ ((by rw [hg]; exact (below_size (hg_ GE224)) : w.heap.size ≤ gb225)); have GE225 := ak_ ((by rw [hg]; exact (below_size (hg_ GE224)) : w.heap.size ≤ gb225)); replace HB := ak_ (below_step (hg_ GE224) hb); have NB224_225 := ak_ ((by rw [hg]; exact Nat.ne_of_lt (blk_lt (g := gb224) (o := .cells #[.string a0_0, .string a0_1, .int .i64 a0_2] 91 (0, 0)) (bk_ BK224)) : gb224 ≠ gb225)); have NB225_224 := ak_ ((by rw [hg]; exact Nat.ne_of_gt (blk_lt (g := gb224) (o := .cells #[.string a0_0, .string a0_1, .int .i64 a0_2] 91 (0, 0)) (bk_ BK224)) : gb225 ≠ gb224)); replace BK224 := ak_ (blk_below (g := gb224) (o := .cells #[.string a0_0, .string a0_1, .int .i64 a0_2] 91 (0, 0)) (bk_ BK224) hb); skip; clear hb hbox hg; have hnb18 := NB224_225.out; have hnc18 := NB225_224.out; have hcz19_0 : w17.cell? ⟨gb224, 0, none⟩ = some (.string a0_0) := (blk_cell BK224.out 0).trans rfl; have hcz19_1 : w17.cell? ⟨gb224, 1, none⟩ = some (.string a0_1) := (blk_cell BK224.out 1).trans rfl; have hcz19_2 : w17.cell? ⟨gb224, 2, none⟩ = some (.int .i64 a0_2) := (blk_cell BK224.out 2).trans rfl; have hfz19_0 := blk_frozen BK224.out 0; have hfz19_1 := blk_frozen BK224.out 1; have hfz19_2 := blk_frozen BK224.out 2; have hcz20_0 : w17.cell? ⟨gb225, 0, none⟩ = some (.string a1_0) := (blk_cell BK225.out 0).trans rfl; have hcz20_1 : w17.cell? ⟨gb225, 1, none⟩ = some (.string a1_1) := (blk_cell BK225.out 1).trans rfl; have hcz20_2 : w17.cell? ⟨gb225, 2, none⟩ = some (.int .i64 a1_2) := (blk_cell BK225.out 2).trans rfl; have hfz20_0 := blk_frozen BK225.out 0; have hfz20_1 := blk_frozen BK225.out 1; have hfz20_2 := blk_frozen BK225.out 2))
   go_ret
   exact ⟨ew_, (hg2_ GE224 GE225)⟩
 ·rw [if_neg c3] at H
  have c3b0 : (a0_0.toList == a1_0.toList) = false := beq_eq_false_iff_ne.mpr c3
  have c3b1 : (a0_0.toList != a1_0.toList) = true := bne_iff_ne.mpr c3
  obtain rfl := Option.some.inj H
  go_enter Try.func80, Try.ntmps80
  go_wp2_with (first | ((with_reducible refine gate_dst (N := 2) rfl ?_); refine box_event ?hg (N := 2) ?hd (cs := #[.string a0_0, .string a0_1, .int .i64 a0_2]) (t := 91) ?hr ?_; (case hd => rfl); (case hg => rfl); (case hr => first | (go_simp; done) | (go_simp; rfl)); intro gb224 hg w21 hbox hb; have BK224 := ak_ (hbox); have GW224 := ak_ ((by rw [hg]; exact (below_size hb_) : w.heap.size ≤ gb224)); have GE224 := ak_ ((by rw [hg]; exact (below_size hb_) : w.heap.size ≤ gb224)); replace HB := ak_ (below_step hb_ hb); skip; clear hb hbox hg) | ((with_reducible refine gate_dst (N := 3) rfl ?_); refine box_event ?hg (N := 3) ?hd (cs := #[.string a1_0, .string a1_1, .int .i64 a1_2]) (t := 91) ?hr ?_; (case hd => rfl); (case hg => rfl); (case hr => first | (go_simp; done) | (go_simp; rfl)); intro gb225 hg w22 hbox hb; have BK225 := ak_ (hbox); have GW225 := ak_ ((by rw [hg]; exact (below_size (hg_ GE224)) : w.heap.size ≤ gb225)); have GE225 := ak_ ((by rw [hg]; exact (below_size (hg_ GE224)) : w.heap.size ≤ gb225)); replace HB := ak_ (below_step (hg_ GE224) hb); have NB224_225 := ak_ ((by rw [hg]; exact Nat.ne_of_lt (blk_lt (g := gb224) (o := .cells #[.string a0_0, .string a0_1, .int .i64 a0_2] 91 (0, 0)) (bk_ BK224)) : gb224 ≠ gb225)); have NB225_224 := ak_ ((by rw [hg]; exact Nat.ne_of_gt (blk_lt (g := gb224) (o := .cells #[.string a0_0, .string a0_1, .int .i64 a0_2] 91 (0, 0)) (bk_ BK224)) : gb225 ≠ gb224)); replace BK224 := ak_ (blk_below (g := gb224) (o := .cells #[.string a0_0, .string a0_1, .int .i64 a0_2] 91 (0, 0)) (bk_ BK224) hb); skip; clear hb hbox hg; have hnb23 := NB224_225.out; have hnc23 := NB225_224.out; have hcz24_0 : w22.cell? ⟨gb224, 0, none⟩ = some (.string a0_0) := (blk_cell BK224.out 0).trans rfl; have hcz24_1 : w22.cell? ⟨gb224, 1, none⟩ = some (.string a0_1) := (blk_cell BK224.out 1).trans rfl; have hcz24_2 : w22.cell? ⟨gb224, 2, none⟩ = some (.int .i64 a0_2) := (blk_cell BK224.out 2).trans rfl; have hfz24_0 := blk_frozen BK224.out 0; have hfz24_1 := blk_frozen BK224.out 1; have hfz24_2 := blk_frozen BK224.out 2; have hcz25_0 : w22.cell? ⟨gb225, 0, none⟩ = some (.string a1_0) := (blk_cell BK225.out 0).trans rfl; have hcz25_1 : w22.cell? ⟨gb225, 1, none⟩ = some (.string a1_1) := (blk_cell BK225.out 1).trans rfl; have hcz25_2 : w22.cell? ⟨gb225, 2, none⟩ = some (.int .i64 a1_2) := (blk_cell BK225.out 2).trans rfl; have hfz25_0 := blk_frozen BK225.out 0; have hfz25_1 := blk_frozen BK225.out 1; have hfz25_2 := blk_frozen BK225.out 2))
  go_ret
  exact ⟨ew_, (hg2_ GE224 GE225)⟩

/-! ### laws_eqRailS: function 46 -/
def laws_eqRailS.l0 : Nat → List (S91) → List (S91) → Int → Option (Bool)
 | 0, _, _, _ => none
 | k + 1, x0, x1, x5 => if x5 < (x0.length : Int) then (if 0 ≤ x5 then (if x5 < (x1.length : Int) then ((laws_eqRail.f ((rd_T91 x0 x5).f0) ((rd_T91 x0 x5).f1) ((rd_T91 x0 x5).f2) ((rd_T91 x1 x5).f0) ((rd_T91 x1 x5).f1) ((rd_T91 x1 x5).f2)).bind fun t228 => (if t228 = true then (laws_eqRailS.l0 k x0 x1 (wrap64 (x5 + 1))) else (some false))) else (none)) else (none)) else (some true)
def laws_eqRailS.f (k : Nat) (l0 : List (S91)) (l1 : List (S91)) : Option (Bool) := if (l0.length : Int) = (l1.length : Int) then (laws_eqRailS.l0 k l0 l1 0) else (some false)
def laws_eqRailS.T6 : Bool × List (List Nat × List Nat) := (true, [([], []), ([], []), ([0, 1], [0, 1]), ([2], [2]), ([], []), ([], []), ([4, 5], [4, 5]), ([6], [6]), ([3, 7], [3, 7]), ([8], [8])])
def laws_eqRailS.B6 : List Nat := [0, 0, 3, 7, 0, 0, 48, 112, 255, 511]
theorem laws_eqRailS.tab6 : rtab .any (opsOf Try.f46 6) = laws_eqRailS.T6 := by kernel_rfl
theorem laws_eqRailS.bits6 : waitsOk laws_eqRailS.T6.2 laws_eqRailS.B6 = true := by kernel_rfl
set_option maxHeartbeats 8000000 in
set_option maxRecDepth 100000 in
theorem laws_eqRailS.calls (k : Nat) (A0 : Option Addr) (c0 : Nat) (l0 : List (S91)) (A1 : Option Addr) (c1 : Nat) (l1 : List (S91)) (r : Bool) (w : World) (hr0 : Kd.C k91 w A0 l0.length l0) (hc0 : l0.length ≤ c0) (hr1 : Kd.C k91 w A1 l1.length l1) (hc1 : l1.length ≤ c1) (h : laws_eqRailS.f k l0 l1 = some r) :
  Calls Try.prog 46 #[.slice A0 l0.length c0, .slice A1 l1.length c1] w fun e w' => e = .returned (.bool r) ∧ Below w.heap.size w w' := by
 have hu91 := Try.underlying91
 have HR0 := ak_ hr0
 have HC0 := ak_ hc0
 clear hr0 hc0
 have HR1 := ak_ hr1
 have HC1 := ak_ hc1
 clear hr1 hc1
 have HB := ak_ (Below.refl w.heap.size w)
 have H : (if (l0.length : Int) = (l1.length : Int) then (laws_eqRailS.l0 k l0 l1 0) else (some false)) = some r := h
 clear h
 by_cases c3 : (l0.length : Int) = (l1.length : Int)
 ·rw [if_pos c3] at H
  have c3b0 : ((l0.length : Int) == (l1.length : Int)) = true := beq_iff_eq.mpr c3
  have c3b1 : ((l0.length : Int) != (l1.length : Int)) = false := bne_eq_false_iff_eq.mpr c3
  have c3b2 : (l0.length == l1.length) = true := by first | simpa using c3 | (simp at c3 ⊢; omega)
  clear c3
  have H' := ak_ H
  clear H
  go_enter Try.func46, Try.ntmps46
  go_wp2
  go_loopg [5] k (fun kq v5 w' => ∃ (x5_1 : Int), v5 = .int .i64 x5_1 ∧ Aside0 (laws_eqRailS.l0 kq l0 l1 x5_1 = some r) ∧ Aside0 (kq ≤ k) ∧ Aside0 (Below w.heap.size w w'))
  case atStart => exact ⟨(0), fr_, H', ⟨Nat.le_refl _⟩, ⟨hb_⟩⟩
  case round =>
   clear H'
   try clear c1
   try clear p2
   try clear c3
   try clear c3b0
   try clear c3b1
   try clear c3b2
   obtain ⟨x5_1, rfl, HA, HK1, HB⟩ := hrel
   cases gk with
   | zero => exact absurd HA.out (by simp [laws_eqRailS.l0])
   | succ k1 =>
    have H := HA.out
    clear HA
    simp only [laws_eqRailS.l0] at H
    by_cases c4 : x5_1 < (l0.length : Int)
    ·rw [if_pos c4] at H
     have c4b0 : decide (x5_1 < (l0.length : Int)) = true := dt_ c4
     clear c4
     by_cases c5 : 0 ≤ x5_1
     ·rw [if_pos c5] at H
      have c5b0 : decide (0 ≤ x5_1) = true := dt_ c5
      clear c5
      by_cases c6 : x5_1 < (l1.length : Int)
      ·rw [if_pos c6] at H
       have c6b0 : decide (x5_1 < (l1.length : Int)) = true := dt_ c6
       clear c6
       replace H := ob_ H
       obtain ⟨t228, A70, H⟩ := H
       (try dsimp only at H)
       have A7 := ak_ A70
       clear A70
       by_cases c8 : t228 = true
       ·subst c8
        have H1 : (laws_eqRailS.l0 k1 l0 l1 (wrap64 (x5_1 + 1))) = some r := by rw [if_pos rfl] at H; exact H
        clear H
        have H := H1
        clear H1
        have H' := ak_ H
        clear H
        try go_wp2
        have n0_ := ak_ (below_drew1 HB.out)
        clear HB
        have HB := n0_
        clear n0_
        have p226 : 0 ≤ (x5_1 : Int) := od_
        have q226 : x5_1 < (l0.length : Int) := od_
        obtain ⟨ad226, e226, hx226_0, hx226_1, hx226_2⟩ := at_T91 HR0.out x5_1 p226 q226
        have hw226_2 := hx226_2
        have hw226_1 := hx226_1
        have hw226_0 := hx226_0
        cases e226
        replace hx226_0 := cq_ HB hx226_0
        replace hx226_1 := cq_ HB hx226_1
        replace hx226_2 := cq_ HB hx226_2
        replace p226 := eq_true p226
        replace q226 := eq_true q226
        have p227 : 0 ≤ (x5_1 : Int) := od_
        have q227 : x5_1 < (l1.length : Int) := od_
        obtain ⟨ad227, e227, hx227_0, hx227_1, hx227_2⟩ := at_T91 HR1.out x5_1 p227 q227
        have hw227_2 := hx227_2
        have hw227_1 := hx227_1
        have hw227_0 := hx227_0
        cases e227
        replace hx227_0 := cq_ HB hx227_0
        replace hx227_1 := cq_ HB hx227_1
        replace hx227_2 := cq_ HB hx227_2
        replace p227 := eq_true p227
        replace q227 := eq_true q227
        refine start_ (n := 10) (S := fun w' => w'.cell? (ad226.add ((x5_1).toNat * 3)) = some (.string ((rd_T91 l0 x5_1).f0)) ∧ w'.cell? ⟨(ad226.add ((x5_1).toNat * 3)).block, (ad226.add ((x5_1).toNat * 3)).off + 1, none⟩ = some (.string ((rd_T91 l0 x5_1).f1)) ∧ w'.cell? ⟨(ad226.add ((x5_1).toNat * 3)).block, (ad226.add ((x5_1).toNat * 3)).off + 2, none⟩ = some (.int .i64 ((rd_T91 l0 x5_1).f2)) ∧ w'.cell? (ad227.add ((x5_1).toNat * 3)) = some (.string ((rd_T91 l1 x5_1).f0)) ∧ w'.cell? ⟨(ad227.add ((x5_1).toNat * 3)).block, (ad227.add ((x5_1).toNat * 3)).off + 1, none⟩ = some (.string ((rd_T91 l1 x5_1).f1)) ∧ w'.cell? ⟨(ad227.add ((x5_1).toNat * 3)).block, (ad227.add ((x5_1).toNat * 3)).off + 2, none⟩ = some (.int .i64 ((rd_T91 l1 x5_1).f2))) (ds := []) #[F_,F_,F_,F_,F_,F_,F_,F_,F_,F_] (by kernel_rfl) rfl rfl ⟨((HB.out.cell (lt_ w _ hw226_0)).trans hw226_0), ((HB.out.cell (lt_ w _ hw226_1)).trans hw226_1), ((HB.out.cell (lt_ w _ hw226_2)).trans hw226_2), ((HB.out.cell (lt_ w _ hw227_0)).trans hw227_0), ((HB.out.cell (lt_ w _ hw227_1)).trans hw227_1), ((HB.out.cell (lt_ w _ hw227_2)).trans hw227_2)⟩ (fun hHeld => ?_); refine with_tabW laws_eqRailS.tab6 laws_eqRailS.bits6 (fun HT_ HW_ => ?_)
        generalize wr.drew = w9 at HB hx226_0 hx226_1 hx226_2 hx227_0 hx227_1 hx227_2 hHeld ⊢
        refine pv (i := 0) (N := some 17) HT_ ?_
        refine pv (i := 1) (N := some 18) HT_ ?_
        refine pv (i := 2) (N := some 19) HT_ ?_
        refine pv (i := 4) (N := some 21) HT_ ?_
        refine pv (i := 5) (N := some 22) HT_ ?_
        refine pv (i := 6) (N := some 23) HT_ ?_
        refine take_ (i := 3) (N := some 20) (v := ?_) (a' := ?_) #[T_,T_,T_,T_,T_,T_,T_,F_,F_,F_] rfl rfl (take_ofW HT_.out HW_.out (by kernel_rfl)) (fun _ _ _ h => h) (Or.inl ⟨by rfl, ?_⟩) hHeld ?_ ?_
        rotate_left
        ·rintro w' ⟨s0, s1, s2, s3, s4, s5⟩
         go_simp
         with_reducible rfl
        rotate_left
        ·simp only [Act.put, sT_, s0_, sS_, i64_w, i32_w]
         rfl
        refine take_ (i := 7) (N := some 24) (v := ?_) (a' := ?_) #[T_,T_,T_,T_,T_,T_,T_,T_,F_,F_] rfl rfl (take_ofW HT_.out HW_.out (by kernel_rfl)) (fun _ _ _ h => h) (Or.inl ⟨by rfl, ?_⟩) hHeld ?_ ?_
        rotate_left
        ·rintro w' ⟨s0, s1, s2, s3, s4, s5⟩
         go_simp
         with_reducible rfl
        rotate_left
        ·simp only [Act.put, sT_, s0_, sS_, i64_w, i32_w]
         rfl
        refine one_ (i := 8) (N := some 25) #[T_,T_,T_,T_,T_,T_,T_,T_,T_,F_] rfl rfl (one_of HT_.out (by kernel_rfl)) (by decide) (fun K hK => ?_)
        refine goes_ Try.func80 (by kernel_rfl) rfl #[.agg #[.string ((rd_T91 l0 x5_1).f0), .string ((rd_T91 l0 x5_1).f1), .int .i64 ((rd_T91 l0 x5_1).f2)], .agg #[.string ((rd_T91 l1 x5_1).f0), .string ((rd_T91 l1 x5_1).f1), .int .i64 ((rd_T91 l1 x5_1).f2)]] (by rfl) rfl rfl ln_ ?_
        with_reducible refine (laws_eqRail.calls ((rd_T91 l0 x5_1).f0) ((rd_T91 l0 x5_1).f1) ((rd_T91 l0 x5_1).f2) ((rd_T91 l1 x5_1).f0) ((rd_T91 l1 x5_1).f1) ((rd_T91 l1 x5_1).f2) true _ A7.out).mono ?_
        rintro e w10 ⟨rfl, hb⟩
        refine ⟨_, rfl, ?_⟩
        have n0_ := ak_ (below_step hb_ hb)
        clear HB
        have HB := n0_
        clear n0_
        (try clear hb)
        (try clear hb2)
        (try clear hk)
        (try clear hi)
        refine hK.out _ _ ⟨((HB.out.cell (lt_ w _ hw226_0)).trans hw226_0), ((HB.out.cell (lt_ w _ hw226_1)).trans hw226_1), ((HB.out.cell (lt_ w _ hw226_2)).trans hw226_2), ((HB.out.cell (lt_ w _ hw227_0)).trans hw227_0), ((HB.out.cell (lt_ w _ hw227_1)).trans hw227_1), ((HB.out.cell (lt_ w _ hw227_2)).trans hw227_2)⟩ (fun hHeld => ?_)
        clear hK K
        refine norm_ (a' := ?_) ?_ ?_
        rotate_left
        ·show Act.put _ (some 25) _ = _
         simp only [Act.put, sT_, s0_, sS_, i64_w, i32_w]
         rfl
        refine pv (i := 9) (N := some 26) HT_ ?_
        refine done_ (done_of HT_.out (by kernel_rfl)) ?_
        try go_wp2
        go_roundg k1
        case measure => have := HK1.out; omega
        case rel => exact ⟨(wrap64 (x5_1 + 1)), fr_, H', ⟨by have := HK1.out; omega⟩, ⟨hb_⟩⟩
       ·replace c8 := Bool.eq_false_iff.mpr c8
        subst c8
        have H1 : (some false) = some r := by rw [if_neg (show ¬ (false = true) by decide)] at H; exact H
        clear H
        have H := H1
        clear H1
        obtain rfl := Option.some.inj H
        try go_wp2
        have n0_ := ak_ (below_drew1 HB.out)
        clear HB
        have HB := n0_
        clear n0_
        have p226 : 0 ≤ (x5_1 : Int) := od_
        have q226 : x5_1 < (l0.length : Int) := od_
        obtain ⟨ad226, e226, hx226_0, hx226_1, hx226_2⟩ := at_T91 HR0.out x5_1 p226 q226
        have hw226_2 := hx226_2
        have hw226_1 := hx226_1
        have hw226_0 := hx226_0
        cases e226
        replace hx226_0 := cq_ HB hx226_0
        replace hx226_1 := cq_ HB hx226_1
        replace hx226_2 := cq_ HB hx226_2
        replace p226 := eq_true p226
        replace q226 := eq_true q226
        have p227 : 0 ≤ (x5_1 : Int) := od_
        have q227 : x5_1 < (l1.length : Int) := od_
        obtain ⟨ad227, e227, hx227_0, hx227_1, hx227_2⟩ := at_T91 HR1.out x5_1 p227 q227
        have hw227_2 := hx227_2
        have hw227_1 := hx227_1
        have hw227_0 := hx227_0
        cases e227
        replace hx227_0 := cq_ HB hx227_0
        replace hx227_1 := cq_ HB hx227_1
        replace hx227_2 := cq_ HB hx227_2
        replace p227 := eq_true p227
        replace q227 := eq_true q227
        refine start_ (n := 10) (S := fun w' => w'.cell? (ad226.add ((x5_1).toNat * 3)) = some (.string ((rd_T91 l0 x5_1).f0)) ∧ w'.cell? ⟨(ad226.add ((x5_1).toNat * 3)).block, (ad226.add ((x5_1).toNat * 3)).off + 1, none⟩ = some (.string ((rd_T91 l0 x5_1).f1)) ∧ w'.cell? ⟨(ad226.add ((x5_1).toNat * 3)).block, (ad226.add ((x5_1).toNat * 3)).off + 2, none⟩ = some (.int .i64 ((rd_T91 l0 x5_1).f2)) ∧ w'.cell? (ad227.add ((x5_1).toNat * 3)) = some (.string ((rd_T91 l1 x5_1).f0)) ∧ w'.cell? ⟨(ad227.add ((x5_1).toNat * 3)).block, (ad227.add ((x5_1).toNat * 3)).off + 1, none⟩ = some (.string ((rd_T91 l1 x5_1).f1)) ∧ w'.cell? ⟨(ad227.add ((x5_1).toNat * 3)).block, (ad227.add ((x5_1).toNat * 3)).off + 2, none⟩ = some (.int .i64 ((rd_T91 l1 x5_1).f2))) (ds := []) #[F_,F_,F_,F_,F_,F_,F_,F_,F_,F_] (by kernel_rfl) rfl rfl ⟨((HB.out.cell (lt_ w _ hw226_0)).trans hw226_0), ((HB.out.cell (lt_ w _ hw226_1)).trans hw226_1), ((HB.out.cell (lt_ w _ hw226_2)).trans hw226_2), ((HB.out.cell (lt_ w _ hw227_0)).trans hw227_0), ((HB.out.cell (lt_ w _ hw227_1)).trans hw227_1), ((HB.out.cell (lt_ w _ hw227_2)).trans hw227_2)⟩ (fun hHeld => ?_); refine with_tabW laws_eqRailS.tab6 laws_eqRailS.bits6 (fun HT_ HW_ => ?_)
        generalize wr.drew = w11 at HB hx226_0 hx226_1 hx226_2 hx227_0 hx227_1 hx227_2 hHeld ⊢
        refine pv (i := 0) (N := some 17) HT_ ?_
        refine pv (i := 1) (N := some 18) HT_ ?_
        refine pv (i := 2) (N := some 19) HT_ ?_
        refine pv (i := 4) (N := some 21) HT_ ?_
        refine pv (i := 5) (N := some 22) HT_ ?_
        refine pv (i := 6) (N := some 23) HT_ ?_
        refine take_ (i := 3) (N := some 20) (v := ?_) (a' := ?_) #[T_,T_,T_,T_,T_,T_,T_,F_,F_,F_] rfl rfl (take_ofW HT_.out HW_.out (by kernel_rfl)) (fun _ _ _ h => h) (Or.inl ⟨by rfl, ?_⟩) hHeld ?_ ?_
        rotate_left
        ·rintro w' ⟨s0, s1, s2, s3, s4, s5⟩
         go_simp
         with_reducible rfl
        rotate_left
        ·simp only [Act.put, sT_, s0_, sS_, i64_w, i32_w]
         rfl
        refine take_ (i := 7) (N := some 24) (v := ?_) (a' := ?_) #[T_,T_,T_,T_,T_,T_,T_,T_,F_,F_] rfl rfl (take_ofW HT_.out HW_.out (by kernel_rfl)) (fun _ _ _ h => h) (Or.inl ⟨by rfl, ?_⟩) hHeld ?_ ?_
        rotate_left
        ·rintro w' ⟨s0, s1, s2, s3, s4, s5⟩
         go_simp
         with_reducible rfl
        rotate_left
        ·simp only [Act.put, sT_, s0_, sS_, i64_w, i32_w]
         rfl
        refine one_ (i := 8) (N := some 25) #[T_,T_,T_,T_,T_,T_,T_,T_,T_,F_] rfl rfl (one_of HT_.out (by kernel_rfl)) (by decide) (fun K hK => ?_)
        refine goes_ Try.func80 (by kernel_rfl) rfl #[.agg #[.string ((rd_T91 l0 x5_1).f0), .string ((rd_T91 l0 x5_1).f1), .int .i64 ((rd_T91 l0 x5_1).f2)], .agg #[.string ((rd_T91 l1 x5_1).f0), .string ((rd_T91 l1 x5_1).f1), .int .i64 ((rd_T91 l1 x5_1).f2)]] (by rfl) rfl rfl ln_ ?_
        with_reducible refine (laws_eqRail.calls ((rd_T91 l0 x5_1).f0) ((rd_T91 l0 x5_1).f1) ((rd_T91 l0 x5_1).f2) ((rd_T91 l1 x5_1).f0) ((rd_T91 l1 x5_1).f1) ((rd_T91 l1 x5_1).f2) false _ A7.out).mono ?_
        rintro e w12 ⟨rfl, hb⟩
        refine ⟨_, rfl, ?_⟩
        have n0_ := ak_ (below_step hb_ hb)
        clear HB
        have HB := n0_
        clear n0_
        (try clear hb)
        (try clear hb2)
        (try clear hk)
        (try clear hi)
        refine hK.out _ _ ⟨((HB.out.cell (lt_ w _ hw226_0)).trans hw226_0), ((HB.out.cell (lt_ w _ hw226_1)).trans hw226_1), ((HB.out.cell (lt_ w _ hw226_2)).trans hw226_2), ((HB.out.cell (lt_ w _ hw227_0)).trans hw227_0), ((HB.out.cell (lt_ w _ hw227_1)).trans hw227_1), ((HB.out.cell (lt_ w _ hw227_2)).trans hw227_2)⟩ (fun hHeld => ?_)
        clear hK K
        refine norm_ (a' := ?_) ?_ ?_
        rotate_left
        ·show Act.put _ (some 25) _ = _
         simp only [Act.put, sT_, s0_, sS_, i64_w, i32_w]
         rfl
        refine pv (i := 9) (N := some 26) HT_ ?_
        refine done_ (done_of HT_.out (by kernel_rfl)) ?_
        try go_wp2
        go_ret
        exact ⟨ew_, hb_⟩
      ·rw [if_neg c6] at H
       exact absurd H (by simp)
     ·rw [if_neg c5] at H
      exact absurd H (by simp)
    ·rw [if_neg c4] at H
     have c4b0 : decide (x5_1 < (l0.length : Int)) = false := decide_eq_false c4
     clear c4
     obtain rfl := Option.some.inj H
     go_wp2
     go_ret
     exact ⟨ew_, hb_⟩
 ·rw [if_neg c3] at H
  have c3b0 : ((l0.length : Int) == (l1.length : Int)) = false := beq_eq_false_iff_ne.mpr c3
  have c3b1 : ((l0.length : Int) != (l1.length : Int)) = true := bne_iff_ne.mpr c3
  have c3b2 : (l0.length == l1.length) = false := by first | simpa using c3 | (simp at c3 ⊢; omega)
  obtain rfl := Option.some.inj H
  go_enter Try.func46, Try.ntmps46
  go_wp2
  go_ret
  exact ⟨ew_, hb_⟩

/-! ### laws_eqStringS: function 47 -/
def laws_eqStringS.l0 : Nat → List ByteArray → List ByteArray → Int → Option (Bool)
 | 0, _, _, _ => none
 | k + 1, x0, x1, x5 => if x5 < (x0.length : Int) then (if 0 ≤ x5 then (if x5 < (x1.length : Int) then (if (rdOf ByteArray.empty x0 x5).toList = (rdOf ByteArray.empty x1 x5).toList then (laws_eqStringS.l0 k x0 x1 (wrap64 (x5 + 1))) else (some false)) else (none)) else (none)) else (some true)
def laws_eqStringS.f (k : Nat) (l0 : List ByteArray) (l1 : List ByteArray) : Option (Bool) := if (l0.length : Int) = (l1.length : Int) then (laws_eqStringS.l0 k l0 l1 0) else (some false)
set_option maxHeartbeats 8000000 in
set_option maxRecDepth 100000 in
theorem laws_eqStringS.calls (k : Nat) (A0 : Option Addr) (c0 : Nat) (l0 : List ByteArray) (A1 : Option Addr) (c1 : Nat) (l1 : List ByteArray) (r : Bool) (w : World) (hr0 : Kd.C Kd.string w A0 l0.length l0) (hc0 : l0.length ≤ c0) (hr1 : Kd.C Kd.string w A1 l1.length l1) (hc1 : l1.length ≤ c1) (h : laws_eqStringS.f k l0 l1 = some r) :
  Calls Try.prog 47 #[.slice A0 l0.length c0, .slice A1 l1.length c1] w fun e w' => e = .returned (.bool r) ∧ Drawn0 w w' := by
 have HR0 := ak_ hr0
 have HC0 := ak_ hc0
 clear hr0 hc0
 have HR1 := ak_ hr1
 have HC1 := ak_ hc1
 clear hr1 hc1
 have H : (if (l0.length : Int) = (l1.length : Int) then (laws_eqStringS.l0 k l0 l1 0) else (some false)) = some r := h
 clear h
 by_cases c3 : (l0.length : Int) = (l1.length : Int)
 ·rw [if_pos c3] at H
  have c3b0 : ((l0.length : Int) == (l1.length : Int)) = true := beq_iff_eq.mpr c3
  have c3b1 : ((l0.length : Int) != (l1.length : Int)) = false := bne_eq_false_iff_eq.mpr c3
  have c3b2 : (l0.length == l1.length) = true := by first | simpa using c3 | (simp at c3 ⊢; omega)
  clear c3
  have H' := ak_ H
  clear H
  go_enter Try.func47, Try.ntmps47
  go_wp2
  repeat (go_quiet (fail); try go_wp2)
  go_loopg [5] k (fun kq v5 w' => ∃ (x5_1 : Int), v5 = .int .i64 x5_1 ∧ Aside0 (laws_eqStringS.l0 kq l0 l1 x5_1 = some r) ∧ Aside0 (kq ≤ k) ∧ Drawn0 w w')
  case atStart => exact ⟨(0), fr_, H', ⟨Nat.le_refl _⟩, by repeat (first | exact Drawn0.refl _ | apply Drawn0.step)⟩
  case round =>
   clear H'
   try clear c1
   try clear p2
   try clear c3
   try clear c3b0
   try clear c3b1
   try clear c3b2
   obtain ⟨x5_1, rfl, HA, HK1, ⟨m1, rfl⟩⟩ := hrel
   cases gk with
   | zero => exact absurd HA.out (by simp [laws_eqStringS.l0])
   | succ k1 =>
    have H := HA.out
    clear HA
    simp only [laws_eqStringS.l0] at H
    by_cases c4 : x5_1 < (l0.length : Int)
    ·rw [if_pos c4] at H
     have c4b0 : decide (x5_1 < (l0.length : Int)) = true := dt_ c4
     clear c4
     by_cases c5 : 0 ≤ x5_1
     ·rw [if_pos c5] at H
      have c5b0 : decide (0 ≤ x5_1) = true := dt_ c5
      clear c5
      by_cases c6 : x5_1 < (l1.length : Int)
      ·rw [if_pos c6] at H
       have c6b0 : decide (x5_1 < (l1.length : Int)) = true := dt_ c6
       clear c6
       by_cases c7 : (rdOf ByteArray.empty l0 x5_1).toList = (rdOf ByteArray.empty l1 x5_1).toList
       ·rw [if_pos c7] at H
        have c7b0 : ((rdOf ByteArray.empty l0 x5_1).toList == (rdOf ByteArray.empty l1 x5_1).toList) = true := beq_iff_eq.mpr c7
        have c7b1 : ((rdOf ByteArray.empty l0 x5_1).toList != (rdOf ByteArray.empty l1 x5_1).toList) = false := bne_eq_false_iff_eq.mpr c7
        clear c7
        have H' := ak_ H
        clear H
        have p229 : 0 ≤ (x5_1 : Int) := od_
        have q229 : x5_1 < (l0.length : Int) := od_
        obtain ⟨ad229, e229, hx229_0⟩ := Kd.at_string HR0.out x5_1 p229 q229
        cases e229
        replace p229 := eq_true p229
        replace q229 := eq_true q229
        have p230 : 0 ≤ (x5_1 : Int) := od_
        have q230 : x5_1 < (l1.length : Int) := od_
        obtain ⟨ad230, e230, hx230_0⟩ := Kd.at_string HR1.out x5_1 p230 q230
        cases e230
        replace p230 := eq_true p230
        replace q230 := eq_true q230
        go_wp2
        repeat (go_quiet (fail); try go_wp2)
        go_roundg k1
        case measure => have := HK1.out; omega
        case rel => exact ⟨(wrap64 (x5_1 + 1)), fr_, H', ⟨by have := HK1.out; omega⟩, by repeat (first | exact Drawn0.refl _ | apply Drawn0.step)⟩
       ·rw [if_neg c7] at H
        have c7b0 : ((rdOf ByteArray.empty l0 x5_1).toList == (rdOf ByteArray.empty l1 x5_1).toList) = false := beq_eq_false_iff_ne.mpr c7
        have c7b1 : ((rdOf ByteArray.empty l0 x5_1).toList != (rdOf ByteArray.empty l1 x5_1).toList) = true := bne_iff_ne.mpr c7
        obtain rfl := Option.some.inj H
        have p229 : 0 ≤ (x5_1 : Int) := od_
        have q229 : x5_1 < (l0.length : Int) := od_
        obtain ⟨ad229, e229, hx229_0⟩ := Kd.at_string HR0.out x5_1 p229 q229
        cases e229
        replace p229 := eq_true p229
        replace q229 := eq_true q229
        have p230 : 0 ≤ (x5_1 : Int) := od_
        have q230 : x5_1 < (l1.length : Int) := od_
        obtain ⟨ad230, e230, hx230_0⟩ := Kd.at_string HR1.out x5_1 p230 q230
        cases e230
        replace p230 := eq_true p230
        replace q230 := eq_true q230
        go_wp2
        repeat (go_quiet (fail); try go_wp2)
        go_ret
        exact ⟨by first | rfl | (simp; done) | (simp [*]; done), by repeat (first | exact Drawn0.refl _ | apply Drawn0.step)⟩
      ·rw [if_neg c6] at H
       exact absurd H (by simp)
     ·rw [if_neg c5] at H
      exact absurd H (by simp)
    ·rw [if_neg c4] at H
     have c4b0 : decide (x5_1 < (l0.length : Int)) = false := decide_eq_false c4
     clear c4
     obtain rfl := Option.some.inj H
     go_wp2
     repeat (go_quiet (fail); try go_wp2)
     go_ret
     exact ⟨by first | rfl | (simp; done) | (simp [*]; done), by repeat (first | exact Drawn0.refl _ | apply Drawn0.step)⟩
 ·rw [if_neg c3] at H
  have c3b0 : ((l0.length : Int) == (l1.length : Int)) = false := beq_eq_false_iff_ne.mpr c3
  have c3b1 : ((l0.length : Int) != (l1.length : Int)) = true := bne_iff_ne.mpr c3
  have c3b2 : (l0.length == l1.length) = false := by first | simpa using c3 | (simp at c3 ⊢; omega)
  obtain rfl := Option.some.inj H
  go_enter Try.func47, Try.ntmps47
  go_wp2
  repeat (go_quiet (fail); try go_wp2)
  go_ret
  exact ⟨by first | rfl | (simp; done) | (simp [*]; done), by repeat (first | exact Drawn0.refl _ | apply Drawn0.step)⟩

end Go.Proofs.Ytcenjcgfdghfnaa.P
end
