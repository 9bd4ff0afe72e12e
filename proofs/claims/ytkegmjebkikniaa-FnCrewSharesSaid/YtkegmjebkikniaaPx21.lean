-- Written by gprint.py (own program, over the printer of the kit) out of the translation. Lean checks it.
import Derived.Test.YtkegmjebkikniaaPx0
import Derived.Test.YtkegmjebkikniaaPx3
import Derived.Test.YtkegmjebkikniaaPx6
import Derived.Test.YtkegmjebkikniaaPx10
import Derived.Test.YtkegmjebkikniaaPx20
import Derived.Test.YtkegmjebkikniaaPx22
import Derived.Test.YtkegmjebkikniaaPx23
import Derived.Test.YtkegmjebkikniaaWPk
namespace Go.Proofs.Ytkegmjebkikniaa.P
open Go.RowKit Go.Proofs.YtkegmjebkikniaaW.PrintWords Go.Proofs.YtkegmjebkikniaaW.PrintLast Go.Proofs.YtkegmjebkikniaaW.PrintMore Go.Proofs.YtkegmjebkikniaaW.Pk
open Bool renaming true → T_, false → F_
open List renaming setIfInBounds_toArray → sT_, set_cons_zero → s0_, set_cons_succ → sS_
attribute [local go_sem] max2_int min2_int max_two min_two max_three min_three max_four min_four   -- for this text's walks alone
set_option linter.unusedVariables false
set_option linter.unusedSimpArgs false

/-! ### spec_l22S_walk: function 72 -/
-- (by hand)
open Go.Proofs.YtkegmjebkikniaaW.Hand
theorem own_fS (o : List Int) (h : o.length ≤ 100) : spec_l00Own.f o = some o := by
 unfold spec_l00Own.f
 simp only [Option.bind_some, List.length_nil, Nat.zero_add, List.nil_append]
 rw [if_pos (by omega)]
/-- The crews that are found when the pieces that are left are given to each crew in turn; a branch that is no better is left. -/
def shareW (l : List S55) (m : Nat) : Nat → List Int → Int → List Int → List Int × Int → List Int × Int
 | 0, crews, most, _, st => if 0 ≤ st.2 ∧ st.2 ≤ most then st else (crews, most)
 | r + 1, crews, most, sums, st => if 0 ≤ st.2 ∧ st.2 ≤ most then st else
   (List.range m).foldl (fun st (c : Nat) => shareW l m r (crews ++ [(c : Int)]) (mx most (rd sums (c : Int) + (rd_T55 l (crews.length : Int)).f1)) (sums.set c (rd sums (c : Int) + (rd_T55 l (crews.length : Int)).f1)) st) st
def shareAt (l : List S55) (m r : Nat) (crews : List Int) (most : Int) (sums : List Int) (i : Nat) (st : List Int × Int) : List Int × Int :=
 (List.range' i (m - i)).foldl (fun st (c : Nat) => shareW l m r (crews ++ [(c : Int)]) (mx most (rd sums (c : Int) + (rd_T55 l (crews.length : Int)).f1)) (sums.set c (rd sums (c : Int) + (rd_T55 l (crews.length : Int)).f1)) st) st
theorem shareAt_end (l : List S55) (m r : Nat) (crews : List Int) (most : Int) (sums : List Int) (i : Nat) (st : List Int × Int) (h : m ≤ i) : shareAt l m r crews most sums i st = st := by rw [shareAt, Nat.sub_eq_zero_of_le h]; rfl
theorem shareAt_step (l : List S55) (m r : Nat) (crews : List Int) (most : Int) (sums : List Int) (i : Nat) (st : List Int × Int) (h : i < m) : shareAt l m r crews most sums i st = shareAt l m r crews most sums (i + 1) (shareW l m r (crews ++ [(i : Int)]) (mx most (rd sums (i : Int) + (rd_T55 l (crews.length : Int)).f1)) (sums.set i (rd sums (i : Int) + (rd_T55 l (crews.length : Int)).f1)) st) := by
 unfold shareAt
 obtain ⟨q, hq⟩ : ∃ q, m - i = q + 1 := ⟨m - i - 1, by omega⟩
 rw [hq, List.range'_succ, List.foldl_cons, show m - (i + 1) = q by omega]
theorem shareW_cut (l : List S55) (m r : Nat) (crews : List Int) (most : Int) (sums : List Int) (st : List Int × Int) (h : 0 ≤ st.2 ∧ st.2 ≤ most) : shareW l m r crews most sums st = st := by
 cases r with
 | zero => rw [shareW, if_pos h]
 | succ r => rw [shareW, if_pos h]
theorem shareW_leaf (l : List S55) (m : Nat) (crews : List Int) (most : Int) (sums : List Int) (st : List Int × Int) (h : ¬ (0 ≤ st.2 ∧ st.2 ≤ most)) : shareW l m 0 crews most sums st = (crews, most) := by rw [shareW, if_neg h]
theorem shareW_go (l : List S55) (m r : Nat) (crews : List Int) (most : Int) (sums : List Int) (st : List Int × Int) (h : ¬ (0 ≤ st.2 ∧ st.2 ≤ most)) : shareW l m (r + 1) crews most sums st = shareAt l m r crews most sums 0 st := by
 rw [shareW, if_neg h, shareAt, List.range_eq_range']; rfl
/-- The state of the walk at block g, its sums at block gs. -/
structure SInv (w0 w : World) (g gs cs : Nat) (Al : Option Addr) (cl : Nat) (l : List S55) (sums : List Int) (vb : Value) (best : List Int) (least : Int) : Prop where
 blk : w.heap[g]? = some (.cells #[.slice Al l.length cl, .slice (some ⟨gs, 0, none⟩) sums.length cs, vb, .int .i64 least] 83 (0, 0))
 sums : w.ownsRow w0.heap.size 2 1 (.slice (some ⟨gs, 0, none⟩) sums.length cs) sums.length (nums .i64 sums)
 brow : w.ownsRow w0.heap.size 2 1 vb best.length (nums .i64 best)
 bne : vb.ownBlock ≠ some gs
 list : Kd.C k55 w0 Al l.length l
 below : Below w0.heap.size w0 w
 ge : w0.heap.size ≤ g
section
variable {w0 w w1 : World} {g gs cs : Nat} {Al : Option Addr} {cl : Nat} {l : List S55} {sums : List Int} {vb : Value} {best : List Int} {least : Int}
theorem SInv.step (h : SInv w0 w g gs cs Al cl l sums vb best least) (hb : Below w.heap.size w w1) : SInv w0 w1 g gs cs Al cl l sums vb best least :=
 ⟨(hb.block g (blk_lt h.blk)).trans h.blk, pw_own_below h.sums hb, pw_own_below h.brow hb, h.bne, h.list, below_then h.below h.below.size hb, h.ge⟩
theorem SInv.c0 (h : SInv w0 w g gs cs Al cl l sums vb best least) : w.cell? ⟨g, 0, none⟩ = some (.slice Al l.length cl) := (blk_cell h.blk 0).trans rfl
theorem SInv.c1 (h : SInv w0 w g gs cs Al cl l sums vb best least) : w.cell? ⟨g, 1, none⟩ = some (.slice (some ⟨gs, 0, none⟩) sums.length cs) := (blk_cell h.blk 1).trans rfl
theorem SInv.c2 (h : SInv w0 w g gs cs Al cl l sums vb best least) : w.cell? ⟨g, 2, none⟩ = some vb := (blk_cell h.blk 2).trans rfl
theorem SInv.c3 (h : SInv w0 w g gs cs Al cl l sums vb best least) : w.cell? ⟨g, 3, none⟩ = some (.int .i64 least) := (blk_cell h.blk 3).trans rfl
theorem SInv.fr (h : SInv w0 w g gs cs Al cl l sums vb best least) (j : Nat) : w.frozen? ⟨g, j, none⟩ = false := blk_frozen h.blk j
theorem SInv.at_ (h : SInv w0 w g gs cs Al cl l sums vb best least) (i : Nat) (hi : i < sums.length) : w.cell? ⟨gs, i, none⟩ = some (.int .i64 (rd sums (i : Int))) := by
 have := (own_at h.sums (i : Int) (by omega) (by omega)).1
 rwa [Int.toNat_natCast] at this
theorem SInv.gne (h : SInv w0 w g gs cs Al cl l sums vb best least) : g ≠ gs := by
 obtain ⟨cells, hc⟩ := own_typed h.sums gs rfl
 exact blk_ne h.blk hc (by decide)
/-- A sum is stored. -/
theorem SInv.sum (h : SInv w0 w g gs cs Al cl l sums vb best least) (i : Nat) (v : Int) {vo : Value} {o : List Int} (ho : w.ownsRow w0.heap.size 2 1 vo o.length (nums .i64 o)) (hne : vo.ownBlock ≠ some gs) :
  SInv w0 (w.setCell ⟨gs, i, none⟩ (.int .i64 v)) g gs cs Al cl l (sums.set i v) vb best least ∧ (w.setCell ⟨gs, i, none⟩ (.int .i64 v)).ownsRow w0.heap.size 2 1 vo o.length (nums .i64 o) ∧ KeepP (fun k => k ≠ gs) w (w.setCell ⟨gs, i, none⟩ (.int .i64 v)) := by
 have hs := (own_store h.sums (i : Int) v).1
 rw [Int.toNat_natCast] at hs
 have hl : (sums.set i v).length = sums.length := List.length_set ..
 refine ⟨⟨by rw [hl]; exact blk_far h.blk h.gne _, by rw [hl]; exact hs, own_setCell h.brow (fun e => h.bne e.symm) _, h.bne, h.list, h.below.setCell (own_base h.sums gs rfl) _, h.ge⟩, own_setCell ho (fun e => hne e.symm) _, KeepP.of_set w ⟨gs, i, none⟩ _⟩
/-- A field of the state is stored: best. -/
theorem SInv.set2 {v1 : Value} {b1 : List Int} (h : SInv w0 w g gs cs Al cl l sums vb best least) (hb : w.ownsRow w0.heap.size 2 1 v1 b1.length (nums .i64 b1)) (hne : v1.ownBlock ≠ some gs) : SInv w0 (w.setCell ⟨g, 2, none⟩ v1) g gs cs Al cl l sums v1 b1 least :=
 ⟨blk_set h.blk 2 v1, own_setCell h.sums (own_ne h.sums h.blk (by decide)) _, own_setCell hb (own_ne hb h.blk (by decide)) _, hne, h.list, h.below.setCell h.ge _, h.ge⟩
theorem SInv.set3 (h : SInv w0 w g gs cs Al cl l sums vb best least) (n : Int) : SInv w0 (w.setCell ⟨g, 3, none⟩ (.int .i64 n)) g gs cs Al cl l sums vb best n :=
 ⟨blk_set h.blk 3 _, own_setCell h.sums (own_ne h.sums h.blk (by decide)) _, own_setCell h.brow (own_ne h.brow h.blk (by decide)) _, h.bne, h.list, h.below.setCell h.ge _, h.ge⟩
end
def SPost (w0 w : World) (g gs cs : Nat) (Al : Option Addr) (cl : Nat) (l : List S55) (sums : List Int) (vb vo : Value) (o : List Int) (st' : List Int × Int) (e : Ending) (w' : World) : Prop :=
 e = .returned (.tuple #[]) ∧ ∃ vb', SInv w0 w' g gs cs Al cl l sums vb' st'.1 st'.2 ∧ w'.ownsRow w0.heap.size 2 1 vo o.length (nums .i64 o) ∧ (∀ b, vb'.ownBlock = some b → vb.ownBlock = some b ∨ w.heap.size ≤ b) ∧ KeepP (fun k => k ≠ g ∧ k ≠ gs ∧ some k ≠ vo.ownBlock) w w'
set_option maxRecDepth 100000 in
set_option maxHeartbeats 4000000 in
theorem shareW_stop (w0 w : World) (g gs cs : Nat) (Al : Option Addr) (cl : Nat) (l : List S55) (sums : List Int) (vb : Value) (best : List Int) (least : Int) (A : Option Addr) (no c : Nat) (o : List Int) (most : Int) (hno : no = o.length) (h : SInv w0 w g gs cs Al cl l sums vb best least) (ho : w.ownsRow w0.heap.size 2 1 (.slice A no c) o.length (nums .i64 o)) (hc : 0 ≤ least ∧ least ≤ most) :
  Calls Try.prog 72 #[.pointer (some ⟨g, 0, none⟩), .slice A no c, .int .i64 most] w (SPost w0 w g gs cs Al cl l sums vb (.slice A no c) o (best, least)) := by
 have HP : Aside0 (SPost w0 w g gs cs Al cl l sums vb (.slice A no c) o (best, least) (.returned (.tuple #[])) w) := ⟨⟨rfl, vb, h, ho, fun _ h => Or.inl h, KeepP.refl _ _⟩⟩
 have c3 := h.c3
 obtain ⟨h1, h2⟩ := hc
 have d1 : decide (0 ≤ least) = true := decide_eq_true h1
 have d2 : decide (least ≤ most) = true := decide_eq_true h2
 clear h ho
 go_enter Try.func72, Try.ntmps72
 go_wp2_with fail
 first | go_end0 | refine bodyPost_ret (results_none rfl _ _ _) rfl ?_
 exact HP.out
def noCut (least most : Int) : Prop := ¬ (0 ≤ least ∧ least ≤ most)
set_option maxRecDepth 100000 in
set_option maxHeartbeats 4000000 in
theorem shareW_last (w0 w : World) (g gs cs : Nat) (Al : Option Addr) (cl : Nat) (l : List S55) (sums : List Int) (vb : Value) (best : List Int) (least : Int) (A : Option Addr) (no c : Nat) (o : List Int) (most : Int) (hno : no = o.length) (hol : o.length ≤ 7) (he : o.length = l.length) (h : SInv w0 w g gs cs Al cl l sums vb best least) (ho : w.ownsRow w0.heap.size 2 1 (.slice A no c) o.length (nums .i64 o)) (hc : noCut least most) :
  Calls Try.prog 72 #[.pointer (some ⟨g, 0, none⟩), .slice A no c, .int .i64 most] w (SPost w0 w g gs cs Al cl l sums vb (.slice A no c) o (o, most)) := by
 subst hno
 have HI := Aside0.mk h
 have HO := Aside0.mk ho
 have HOW : Aside0 (spec_l00Own.f o = some o) := ⟨own_fS o (by omega)⟩
 have c3 := h.c3
 have c0 := h.c0
 have hb : ((o.length : Int) == (l.length : Int)) = true := by simp [he]
 clear h ho he
 have key : ∀ b1 b2 : Bool, decide (0 ≤ least) = b1 → decide (least ≤ most) = b2 → (b1 && b2) = false → Calls Try.prog 72 #[.pointer (some ⟨g, 0, none⟩), .slice A o.length c, .int .i64 most] w (SPost w0 w g gs cs Al cl l sums vb (.slice A o.length c) o (o, most)) := by
  intro b1 b2 hb1 hb2 hbb
  clear hc
  cases b1 with
  | false =>
   go_enter Try.func72, Try.ntmps72
   go_wp2_with (first
    | (go_at_call 80; refine (spec_l00Own.calls A c o o w (C_of_nums HO.out) (own_cap HO.out) HOW.out).mono ?_; rintro e w3 ⟨v3, rfl, hr3, hb3⟩; have ho3 := nums_of_R hr3; obtain ⟨A3, n3, e3⟩ := own_slice ho3; subst e3; have hI3 := HI.out.step hb3; have d2 := hI3.c2; have f2 := hI3.fr 2; have HI3 := Aside0.mk hI3; have HO3 := Aside0.mk ho3; have HB3 := Aside0.mk hb3; clear hr3 ho3 hb3 hI3 c0 c3)
    | (refine hand_store (fun w4 => SInv w0 w4 g gs cs Al cl l sums (.slice A3 o.length n3) o least ∧ w4.ownsRow w0.heap.size 2 1 (.slice A o.length c) o.length (nums .i64 o) ∧ KeepP (fun k => k ≠ g) w w4) (t := 37) (p := 34) (v := .tmp 32) (w1 := w3.setCell ⟨g, 2, none⟩ (.slice A3 o.length n3)) ?hg4 rfl ?hN4 ?hr4 ?hF4 ?_; (case hg4 => rfl); (case hN4 => rfl); (case hr4 => first | (go_simp; done) | (go_simp; rfl)); (case hF4 => exact ⟨HI3.out.set2 (own_weaken HO3.out HI.out.below.size) (fun e => by { have h1 := own_base HO3.out gs e; have h2 := own_lt HI.out.sums gs rfl; omega }), own_setCell (pw_own_below HO.out HB3.out) (own_ne (pw_own_below HO.out HB3.out) HI3.out.blk (by decide)) _, (KeepP.of_below (P := fun _ => True) HB3.out).trans (KeepP.of_set w3 ⟨g, 2, none⟩ _) (fun _ _ _ => trivial) (fun _ _ h => h)⟩); clear d2 f2; rintro w4 ⟨hI4, hO4, hK4⟩; have d3 := hI4.c3; have f3 := hI4.fr 3; have HI4 := Aside0.mk hI4; have HO4 := Aside0.mk hO4; have HK4 := Aside0.mk hK4; clear hI4 hO4 hK4)
    | (refine hand_store (fun w5 => SInv w0 w5 g gs cs Al cl l sums (.slice A3 o.length n3) o most ∧ w5.ownsRow w0.heap.size 2 1 (.slice A o.length c) o.length (nums .i64 o) ∧ KeepP (fun k => k ≠ g) w w5) (t := 2) (p := 38) (v := .tmp 36) (w1 := w4.setCell ⟨g, 3, none⟩ (.int .i64 most)) ?hg5 rfl ?hN5 ?hr5 ?hF5 ?_; (case hg5 => rfl); (case hN5 => rfl); (case hr5 => first | (go_simp; done) | (go_simp; rfl)); (case hF5 => exact ⟨HI4.out.set3 most, own_setCell HO4.out (own_ne HO4.out HI4.out.blk (by decide)) _, HK4.out.trans (KeepP.of_set w4 ⟨g, 3, none⟩ _) (fun _ _ h => h) (fun _ _ h => h)⟩); clear d3 f3; rintro w5 ⟨hI5, hO5, hK5⟩; have HP : Aside0 (SPost w0 w g gs cs Al cl l sums vb (.slice A o.length c) o (o, most) (.returned (.tuple #[])) w5) := ⟨⟨rfl, _, hI5, hO5, (fun b hb => Or.inr (own_base HO3.out b hb)), hK5.imp (fun _ _ h => h.1)⟩⟩; clear hI5 hO5 hK5))
   first | go_end0 | refine bodyPost_ret (results_none rfl _ _ _) rfl ?_
   exact HP.out
  | true =>
   cases b2 with
   | true => cases hbb
   | false =>
    go_enter Try.func72, Try.ntmps72
    go_wp2_with (first
     | (go_at_call 80; refine (spec_l00Own.calls A c o o w (C_of_nums HO.out) (own_cap HO.out) HOW.out).mono ?_; rintro e w3 ⟨v3, rfl, hr3, hb3⟩; have ho3 := nums_of_R hr3; obtain ⟨A3, n3, e3⟩ := own_slice ho3; subst e3; have hI3 := HI.out.step hb3; have d2 := hI3.c2; have f2 := hI3.fr 2; have HI3 := Aside0.mk hI3; have HO3 := Aside0.mk ho3; have HB3 := Aside0.mk hb3; clear hr3 ho3 hb3 hI3 c0 c3)
     | (refine hand_store (fun w4 => SInv w0 w4 g gs cs Al cl l sums (.slice A3 o.length n3) o least ∧ w4.ownsRow w0.heap.size 2 1 (.slice A o.length c) o.length (nums .i64 o) ∧ KeepP (fun k => k ≠ g) w w4) (t := 37) (p := 34) (v := .tmp 32) (w1 := w3.setCell ⟨g, 2, none⟩ (.slice A3 o.length n3)) ?hg4 rfl ?hN4 ?hr4 ?hF4 ?_; (case hg4 => rfl); (case hN4 => rfl); (case hr4 => first | (go_simp; done) | (go_simp; rfl)); (case hF4 => exact ⟨HI3.out.set2 (own_weaken HO3.out HI.out.below.size) (fun e => by { have h1 := own_base HO3.out gs e; have h2 := own_lt HI.out.sums gs rfl; omega }), own_setCell (pw_own_below HO.out HB3.out) (own_ne (pw_own_below HO.out HB3.out) HI3.out.blk (by decide)) _, (KeepP.of_below (P := fun _ => True) HB3.out).trans (KeepP.of_set w3 ⟨g, 2, none⟩ _) (fun _ _ _ => trivial) (fun _ _ h => h)⟩); clear d2 f2; rintro w4 ⟨hI4, hO4, hK4⟩; have d3 := hI4.c3; have f3 := hI4.fr 3; have HI4 := Aside0.mk hI4; have HO4 := Aside0.mk hO4; have HK4 := Aside0.mk hK4; clear hI4 hO4 hK4)
     | (refine hand_store (fun w5 => SInv w0 w5 g gs cs Al cl l sums (.slice A3 o.length n3) o most ∧ w5.ownsRow w0.heap.size 2 1 (.slice A o.length c) o.length (nums .i64 o) ∧ KeepP (fun k => k ≠ g) w w5) (t := 2) (p := 38) (v := .tmp 36) (w1 := w4.setCell ⟨g, 3, none⟩ (.int .i64 most)) ?hg5 rfl ?hN5 ?hr5 ?hF5 ?_; (case hg5 => rfl); (case hN5 => rfl); (case hr5 => first | (go_simp; done) | (go_simp; rfl)); (case hF5 => exact ⟨HI4.out.set3 most, own_setCell HO4.out (own_ne HO4.out HI4.out.blk (by decide)) _, HK4.out.trans (KeepP.of_set w4 ⟨g, 3, none⟩ _) (fun _ _ h => h) (fun _ _ h => h)⟩); clear d3 f3; rintro w5 ⟨hI5, hO5, hK5⟩; have HP : Aside0 (SPost w0 w g gs cs Al cl l sums vb (.slice A o.length c) o (o, most) (.returned (.tuple #[])) w5) := ⟨⟨rfl, _, hI5, hO5, (fun b hb => Or.inr (own_base HO3.out b hb)), hK5.imp (fun _ _ h => h.1)⟩⟩; clear hI5 hO5 hK5))
    first | go_end0 | refine bodyPost_ret (results_none rfl _ _ _) rfl ?_
    exact HP.out
 refine key _ _ rfl rfl ?_
 unfold noCut at hc
 by_cases h1 : 0 ≤ least
 ·have h2 : ¬ least ≤ most := fun h2 => hc ⟨h1, h2⟩
  simp [h2]
 ·simp [h1]
section
variable {P : Program} {ops : Array Oper} {o : Oper} {a : Act} {Q : Exit → Act → World → Prop} {K : Act → World → Prop}
/-- One number is appended, one step of a region that draws its order: what was the row stays one's own row, too. -/
theorem hand_append {w0 W : World} (base : Nat) (hw : Region.wanted o (yielded ops a.tmps) = true) (s x : Operand) (t e : TypeId) (k : IntKind) (bytes : Nat)
  (ho : o.op = .call { callee := .builtin .append, args := #[s, x], argTypes := #[t, t] })
  (ht : P.underlying t = some (.slice e)) (hinfo : (P.info? e).map (fun i => (i.zero, i.size, i.bytes)) = some (some (.int k 0), 1, bytes)) (hb0 : 0 < bytes)
  (v : Value) (xs : List Int) (y : Int) (hs : a.eval s = v) (hx : a.eval x = .slice (some ⟨W.heap.size, 0, none⟩) 1 1)
  (HO : W.ownsRow base e 1 v xs.length (nums k xs)) (HB : Below base w0 W) (hbase : base ≤ W.heap.size) (hl : (xs.length + 1) * bytes ≤ 140737488355328)
  (h : ∀ v1 w1, w1.ownsRow base e 1 v1 (xs ++ [y]).length (nums k (xs ++ [y])) → w1.ownsRow base e 1 v xs.length (nums k xs) → Below base w0 w1 → W.grownBy w1 v.ownBlock → ((∃ A c, v = .slice A xs.length c ∧ v1 = .slice A (xs ++ [y]).length c) ∨ ∃ b, v1.ownBlock = some b ∧ W.heap.size ≤ b) → K (a.put o.dst v1) w1) :
  if Region.wanted o (yielded ops a.tmps) = true then Oper.wp P o a (W.alloc (.cells #[.int k y] e)) K Q else K (a.put o.dst undef) (W.alloc (.cells #[.int k y] e)) := by
 obtain ⟨i0, hi, hzz⟩ := Option.map_eq_some_iff.1 hinfo
 simp only [Prod.mk.injEq] at hzz
 obtain ⟨hz0, hz1, hz2⟩ := hzz
 have hlen : xs.length + 1 ≤ 140737488355328 := Nat.le_trans (Nat.le_mul_of_pos_right _ hb0) hl
 rw [if_pos hw]
 have hn : ∀ (j : Nat) (u : Value), [Value.int k y][j]? = some u → (W.alloc (.cells #[.int k y] e)).cell? ((⟨W.heap.size, 0, none⟩ : Addr).add j) = some u := cell_one_new W (.int k y) e
 have h1 : ∀ u ∈ [Value.int k y], u.oneCell' = true := by intro u hu; rw [List.mem_singleton] at hu; subst hu; rfl
 have HA := HO.alloc (.cells #[.int k y] e)
 obtain ⟨v1, w1, hr, hown, hg, _, hat⟩ := run_append_own_at (P := P) (W.alloc (.cells #[.int k y] e)) base t o.type e i0 (.int k 0) 1 bytes ht hi hz0 hz1 hz2 rfl (by decide) v xs.length (nums k xs) HA ⟨W.heap.size, 0, none⟩ 1 1 [.int k y] rfl
  hn h1 (by simp only [maxLen]; omega) hl (by simp; omega)
 have hlx : (xs ++ [y]).length = xs.length + 1 := by rw [List.length_append]; rfl
 have hkeep : w1.ownsRow base e 1 v xs.length (nums k xs) ∧ ((∃ A c, v = .slice A xs.length c ∧ v1 = .slice A (xs ++ [y]).length c) ∨ ∃ b, v1.ownBlock = some b ∧ W.heap.size ≤ b) := by
  rcases HA.2 with ⟨rfl, h0⟩ | ⟨g, cap, cur, rfl, hbg, hgc, hnc, hcm, hcs, htake⟩
  ·refine ⟨⟨HO.1, Or.inl ⟨rfl, h0⟩⟩, Or.inr ?_⟩
   rcases hat with hat | hat
   ·rcases hown.2 with ⟨_, h1⟩ | ⟨g, _, _, rfl, _⟩
    ·omega
    ·cases hat
   ·exact ⟨_, hat, by simp⟩
  ·by_cases hroom : xs.length + 1 ≤ cap
   ·have hr2 := run_append_room (P := P) (W.alloc (.cells #[.int k y] e)) t o.type e i0 ht hi g xs.length cap cur hgc ⟨W.heap.size, 0, none⟩ 1 1 [.int k y] (by rw [hz1]; rfl) hn h1 hroom (by rw [hz1, hcs]; simp; omega)
    have e2 := hr.symm.trans hr2
    injection e2 with e2 e3
    subst e2
    have := hand_take (m := xs.length) hown (by omega)
    refine ⟨by rwa [Nat.mul_one, List.take_left' (by simp [nums])] at this, Or.inl ⟨_, _, rfl, by rw [hlx]⟩⟩
   ·have hr2 := run_append_grow (P := P) (W.alloc (.cells #[.int k y] e)) t o.type e i0 (.int k 0) ht hi hz0 ⟨g, 0, none⟩ xs.length cap (nums k xs) (by rw [hz1]; simp [nums]) (HA.cells (g := g) rfl) ⟨W.heap.size, 0, none⟩ 1 1 [.int k y] (by rw [hz1]; rfl) hn (by omega) (by omega) (growslice_fits (by omega) (by rw [hz2]; exact hl))
    have e2 := hr.symm.trans hr2
    injection e2 with e2 e3
    refine ⟨?_, Or.inr ⟨(W.alloc (.cells #[.int k y] e)).heap.size, by rw [e2]; rfl, by simp⟩⟩
    rw [e3]
    exact (own_drew HA).alloc _
 unfold Oper.wp execOp
 simp only [ho, resolve, invoke, builtin, Sem.run_bind, Sem.run_pure, Result.andThen_ok, List.map_toArray, List.map_cons, List.map_nil, hs, hx, hr]
 exact h v1 w1 (by simpa [nums] using hown) hkeep.1 ((HB.alloc hbase _).grown hg (by simp; omega) (own_base HO)) (World.grownBy.trans (World.grownBy_alloc W _ _) hg) hkeep.2
end
/-- What the walk keeps between its branches. -/
structure SK (w0 w : World) (g gs cs : Nat) (Al : Option Addr) (cl : Nat) (l : List S55) (vb vo : Value) (o sums : List Int) (vb' : Value) (b' : List Int) (l' : Int) (wr : World) : Prop where
 inv : SInv w0 wr g gs cs Al cl l sums vb' b' l'
 row : wr.ownsRow w0.heap.size 2 1 vo o.length (nums .i64 o)
 own : ∀ b, vb'.ownBlock = some b → vb.ownBlock = some b ∨ w.heap.size ≤ b
 keep : KeepP (fun k => k ≠ g ∧ k ≠ gs ∧ some k ≠ vo.ownBlock) w wr
section
variable {w0 w wr w1 : World} {g gs cs : Nat} {Al : Option Addr} {cl : Nat} {l : List S55} {vb vo : Value} {o sums : List Int} {vb' : Value} {b' : List Int} {l' : Int}
theorem SK.step (h : SK w0 w g gs cs Al cl l vb vo o sums vb' b' l' wr) (hb : Below wr.heap.size wr w1) : SK w0 w g gs cs Al cl l vb vo o sums vb' b' l' w1 :=
 ⟨h.inv.step hb, pw_own_below h.row hb, h.own, h.keep.trans (KeepP.of_below (P := fun _ => True) hb) (fun _ _ h => h) (fun _ _ _ => trivial)⟩
theorem SK.sum (h : SK w0 w g gs cs Al cl l vb vo o sums vb' b' l' wr) (hne : vo.ownBlock ≠ some gs) (i : Nat) (v : Int) : SK w0 w g gs cs Al cl l vb vo o (sums.set i v) vb' b' l' (wr.setCell ⟨gs, i, none⟩ (.int .i64 v)) := by
 obtain ⟨a, b, c⟩ := h.inv.sum i v h.row hne
 exact ⟨a, b, h.own, h.keep.trans c (fun _ _ h => h) (fun _ _ h => h.2.1)⟩
theorem SK.apart (h : SK w0 w g gs cs Al cl l vb vo o sums vb' b' l' wr) (hv : ∀ b, vb.ownBlock = some b → vo.ownBlock ≠ some b) (hw : ∀ b, vo.ownBlock = some b → b < w.heap.size) : ∀ b, vb'.ownBlock = some b → vo.ownBlock ≠ some b :=
 fun b hb e => (h.own b hb).elim (fun h1 => hv b h1 e) (fun h1 => by have := hw b e; omega)
theorem SK.put (h : SK w0 w g gs cs Al cl l vb vo o sums vb' b' l' wr) (hne : vo.ownBlock ≠ some gs) (hap : ∀ b, vb'.ownBlock = some b → vo.ownBlock ≠ some b) (hg : wr.grownBy w1 vo.ownBlock) (hB : Below w0.heap.size w0 w1) (hrow : w1.ownsRow w0.heap.size 2 1 vo o.length (nums .i64 o)) : SK w0 w g gs cs Al cl l vb vo o sums vb' b' l' w1 := by
 have kp := KeepP.of_grown hg
 refine ⟨⟨kp.blk h.inv.blk (own_ne h.row h.inv.blk (by decide)), kp.own h.inv.sums (fun k hk e => ?_), kp.own h.inv.brow (fun k hk e => hap k hk e.symm), h.inv.bne, h.inv.list, hB, h.inv.ge⟩, hrow, h.own, h.keep.trans kp (fun _ _ h => h) (fun _ _ h => h.2.2)⟩
 have hk' : some gs = some k := hk
 injection hk' with hk'
 subst hk'
 exact hne e.symm
/-- The appended row is apart from the sums' and the best one's. -/
theorem SK.apart2 (h : SK w0 w g gs cs Al cl l vb vo o sums vb' b' l' wr) (hne : vo.ownBlock ≠ some gs) (hap : ∀ b, vb'.ownBlock = some b → vo.ownBlock ≠ some b) {v1 : Value} {n : Nat} (hat : (∃ A c, vo = .slice A o.length c ∧ v1 = .slice A n c) ∨ ∃ b, v1.ownBlock = some b ∧ wr.heap.size ≤ b) :
  v1.ownBlock ≠ some gs ∧ (∀ b, vb'.ownBlock = some b → v1.ownBlock ≠ some b) ∧ ((∃ A c, vo = .slice A o.length c ∧ v1 = .slice A n c) ∨ ∃ b, v1.ownBlock = some b ∧ w.heap.size ≤ b) := by
 have hw := h.keep.size
 rcases hat with ⟨A, c, rfl, rfl⟩ | ⟨b, hb, hs⟩
 ·exact ⟨by cases A <;> exact hne, fun b hb => by cases A <;> exact hap b hb, Or.inl ⟨A, c, rfl, rfl⟩⟩
 ·refine ⟨fun e => ?_, fun k hk e => ?_, Or.inr ⟨b, hb, by omega⟩⟩
  ·have := own_lt h.inv.sums gs rfl
   rw [hb] at e
   injection e with e
   omega
  ·have := own_lt h.inv.brow k hk
   rw [hb] at e
   injection e with e
   omega
/-- Behind the call with the appended row. -/
theorem SK.call (h : SK w0 w g gs cs Al cl l vb vo o sums vb' b' l' wr) (hne : vo.ownBlock ≠ some gs) (hlt : ∀ b, vo.ownBlock = some b → b < w.heap.size) {v1 : Value} {x : Int} (hat : (∃ A c, vo = .slice A o.length c ∧ v1 = .slice A (o ++ [x]).length c) ∨ ∃ b, v1.ownBlock = some b ∧ w.heap.size ≤ b) {st2 : List Int × Int} {e : Ending} {w6 : World} (hp : SPost w0 wr g gs cs Al cl l sums vb' v1 (o ++ [x]) st2 e w6) :
  e = .returned (.tuple #[]) ∧ ∃ vb6, SK w0 w g gs cs Al cl l vb vo o sums vb6 st2.1 st2.2 w6 := by
 obtain ⟨he, vb6, hI, hr, ho, hk⟩ := hp
 have hsz := h.keep.size
 refine ⟨he, vb6, hI, ?_, fun b hb => ?_, h.keep.trans hk (fun _ _ h => h) (fun j hj hp => ⟨hp.1, hp.2.1, fun e => ?_⟩)⟩
 ·rcases hat with ⟨A, c, rfl, rfl⟩ | ⟨b, hb, hs⟩
  ·have := hand_take (m := o.length) hr (by simp)
   rwa [Nat.mul_one, nums_append, List.take_left' (nums_length _ _)] at this
  ·refine hk.own h.row (fun k hk => ⟨fun e => ?_, fun e => ?_, fun e => ?_⟩)
   ·exact own_ne h.row h.inv.blk (by decide) (by rw [hk, e])
   ·exact hne (by rw [hk, e])
   ·rw [hb] at e
    injection e with e
    have := hlt k hk
    omega
 ·rcases ho b hb with h1 | h1
  ·exact h.own b h1
  ·exact Or.inr (by omega)
 ·rcases hat with ⟨A, c, rfl, rfl⟩ | ⟨b, hb, hs⟩
  ·exact hp.2.2 (by rw [e]; cases A <;> rfl)
  ·rw [hb] at e
   injection e with e
   omega
end
def l22S_walk.T9 : Bool × List (List Nat × List Nat) := (true, [([], []), ([], []), ([], []), ([2], [2]), ([1, 3], [1, 3]), ([], []), ([], []), ([6], [6]), ([7], [7]), ([8], [8]), ([], []), ([9, 10], [9, 10]), ([11], [11]), ([5, 12, 4], [5, 12]), ([0, 4, 13, 13], [0, 4, 13])])
def l22S_walk.B9 : List Nat := [0, 0, 0, 4, 14, 0, 0, 64, 192, 448, 0, 1984, 4032, 8190, 16383]
theorem l22S_walk.tab9 : rtab .any (opsOf Try.f72 9) = l22S_walk.T9 := by kernel_rfl
theorem l22S_walk.bits9 : waitsOk l22S_walk.T9.2 l22S_walk.B9 = true := by kernel_rfl

set_option maxRecDepth 100000 in
set_option maxHeartbeats 8000000 in
theorem shareW_calls (w0 : World) (g gs cs : Nat) (Al : Option Addr) (cl : Nat) (l : List S55) (hl7 : l.length ≤ 7) (hds : ∀ j : Nat, j < l.length → 0 ≤ (rd_T55 l (j : Int)).f1 ∧ (rd_T55 l (j : Int)).f1 ≤ 200) (m : Nat) (hm7 : m ≤ 7) (r : Nat) : ∀ (w : World) (sums : List Int) (vb : Value) (best : List Int) (least : Int) (A : Option Addr) (no c : Nat) (o : List Int) (most : Int), no = o.length → o.length + r = l.length → sums.length = m → (∀ j : Nat, j < m → 0 ≤ rd sums (j : Int) ∧ rd sums (j : Int) ≤ 200 * (o.length : Int)) → SInv w0 w g gs cs Al cl l sums vb best least → w.ownsRow w0.heap.size 2 1 (.slice A o.length c) o.length (nums .i64 o) → (Value.slice A o.length c).ownBlock ≠ some gs → (∀ b, vb.ownBlock = some b → (Value.slice A o.length c).ownBlock ≠ some b) →
  Calls Try.prog 72 #[.pointer (some ⟨g, 0, none⟩), .slice A no c, .int .i64 most] w (SPost w0 w g gs cs Al cl l sums vb (.slice A o.length c) o (shareW l m r o most sums (best, least))) := by
 induction r with
 | zero =>
  intro w sums vb best least A no c o most hno he hm hbd h ho hne hv
  by_cases hc : 0 ≤ least ∧ least ≤ most
  ·rw [shareW_cut l m 0 o most sums (best, least) hc]
   subst hno
   exact shareW_stop w0 w g gs cs Al cl l sums vb best least A _ c o most rfl h ho hc
  ·rw [shareW_leaf l m o most sums (best, least) hc]
   subst hno
   exact shareW_last w0 w g gs cs Al cl l sums vb best least A _ c o most rfl (by omega) (by omega) h ho hc
 | succ r ih =>
  intro w sums vb best least A no c o most hno he hm hbd h ho hne hv
  subst hno
  subst hm
  by_cases hc : 0 ≤ least ∧ least ≤ most
  ·rw [shareW_cut l _ _ o most sums (best, least) hc]
   exact shareW_stop w0 w g gs cs Al cl l sums vb best least A _ c o most rfl h ho hc
  ·rw [shareW_go l _ r o most sums (best, least) hc]
   obtain ⟨al, eal, ealr⟩ := at_T55 h.list (o.length : Int) (by omega) (by omega)
   clear ealr
   subst eal
   obtain ⟨d, hd⟩ : ∃ d, d = (rd_T55 l (o.length : Int)).f1 := ⟨_, rfl⟩
   have hd0 := hds o.length (by omega)
   rw [← hd] at hd0
   have HD := Aside0.mk hd
   have HE := Aside0.mk he
   have HBD := Aside0.mk hbd
   have HNE := Aside0.mk hne
   have HV := Aside0.mk hv
   have HLT : Aside0 (∀ b, (Value.slice A o.length c).ownBlock = some b → b < w.heap.size) := ⟨fun b hb => own_lt ho b hb⟩
   have HS : Aside0 (SK w0 w g gs cs (some al) cl l vb (.slice A o.length c) o sums vb best least w) := ⟨⟨h, ho, fun _ hb => Or.inl hb, KeepP.refl _ _⟩⟩
   have hol : o.length < l.length := by omega
   have c3 := h.c3
   have c0 := h.c0
   have hb : ((o.length : Int) == (l.length : Int)) = false := by simp; omega
   clear h ho he hbd hne hv hd hds
   have key : ∀ b1 b2 : Bool, decide (0 ≤ least) = b1 → decide (least ≤ most) = b2 → (b1 && b2) = false → Calls Try.prog 72 #[.pointer (some ⟨g, 0, none⟩), .slice A o.length c, .int .i64 most] w (SPost w0 w g gs cs (some al) cl l sums vb (.slice A o.length c) o (shareAt l sums.length r o most sums 0 (best, least))) := by
    intro b1 b2 hb1 hb2 hbb
    clear hc
    cases b1 with
    | false =>
     go_enter Try.func72, Try.ntmps72
     go_wp2_with fail
     clear c3 c0 hb
     go_loopg [7] sums.length (fun gg v7 wr => ∃ i : Nat, v7 = .int .i64 (i : Int) ∧ Aside0 (i ≤ sums.length ∧ sums.length - i ≤ gg) ∧ Aside0 (∃ vb' b' l', SK w0 w g gs cs (some al) cl l vb (.slice A o.length c) o sums vb' b' l' wr ∧ shareAt l sums.length r o most sums i (b', l') = shareAt l sums.length r o most sums 0 (best, least)))
     case atStart => exact ⟨0, rfl, ⟨Nat.zero_le _, by omega⟩, ⟨_, _, _, HS.out, rfl⟩⟩
     case round =>
      obtain ⟨i, rfl, HJ, HI'⟩ := hrel
      obtain ⟨vb', b', l', hS, hR⟩ := HI'.out
      clear HI' HS
      have c1 := hS.inv.c1
      by_cases hlt : i < sums.length
      ·have hltb : decide (i < sums.length) = true := decide_eq_true hlt
       rw [shareAt_step _ _ _ _ _ _ _ _ hlt, ← HD.out] at hR
       have HR := Aside0.mk hR
       have HS := Aside0.mk hS
       clear hR hS
       go_wp2_with fail
       refine hand_tail 16 (fun W => SK w0 w g gs cs (some al) cl l vb (.slice A o.length c) o sums vb' b' l' W) (by kernel_rfl) (by kernel_rfl) (HS.out.step (below_drew (Below.refl _ _))) ?_
       clear HS c1
       rintro W hS
       have c1 := hS.inv.c1
       have c0 := hS.inv.c0
       have k1 := hS.inv.at_ i hlt
       have f1 := hS.inv.sums.frozenAt i
       obtain ⟨al', e', _, x1, _⟩ := at_T55 (Kd.C_below hS.inv.list hS.inv.below) (o.length : Int) (by omega) (by omega)
       cases e'
       rw [Int.toNat_natCast, ← HD.out] at x1
       have hbi := HBD.out i hlt
       have hw1 : IntKind.i64.wrap (rd sums (i : Int) + d) = rd sums (i : Int) + d := IntWalk.i64_in _ (by omega)
       have HS := Aside0.mk (hS.sum HNE.out i (rd sums (i : Int) + d))
       clear hS
       simp only [List.take_succ_cons, List.take_zero, List.drop_succ_cons, List.drop_zero]
       repeat still_step
       refine wpStill_nil ?_
       obtain ⟨sums2, hs2⟩ : ∃ sums2, sums2 = sums.set i (rd sums (i : Int) + d) := ⟨_, rfl⟩
       rw [← hs2] at HS
       have HSS := Aside0.mk hs2
       clear hs2
       go_wp2_with (refine hand_store (fun w' => SK w0 w g gs cs (some al) cl l vb (.slice A o.length c) o sums2 vb' b' l' w') (t := 2) (p := 64) (v := .tmp 63) (w1 := W.setCell ⟨gs, i, none⟩ (.int .i64 (rd sums (i : Int) + d))) ?hg rfl ?hN ?hr ?hF ?_; (case hg => rfl); (case hN => rfl); (case hr => first | (go_simp; done) | (go_simp; rfl)); (case hF => exact HS.out); clear c1 c0 k1 f1 x1 hw1 HS; rintro W1 hS1; have HS1 := Aside0.mk hS1; clear hS1)
       have hs2 := HSS.out
       have hl2 : sums2.length = sums.length := by rw [hs2, List.length_set]
       have hlt2 : i < sums2.length := by omega
       have hv2 : rd sums2 (i : Int) = rd sums (i : Int) + d := by rw [hs2]; unfold rd; simp [hlt]
       have HBK : Aside0 (sums2.set i (rd sums2 (i : Int) - d) = sums) := ⟨by
        rw [hv2, hs2, List.set_set, show rd sums (i : Int) + d - d = rd sums (i : Int) by omega]
        unfold rd
        rw [Int.toNat_natCast, List.getD_eq_getElem?_getD, List.getElem?_eq_getElem hlt, Option.getD_some, List.set_getElem_self]⟩
       have HM2 : Aside0 (sums2.length = sums.length) := ⟨hl2⟩
       have HL2 : Aside0 ((o ++ [(i : Int)]).length + r = l.length) := ⟨(by rw [List.length_append]; have := HE.out; show o.length + 1 + r = _; omega)⟩
       have HB2 : Aside0 (∀ j : Nat, j < sums.length → 0 ≤ rd sums2 (j : Int) ∧ rd sums2 (j : Int) ≤ 200 * ((o ++ [(i : Int)]).length : Int)) := ⟨by
        intro j hj
        have hlen : ((o ++ [(i : Int)]).length : Int) = (o.length : Int) + 1 := by simp
        rw [hlen]
        have hbj := HBD.out j hj
        by_cases hij : j = i
        ·subst hij
         rw [hv2]
         omega
        ·have : rd sums2 (j : Int) = rd sums (j : Int) := by
          rw [hs2]; unfold rd; simp [List.getD_eq_getElem?_getD, List.getElem?_set_ne (show i ≠ j by omega)]
         rw [this]
         omega⟩
       obtain ⟨mg, hmg⟩ : ∃ mg, mg = mx most (rd sums2 (i : Int)) := ⟨_, rfl⟩
       have HX : Aside0 (spec_l00Max.f most (rd sums2 (i : Int)) = some mg) := ⟨by rw [hmg]; unfold spec_l00Max.f mx; split <;> split <;> first | rfl | (congr 1; omega)⟩
       have hR3 := HR.out
       rw [← hs2, ← hv2, ← hmg] at hR3
       obtain ⟨st2, hst2⟩ : ∃ st2, st2 = shareW l sums.length r (o ++ [(i : Int)]) mg sums2 (b', l') := ⟨_, rfl⟩
       rw [← hst2] at hR3
       have HR3 := Aside0.mk hR3
       have HST := Aside0.mk hst2
       have HV2 := Aside0.mk hv2
       clear hR3 hst2 hv2 hmg hs2 HR
       have s1' := HS1.out.inv.c1
       have s2' := HS1.out.inv.at_ i hlt2
       refine start_ (n := 15) (S := fun w' => w'.cell? ⟨g, 1, none⟩ = some (.slice (some ⟨gs, 0, none⟩) sums2.length cs) ∧ w'.cell? ⟨gs, i, none⟩ = some (.int .i64 (rd sums2 (i : Int)))) (ds := [14]) #[F_,F_,F_,F_,F_,F_,F_,F_,F_,F_,F_,F_,F_,F_,F_] (by kernel_rfl) rfl rfl ⟨s1', s2'⟩ (fun hHeld => ?_); refine with_tabW l22S_walk.tab9 l22S_walk.bits9 (fun HT_ HW_ => ?_)
       generalize hW5 : W1.drew = W5 at hHeld ⊢
       have HS5 : Aside0 (SK w0 w g gs cs (some al) cl l vb (.slice A o.length c) o sums2 vb' b' l' W5) := ⟨by rw [← hW5]; exact HS1.out.step (below_drew (Below.refl _ _))⟩
       clear hW5
       refine pu (i := 0) (N := some 65) #[T_,F_,F_,F_,F_,F_,F_,F_,F_,F_,F_,F_,F_,F_,F_] HT_ ?_
       refine pu (i := 1) (N := some 66) #[T_,T_,F_,F_,F_,F_,F_,F_,F_,F_,F_,F_,F_,F_,F_] HT_ ?_
       refine pu (i := 2) (N := some 67) #[T_,T_,T_,F_,F_,F_,F_,F_,F_,F_,F_,F_,F_,F_,F_] HT_ ?_
       refine pu (i := 5) (N := some 70) #[T_,T_,T_,F_,F_,T_,F_,F_,F_,F_,F_,F_,F_,F_,F_] HT_ ?_
       refine pu (i := 6) (N := some 71) #[T_,T_,T_,F_,F_,T_,T_,F_,F_,F_,F_,F_,F_,F_,F_] HT_ ?_
       refine pu (i := 7) (N := some 72) #[T_,T_,T_,F_,F_,T_,T_,T_,F_,F_,F_,F_,F_,F_,F_] HT_ ?_
       refine pu (i := 8) (N := some 73) #[T_,T_,T_,F_,F_,T_,T_,T_,T_,F_,F_,F_,F_,F_,F_] HT_ ?_
       refine pu (i := 10) (N := some 75) #[T_,T_,T_,F_,F_,T_,T_,T_,T_,F_,T_,F_,F_,F_,F_] HT_ ?_
       refine take_ (i := 9) (N := some 74) (v := ?_) (a' := ?_) #[T_,T_,T_,F_,F_,T_,T_,T_,T_,T_,T_,F_,F_,F_,F_] rfl rfl (take_ofW HT_.out HW_.out (by kernel_rfl)) (fun _ _ _ h => h) (Or.inl ⟨by rfl, ?_⟩) hHeld ?_ ?_
       rotate_left
       ·rintro w' ⟨s0, s1⟩
        go_simp
        with_reducible rfl
       rotate_left
       ·simp only [Act.put, sT_, s0_, sS_, i64_w, i32_w]
        rfl
       refine pu (i := 11) (N := some 76) #[T_,T_,T_,F_,F_,T_,T_,T_,T_,T_,T_,T_,F_,F_,F_] HT_ ?_
       refine take_ (i := 12) (N := some 77) (v := ?_) (a' := ?_) #[T_,T_,T_,F_,F_,T_,T_,T_,T_,T_,T_,T_,T_,F_,F_] rfl rfl (take_ofW HT_.out HW_.out (by kernel_rfl)) (fun _ _ _ h => h) (Or.inl ⟨by rfl, ?_⟩) hHeld ?_ ?_
       rotate_left
       ·rintro w' ⟨s0, s1⟩
        go_simp
        with_reducible rfl
       rotate_left
       ·simp only [Act.put, sT_, s0_, sS_, i64_w, i32_w]
        rfl
       refine one_ (i := 3) (N := (some 68)) #[T_,T_,T_,T_,F_,T_,T_,T_,T_,T_,T_,T_,T_,F_,F_] rfl rfl (one_of HT_.out (by kernel_rfl)) (by decide) (fun K hK => ?_)
       refine event_step (v := .slice (some ⟨W5.heap.size, 0, none⟩) 1 1) (w1 := W5.alloc (.cells #[.int .i64 (i : Int)] 2)) (by rfl) (by first | (go_simp; done) | (go_simp; rfl)) ?_
       have t1 := pw_cell_below (below_alloc (Below.refl W5.heap.size W5) (.cells #[.int .i64 (i : Int)] 2)) HS5.out.inv.c1
       have t2 := pw_cell_below (below_alloc (Below.refl W5.heap.size W5) (.cells #[.int .i64 (i : Int)] 2)) (HS5.out.inv.at_ i hlt2)
       refine hK.out _ _ ⟨t1, t2⟩ (fun hHeld => ?_)
       clear hK K
       refine norm_ (a' := ?_) ?_ ?_
       rotate_left
       ·show Act.put _ (some 68) _ = _
        simp only [Act.put, sT_, s0_, sS_, i64_w, i32_w]
        rfl
       refine one_ (i := 4) (N := (some 69)) #[T_,T_,T_,T_,T_,T_,T_,T_,T_,T_,T_,T_,T_,F_,F_] rfl rfl (one_of HT_.out (by kernel_rfl)) (by decide) (fun K hK => ?_)
       refine hand_append (w0 := w0) w0.heap.size (by rfl) (.tmp 66) (.tmp 68) 37 2 .i64 8 rfl Try.underlying37 info2s (by decide) (.slice A o.length c) o (i : Int) rfl rfl HS5.out.row HS5.out.inv.below HS5.out.inv.below.size (by omega) ?_
       intro v6 w6 hown hrow hbel hgr hat
       obtain ⟨A6, n6, e6⟩ := own_slice hown
       subst e6
       have hap := HS5.out.apart HV.out HLT.out
       have h2 := HS5.out.apart2 HNE.out hap hat
       have HAT := Aside0.mk h2
       have HS6 := Aside0.mk (HS5.out.put HNE.out hap hgr hbel hrow)
       have HO6 := Aside0.mk hown
       clear hown hrow hbel hgr hat hap h2
       refine hK.out _ _ ⟨HS6.out.inv.c1, HS6.out.inv.at_ i hlt2⟩ (fun hHeld => ?_)
       clear hK K
       refine norm_ (a' := ?_) ?_ ?_
       rotate_left
       ·show Act.put _ (some 69) _ = _
        simp only [Act.put, sT_, s0_, sS_, i64_w, i32_w]
        rfl
       refine one_ (i := 13) (N := (some 78)) #[T_,T_,T_,T_,T_,T_,T_,T_,T_,T_,T_,T_,T_,T_,F_] rfl rfl (one_of HT_.out (by kernel_rfl)) (by decide) (fun K hK => ?_)
       go_simp
       go_at_call 69
       refine (spec_l00Max.calls most (rd sums2 (i : Int)) mg w6 HX.out).mono ?_
       rintro e w7 ⟨rfl, hb7⟩
       have HS7 := Aside0.mk (HS6.out.step hb7.below)
       have HO7 := Aside0.mk (pw_own_below HO6.out hb7.below)
       clear hb7
       refine hK.out _ _ ⟨HS7.out.inv.c1, HS7.out.inv.at_ i hlt2⟩ (fun hHeld => ?_)
       clear hK K
       refine last_ (i := 14) (N := (some 79)) #[T_,T_,T_,T_,T_,T_,T_,T_,T_,T_,T_,T_,T_,T_,T_] rfl rfl (one_of HT_.out (by kernel_rfl)) (by decide) (fun K hK => ?_)
       go_simp
       go_at_call 72
       refine (ih w7 sums2 vb' b' l' A6 _ n6 (o ++ [(i : Int)]) mg (by simp) HL2.out HM2.out HB2.out HS7.out.inv HO7.out HAT.out.1 HAT.out.2.1).mono ?_
       intro e w8 hp
       obtain ⟨rfl, vb8, hS8⟩ := HS7.out.call HNE.out HLT.out HAT.out.2.2 hp
       rw [← HST.out] at hS8
       have HS8 := Aside0.mk hS8
       clear hp hS8
       refine hK.out _ _ ?_
       clear hK K
       refine done_ (done_of HT_.out (by kernel_rfl)) ?_
       go_wp2_with fail
       refine hand_tail 16 (fun W => SK w0 w g gs cs (some al) cl l vb (.slice A o.length c) o sums2 vb8 st2.1 st2.2 W) (by kernel_rfl) (by kernel_rfl) (HS8.out.step (below_drew (Below.refl _ _))) ?_
       clear HS8 HS7 HO7 HAT HS6 HO6 HS5 HS1
       rintro W9 hS
       have c1 := hS.inv.c1
       have c0 := hS.inv.c0
       have k1 := hS.inv.at_ i hlt2
       have f1 := hS.inv.sums.frozenAt i
       obtain ⟨al', e', _, x1, _⟩ := at_T55 (Kd.C_below hS.inv.list hS.inv.below) (o.length : Int) (by omega) (by omega)
       cases e'
       rw [Int.toNat_natCast, ← HD.out] at x1
       have hv2 := HV2.out
       have hw1 : IntKind.i64.wrap (rd sums2 (i : Int) - d) = rd sums2 (i : Int) - d := IntWalk.i64_in _ (by omega)
       clear hv2
       have hS' := hS.sum HNE.out i (rd sums2 (i : Int) - d)
       rw [HBK.out] at hS'
       have HS := Aside0.mk hS'
       clear hS hS'
       simp only [List.take_succ_cons, List.take_zero, List.drop_succ_cons, List.drop_zero]
       repeat still_step
       refine wpStill_nil ?_
       go_wp2_with (refine hand_store (fun w' => SK w0 w g gs cs (some al) cl l vb (.slice A o.length c) o sums vb8 st2.1 st2.2 w') (t := 2) (p := 96) (v := .tmp 95) (w1 := W9.setCell ⟨gs, i, none⟩ (.int .i64 (rd sums2 (i : Int) - d))) ?hg rfl ?hN ?hr ?hF ?_; (case hg => rfl); (case hN => rfl); (case hr => first | (go_simp; done) | (go_simp; rfl)); (case hF => exact HS.out); clear c1 c0 k1 f1 x1 hw1 HS; rintro W10 hS1; have HS10 := Aside0.mk hS1; clear hS1)
       go_roundg (sums.length - (i + 1))
       case measure => have := HJ.out; omega
       case rel => exact ⟨i + 1, by go_num, ⟨by omega, by omega⟩, ⟨_, _, _, HS10.out, HR3.out⟩⟩
      ·have hltb : decide (i < sums.length) = false := decide_eq_false hlt
       rw [shareAt_end _ _ _ _ _ _ _ _ (by omega)] at hR
       have HP : Aside0 (SPost w0 w g gs cs (some al) cl l sums vb (.slice A o.length c) o (shareAt l sums.length r o most sums 0 (best, least)) (.returned (.tuple #[])) wr) := ⟨by rw [← hR]; exact ⟨rfl, vb', hS.inv, hS.row, hS.own, hS.keep⟩⟩
       clear hR hS
       go_wp2_with fail
       first | go_end0 | refine bodyPost_ret (results_none rfl _ _ _) rfl ?_
       exact HP.out
    | true =>
     cases b2 with
     | true => cases hbb
     | false =>
      go_enter Try.func72, Try.ntmps72
      go_wp2_with fail
      clear c3 c0 hb
      go_loopg [7] sums.length (fun gg v7 wr => ∃ i : Nat, v7 = .int .i64 (i : Int) ∧ Aside0 (i ≤ sums.length ∧ sums.length - i ≤ gg) ∧ Aside0 (∃ vb' b' l', SK w0 w g gs cs (some al) cl l vb (.slice A o.length c) o sums vb' b' l' wr ∧ shareAt l sums.length r o most sums i (b', l') = shareAt l sums.length r o most sums 0 (best, least)))
      case atStart => exact ⟨0, rfl, ⟨Nat.zero_le _, by omega⟩, ⟨_, _, _, HS.out, rfl⟩⟩
      case round =>
       obtain ⟨i, rfl, HJ, HI'⟩ := hrel
       obtain ⟨vb', b', l', hS, hR⟩ := HI'.out
       clear HI' HS
       have c1 := hS.inv.c1
       by_cases hlt : i < sums.length
       ·have hltb : decide (i < sums.length) = true := decide_eq_true hlt
        rw [shareAt_step _ _ _ _ _ _ _ _ hlt, ← HD.out] at hR
        have HR := Aside0.mk hR
        have HS := Aside0.mk hS
        clear hR hS
        go_wp2_with fail
        refine hand_tail 16 (fun W => SK w0 w g gs cs (some al) cl l vb (.slice A o.length c) o sums vb' b' l' W) (by kernel_rfl) (by kernel_rfl) (HS.out.step (below_drew (Below.refl _ _))) ?_
        clear HS c1
        rintro W hS
        have c1 := hS.inv.c1
        have c0 := hS.inv.c0
        have k1 := hS.inv.at_ i hlt
        have f1 := hS.inv.sums.frozenAt i
        obtain ⟨al', e', _, x1, _⟩ := at_T55 (Kd.C_below hS.inv.list hS.inv.below) (o.length : Int) (by omega) (by omega)
        cases e'
        rw [Int.toNat_natCast, ← HD.out] at x1
        have hbi := HBD.out i hlt
        have hw1 : IntKind.i64.wrap (rd sums (i : Int) + d) = rd sums (i : Int) + d := IntWalk.i64_in _ (by omega)
        have HS := Aside0.mk (hS.sum HNE.out i (rd sums (i : Int) + d))
        clear hS
        simp only [List.take_succ_cons, List.take_zero, List.drop_succ_cons, List.drop_zero]
        repeat still_step
        refine wpStill_nil ?_
        obtain ⟨sums2, hs2⟩ : ∃ sums2, sums2 = sums.set i (rd sums (i : Int) + d) := ⟨_, rfl⟩
        rw [← hs2] at HS
        have HSS := Aside0.mk hs2
        clear hs2
        go_wp2_with (refine hand_store (fun w' => SK w0 w g gs cs (some al) cl l vb (.slice A o.length c) o sums2 vb' b' l' w') (t := 2) (p := 64) (v := .tmp 63) (w1 := W.setCell ⟨gs, i, none⟩ (.int .i64 (rd sums (i : Int) + d))) ?hg rfl ?hN ?hr ?hF ?_; (case hg => rfl); (case hN => rfl); (case hr => first | (go_simp; done) | (go_simp; rfl)); (case hF => exact HS.out); clear c1 c0 k1 f1 x1 hw1 HS; rintro W1 hS1; have HS1 := Aside0.mk hS1; clear hS1)
        have hs2 := HSS.out
        have hl2 : sums2.length = sums.length := by rw [hs2, List.length_set]
        have hlt2 : i < sums2.length := by omega
        have hv2 : rd sums2 (i : Int) = rd sums (i : Int) + d := by rw [hs2]; unfold rd; simp [hlt]
        have HBK : Aside0 (sums2.set i (rd sums2 (i : Int) - d) = sums) := ⟨by
         rw [hv2, hs2, List.set_set, show rd sums (i : Int) + d - d = rd sums (i : Int) by omega]
         unfold rd
         rw [Int.toNat_natCast, List.getD_eq_getElem?_getD, List.getElem?_eq_getElem hlt, Option.getD_some, List.set_getElem_self]⟩
        have HM2 : Aside0 (sums2.length = sums.length) := ⟨hl2⟩
        have HL2 : Aside0 ((o ++ [(i : Int)]).length + r = l.length) := ⟨(by rw [List.length_append]; have := HE.out; show o.length + 1 + r = _; omega)⟩
        have HB2 : Aside0 (∀ j : Nat, j < sums.length → 0 ≤ rd sums2 (j : Int) ∧ rd sums2 (j : Int) ≤ 200 * ((o ++ [(i : Int)]).length : Int)) := ⟨by
         intro j hj
         have hlen : ((o ++ [(i : Int)]).length : Int) = (o.length : Int) + 1 := by simp
         rw [hlen]
         have hbj := HBD.out j hj
         by_cases hij : j = i
         ·subst hij
          rw [hv2]
          omega
         ·have : rd sums2 (j : Int) = rd sums (j : Int) := by
           rw [hs2]; unfold rd; simp [List.getD_eq_getElem?_getD, List.getElem?_set_ne (show i ≠ j by omega)]
          rw [this]
          omega⟩
        obtain ⟨mg, hmg⟩ : ∃ mg, mg = mx most (rd sums2 (i : Int)) := ⟨_, rfl⟩
        have HX : Aside0 (spec_l00Max.f most (rd sums2 (i : Int)) = some mg) := ⟨by rw [hmg]; unfold spec_l00Max.f mx; split <;> split <;> first | rfl | (congr 1; omega)⟩
        have hR3 := HR.out
        rw [← hs2, ← hv2, ← hmg] at hR3
        obtain ⟨st2, hst2⟩ : ∃ st2, st2 = shareW l sums.length r (o ++ [(i : Int)]) mg sums2 (b', l') := ⟨_, rfl⟩
        rw [← hst2] at hR3
        have HR3 := Aside0.mk hR3
        have HST := Aside0.mk hst2
        have HV2 := Aside0.mk hv2
        clear hR3 hst2 hv2 hmg hs2 HR
        have s1' := HS1.out.inv.c1
        have s2' := HS1.out.inv.at_ i hlt2
        refine start_ (n := 15) (S := fun w' => w'.cell? ⟨g, 1, none⟩ = some (.slice (some ⟨gs, 0, none⟩) sums2.length cs) ∧ w'.cell? ⟨gs, i, none⟩ = some (.int .i64 (rd sums2 (i : Int)))) (ds := [14]) #[F_,F_,F_,F_,F_,F_,F_,F_,F_,F_,F_,F_,F_,F_,F_] (by kernel_rfl) rfl rfl ⟨s1', s2'⟩ (fun hHeld => ?_); refine with_tabW l22S_walk.tab9 l22S_walk.bits9 (fun HT_ HW_ => ?_)
        generalize hW5 : W1.drew = W5 at hHeld ⊢
        have HS5 : Aside0 (SK w0 w g gs cs (some al) cl l vb (.slice A o.length c) o sums2 vb' b' l' W5) := ⟨by rw [← hW5]; exact HS1.out.step (below_drew (Below.refl _ _))⟩
        clear hW5
        refine pu (i := 0) (N := some 65) #[T_,F_,F_,F_,F_,F_,F_,F_,F_,F_,F_,F_,F_,F_,F_] HT_ ?_
        refine pu (i := 1) (N := some 66) #[T_,T_,F_,F_,F_,F_,F_,F_,F_,F_,F_,F_,F_,F_,F_] HT_ ?_
        refine pu (i := 2) (N := some 67) #[T_,T_,T_,F_,F_,F_,F_,F_,F_,F_,F_,F_,F_,F_,F_] HT_ ?_
        refine pu (i := 5) (N := some 70) #[T_,T_,T_,F_,F_,T_,F_,F_,F_,F_,F_,F_,F_,F_,F_] HT_ ?_
        refine pu (i := 6) (N := some 71) #[T_,T_,T_,F_,F_,T_,T_,F_,F_,F_,F_,F_,F_,F_,F_] HT_ ?_
        refine pu (i := 7) (N := some 72) #[T_,T_,T_,F_,F_,T_,T_,T_,F_,F_,F_,F_,F_,F_,F_] HT_ ?_
        refine pu (i := 8) (N := some 73) #[T_,T_,T_,F_,F_,T_,T_,T_,T_,F_,F_,F_,F_,F_,F_] HT_ ?_
        refine pu (i := 10) (N := some 75) #[T_,T_,T_,F_,F_,T_,T_,T_,T_,F_,T_,F_,F_,F_,F_] HT_ ?_
        refine take_ (i := 9) (N := some 74) (v := ?_) (a' := ?_) #[T_,T_,T_,F_,F_,T_,T_,T_,T_,T_,T_,F_,F_,F_,F_] rfl rfl (take_ofW HT_.out HW_.out (by kernel_rfl)) (fun _ _ _ h => h) (Or.inl ⟨by rfl, ?_⟩) hHeld ?_ ?_
        rotate_left
        ·rintro w' ⟨s0, s1⟩
         go_simp
         with_reducible rfl
        rotate_left
        ·simp only [Act.put, sT_, s0_, sS_, i64_w, i32_w]
         rfl
        refine pu (i := 11) (N := some 76) #[T_,T_,T_,F_,F_,T_,T_,T_,T_,T_,T_,T_,F_,F_,F_] HT_ ?_
        refine take_ (i := 12) (N := some 77) (v := ?_) (a' := ?_) #[T_,T_,T_,F_,F_,T_,T_,T_,T_,T_,T_,T_,T_,F_,F_] rfl rfl (take_ofW HT_.out HW_.out (by kernel_rfl)) (fun _ _ _ h => h) (Or.inl ⟨by rfl, ?_⟩) hHeld ?_ ?_
        rotate_left
        ·rintro w' ⟨s0, s1⟩
         go_simp
         with_reducible rfl
        rotate_left
        ·simp only [Act.put, sT_, s0_, sS_, i64_w, i32_w]
         rfl
        refine one_ (i := 3) (N := (some 68)) #[T_,T_,T_,T_,F_,T_,T_,T_,T_,T_,T_,T_,T_,F_,F_] rfl rfl (one_of HT_.out (by kernel_rfl)) (by decide) (fun K hK => ?_)
        refine event_step (v := .slice (some ⟨W5.heap.size, 0, none⟩) 1 1) (w1 := W5.alloc (.cells #[.int .i64 (i : Int)] 2)) (by rfl) (by first | (go_simp; done) | (go_simp; rfl)) ?_
        have t1 := pw_cell_below (below_alloc (Below.refl W5.heap.size W5) (.cells #[.int .i64 (i : Int)] 2)) HS5.out.inv.c1
        have t2 := pw_cell_below (below_alloc (Below.refl W5.heap.size W5) (.cells #[.int .i64 (i : Int)] 2)) (HS5.out.inv.at_ i hlt2)
        refine hK.out _ _ ⟨t1, t2⟩ (fun hHeld => ?_)
        clear hK K
        refine norm_ (a' := ?_) ?_ ?_
        rotate_left
        ·show Act.put _ (some 68) _ = _
         simp only [Act.put, sT_, s0_, sS_, i64_w, i32_w]
         rfl
        refine one_ (i := 4) (N := (some 69)) #[T_,T_,T_,T_,T_,T_,T_,T_,T_,T_,T_,T_,T_,F_,F_] rfl rfl (one_of HT_.out (by kernel_rfl)) (by decide) (fun K hK => ?_)
        refine hand_append (w0 := w0) w0.heap.size (by rfl) (.tmp 66) (.tmp 68) 37 2 .i64 8 rfl Try.underlying37 info2s (by decide) (.slice A o.length c) o (i : Int) rfl rfl HS5.out.row HS5.out.inv.below HS5.out.inv.below.size (by omega) ?_
        intro v6 w6 hown hrow hbel hgr hat
        obtain ⟨A6, n6, e6⟩ := own_slice hown
        subst e6
        have hap := HS5.out.apart HV.out HLT.out
        have h2 := HS5.out.apart2 HNE.out hap hat
        have HAT := Aside0.mk h2
        have HS6 := Aside0.mk (HS5.out.put HNE.out hap hgr hbel hrow)
        have HO6 := Aside0.mk hown
        clear hown hrow hbel hgr hat hap h2
        refine hK.out _ _ ⟨HS6.out.inv.c1, HS6.out.inv.at_ i hlt2⟩ (fun hHeld => ?_)
        clear hK K
        refine norm_ (a' := ?_) ?_ ?_
        rotate_left
        ·show Act.put _ (some 69) _ = _
         simp only [Act.put, sT_, s0_, sS_, i64_w, i32_w]
         rfl
        refine one_ (i := 13) (N := (some 78)) #[T_,T_,T_,T_,T_,T_,T_,T_,T_,T_,T_,T_,T_,T_,F_] rfl rfl (one_of HT_.out (by kernel_rfl)) (by decide) (fun K hK => ?_)
        go_simp
        go_at_call 69
        refine (spec_l00Max.calls most (rd sums2 (i : Int)) mg w6 HX.out).mono ?_
        rintro e w7 ⟨rfl, hb7⟩
        have HS7 := Aside0.mk (HS6.out.step hb7.below)
        have HO7 := Aside0.mk (pw_own_below HO6.out hb7.below)
        clear hb7
        refine hK.out _ _ ⟨HS7.out.inv.c1, HS7.out.inv.at_ i hlt2⟩ (fun hHeld => ?_)
        clear hK K
        refine last_ (i := 14) (N := (some 79)) #[T_,T_,T_,T_,T_,T_,T_,T_,T_,T_,T_,T_,T_,T_,T_] rfl rfl (one_of HT_.out (by kernel_rfl)) (by decide) (fun K hK => ?_)
        go_simp
        go_at_call 72
        refine (ih w7 sums2 vb' b' l' A6 _ n6 (o ++ [(i : Int)]) mg (by simp) HL2.out HM2.out HB2.out HS7.out.inv HO7.out HAT.out.1 HAT.out.2.1).mono ?_
        intro e w8 hp
        obtain ⟨rfl, vb8, hS8⟩ := HS7.out.call HNE.out HLT.out HAT.out.2.2 hp
        rw [← HST.out] at hS8
        have HS8 := Aside0.mk hS8
        clear hp hS8
        refine hK.out _ _ ?_
        clear hK K
        refine done_ (done_of HT_.out (by kernel_rfl)) ?_
        go_wp2_with fail
        refine hand_tail 16 (fun W => SK w0 w g gs cs (some al) cl l vb (.slice A o.length c) o sums2 vb8 st2.1 st2.2 W) (by kernel_rfl) (by kernel_rfl) (HS8.out.step (below_drew (Below.refl _ _))) ?_
        clear HS8 HS7 HO7 HAT HS6 HO6 HS5 HS1
        rintro W9 hS
        have c1 := hS.inv.c1
        have c0 := hS.inv.c0
        have k1 := hS.inv.at_ i hlt2
        have f1 := hS.inv.sums.frozenAt i
        obtain ⟨al', e', _, x1, _⟩ := at_T55 (Kd.C_below hS.inv.list hS.inv.below) (o.length : Int) (by omega) (by omega)
        cases e'
        rw [Int.toNat_natCast, ← HD.out] at x1
        have hv2 := HV2.out
        have hw1 : IntKind.i64.wrap (rd sums2 (i : Int) - d) = rd sums2 (i : Int) - d := IntWalk.i64_in _ (by omega)
        clear hv2
        have hS' := hS.sum HNE.out i (rd sums2 (i : Int) - d)
        rw [HBK.out] at hS'
        have HS := Aside0.mk hS'
        clear hS hS'
        simp only [List.take_succ_cons, List.take_zero, List.drop_succ_cons, List.drop_zero]
        repeat still_step
        refine wpStill_nil ?_
        go_wp2_with (refine hand_store (fun w' => SK w0 w g gs cs (some al) cl l vb (.slice A o.length c) o sums vb8 st2.1 st2.2 w') (t := 2) (p := 96) (v := .tmp 95) (w1 := W9.setCell ⟨gs, i, none⟩ (.int .i64 (rd sums2 (i : Int) - d))) ?hg rfl ?hN ?hr ?hF ?_; (case hg => rfl); (case hN => rfl); (case hr => first | (go_simp; done) | (go_simp; rfl)); (case hF => exact HS.out); clear c1 c0 k1 f1 x1 hw1 HS; rintro W10 hS1; have HS10 := Aside0.mk hS1; clear hS1)
        go_roundg (sums.length - (i + 1))
        case measure => have := HJ.out; omega
        case rel => exact ⟨i + 1, by go_num, ⟨by omega, by omega⟩, ⟨_, _, _, HS10.out, HR3.out⟩⟩
       ·have hltb : decide (i < sums.length) = false := decide_eq_false hlt
        rw [shareAt_end _ _ _ _ _ _ _ _ (by omega)] at hR
        have HP : Aside0 (SPost w0 w g gs cs (some al) cl l sums vb (.slice A o.length c) o (shareAt l sums.length r o most sums 0 (best, least)) (.returned (.tuple #[])) wr) := ⟨by rw [← hR]; exact ⟨rfl, vb', hS.inv, hS.row, hS.own, hS.keep⟩⟩
        clear hR hS
        go_wp2_with fail
        first | go_end0 | refine bodyPost_ret (results_none rfl _ _ _) rfl ?_
        exact HP.out
   refine key _ _ rfl rfl ?_
   by_cases h1 : 0 ≤ least
   ·have h2 : ¬ least ≤ most := fun h2 => hc ⟨h1, h2⟩
    simp [h2]
   ·simp [h1]


/-! ### spec_ShareRenewals: function 31 -/
-- (by hand)
open Go.Proofs.YtkegmjebkikniaaW.Hand
def spec_ShareRenewals.T7 : Bool × List (List Nat × List Nat) := (true, [([], []), ([0], [0]), ([1], [1]), ([2], [2]), ([], []), ([4], [4]), ([5], [5]), ([6], [6]), ([3, 0, 1, 2, 3], [3]), ([7, 8, 0, 1, 2, 3, 4, 5, 6, 7, 8], [7]), ([9, 0, 1, 2, 3, 4, 5, 6, 7, 8, 9], [])])
def spec_ShareRenewals.B7 : List Nat := [0, 1, 3, 7, 0, 16, 48, 112, 15, 511, 1023]
theorem spec_ShareRenewals.tab7 : rtab .any (opsOf Try.f31 7) = spec_ShareRenewals.T7 := by kernel_rfl
theorem spec_ShareRenewals.bits7 : waitsOk spec_ShareRenewals.T7.2 spec_ShareRenewals.B7 = true := by kernel_rfl

theorem SInv.grown {w0 w w1 : World} {g gs cs : Nat} {Al : Option Addr} {cl : Nat} {l : List S55} {sums : List Int} {vb : Value} {best : List Int} {least : Int} (h : SInv w0 w g gs cs Al cl l sums vb best least) (hg : w.grownBy w1 none) : SInv w0 w1 g gs cs Al cl l sums vb best least :=
 h.step ⟨hg.os, hg.tape, hg.output, hg.size, fun k hk => hg.block k hk (by simp)⟩
def shareSt (l : List S55) (m : Nat) : List Int × Int := shareW l m l.length [] 0 (List.replicate m 0) ([], -1)
def spec_ShareRenewals.f (k : Nat) (l0 : List S55) (a1 : Int) : Option (List Int × Int × Int) := (spec_l22Ok.f k l0).bind fun b => if b = true then ((spec_l00In.f a1 1 4).bind fun c => if c = true then (if (l0.length ≤ 7 ∧ daysOk l0 = true) ∧ 1 ≤ a1 ∧ a1 ≤ 4 then some ((shareSt l0 a1.toNat).1, (shareSt l0 a1.toNat).2, 0) else none) else some ([], 0, 2)) else some ([], 0, 1)
theorem spec_ShareRenewals.mono : ∀ a0 a1 k, LeO (spec_ShareRenewals.f k a0 a1) (spec_ShareRenewals.f (k + 1) a0 a1) := by
 intro a0 a1 k
 unfold spec_ShareRenewals.f
 exact LeO.bind (spec_l22Ok.mono _ _) (fun _ => LeO.refl _)
set_option maxRecDepth 100000 in
set_option maxHeartbeats 4000000 in
theorem spec_ShareRenewals.calls (k : Nat) (A0 : Option Addr) (c0 : Nat) (l0 : List S55) (a1 : Int) (r1 : List Int) (r2 r3 : Int) (w : World) (hr0 : Kd.C k55 w A0 l0.length l0) (hc0 : l0.length ≤ c0) (h : spec_ShareRenewals.f k l0 a1 = some (r1, r2, r3)) :
  Calls Try.prog 31 #[.slice A0 l0.length c0, .int .i64 a1] w fun e w' => ∃ v0_ : Value, e = .returned (.tuple #[v0_, .int .i64 r2, .int .i64 r3]) ∧ Kd.R (Kd.int .i64) 2 w' w.heap.size (fun _ => True) v0_ r1 ∧ Below w.heap.size w w' := by
 unfold spec_ShareRenewals.f at h
 have HR0 := Aside0.mk hr0
 have HC0 := Aside0.mk hc0
 clear hr0 hc0
 replace h := Option.bind_eq_some_iff.mp h
 obtain ⟨b, hv, h⟩ := h
 have HV := Aside0.mk hv
 clear hv
 cases b with
 | false =>
  rw [if_neg (by decide)] at h
  simp only [Option.some.injEq, Prod.mk.injEq] at h
  obtain ⟨rfl, rfl, rfl⟩ := h
  go_enter Try.func31, Try.ntmps31
  go_wp2_with (go_at_call 56; refine (spec_l22Ok.calls k A0 c0 l0 false w HR0.out HC0.out HV.out).mono ?_; rintro e w1 ⟨rfl, hb1⟩; have HB1 := Aside0.mk hb1; clear hb1)
  go_ret3
  exact ⟨_, rfl, Kd.R_nil _ _ _ _ _, HB1.out⟩
 | true =>
  rw [if_pos rfl] at h
  replace h := Option.bind_eq_some_iff.mp h
  obtain ⟨b1, hv1, h⟩ := h
  have HV1 := Aside0.mk hv1
  clear hv1
  cases b1 with
  | false =>
   rw [if_neg (by decide)] at h
   simp only [Option.some.injEq, Prod.mk.injEq] at h
   obtain ⟨rfl, rfl, rfl⟩ := h
   go_enter Try.func31, Try.ntmps31
   go_wp2_with (first | (go_at_call 56; refine (spec_l22Ok.calls k A0 c0 l0 true w HR0.out HC0.out HV.out).mono ?_; rintro e w1 ⟨rfl, hb1⟩; have HB1 := Aside0.mk hb1; clear hb1) | (go_at_call 71; refine (spec_l00In.calls a1 1 4 false w1 HV1.out).mono ?_; rintro e w2 ⟨rfl, hb2⟩; have HB2 := Aside0.mk (below_then HB1.out HB1.out.size hb2.below); clear hb2))
   go_ret3
   exact ⟨_, rfl, Kd.R_nil _ _ _ _ _, HB2.out⟩
  | true =>
   rw [if_pos rfl] at h
   by_cases hn : (l0.length ≤ 7 ∧ daysOk l0 = true) ∧ 1 ≤ a1 ∧ a1 ≤ 4
   ·rw [if_pos hn] at h
    obtain ⟨⟨hn7, hdo⟩, hn1, hn4⟩ := hn
    obtain ⟨st, hst⟩ : ∃ st, st = shareSt l0 a1.toNat := ⟨_, rfl⟩
    rw [← hst] at h
    simp only [Option.some.injEq, Prod.mk.injEq] at h
    obtain ⟨rfl, rfl, rfl⟩ := h
    have HST := Aside0.mk hst
    have HDO := Aside0.mk (daysOk_at hdo)
    clear hst hdo
    obtain ⟨sums0, hs0⟩ : ∃ s, s = List.replicate a1.toNat (0 : Int) := ⟨_, rfl⟩
    have hsl : sums0.length = a1.toNat := by rw [hs0, List.length_replicate]
    have HBD : Aside0 (∀ j : Nat, j < sums0.length → 0 ≤ rd sums0 (j : Int) ∧ rd sums0 (j : Int) ≤ 200 * (([] : List Int).length : Int)) := ⟨by
     intro j hj
     have : rd sums0 (j : Int) = 0 := by rw [hs0]; unfold rd; rw [Int.toNat_natCast, List.getD_eq_getElem?_getD, List.getElem?_replicate]; split <;> rfl
     rw [this]
     simp⟩
    have HS0 := Aside0.mk hs0
    have HSL := Aside0.mk hsl
    clear hs0 hsl
    go_enter Try.func31, Try.ntmps31
    go_wp2_with (first
     | (go_at_call 56; refine (spec_l22Ok.calls k A0 c0 l0 true w HR0.out HC0.out HV.out).mono ?_; rintro e w1 ⟨rfl, hb1⟩; have HB1 := Aside0.mk hb1; clear hb1)
     | (go_at_call 71; refine (spec_l00In.calls a1 1 4 true w1 HV1.out).mono ?_; rintro e w2 ⟨rfl, hb2⟩; have HB2 := Aside0.mk (below_then HB1.out HB1.out.size hb2.below); clear hb2)
     | ((with_reducible refine gate_dst (N := 16) rfl ?_); refine Kd.R_make (Kd.int .i64) w.heap.size 2 rfl (N := 16) rfl 37 _ _ rfl a1 rfl rfl Try.underlying37 (.int .i64 0) 8 info2s rfl (by decide) (by omega) 0 (ok := fun _ => True) (okp := fun _ => True) rfl (fun _ hk => hk) trivial (by omega) (by omega) HB2.out HB2.out.size ?_; intro v3 w3 hr3 hb3 hg3 _; rw [← HS0.out] at hr3; have ho3 := nums_of_R hr3; obtain ⟨gs, cs, e3⟩ := own_some ho3 (by have := HSL.out; omega); subst e3; have HO3 := Aside0.mk ho3; have HB3 := Aside0.mk hb3; clear hr3 ho3 hb3 hg3)
     | ((with_reducible refine gate_dst (N := 18) rfl ?_); refine hand_box (fun g w4 => SInv w w4 g gs cs A0 c0 l0 sums0 (.slice none 0 0) [] (-1)) ?hg2 (N := 18) ?hd2 (cs := #[.slice A0 l0.length c0, .slice (some ⟨gs, 0, none⟩) sums0.length cs, .slice none 0 0, .int .i64 (-1)]) (t := 83) ?hr2 ?hF2 ?_; (case hd2 => rfl); (case hg2 => rfl); (case hr2 => first | (go_simp; done) | (go_simp; rfl)); (case hF2 => exact ⟨heap_alloc_new _ _, HO3.out.alloc _, own_nil _ _ _ _, (by intro e; cases e), HR0.out, below_then HB3.out HB3.out.size (below_alloc (Below.refl _ _) _), HB3.out.size⟩); intro g w4 hI; have HI := Aside0.mk hI; clear hI)
     | ((with_reducible refine gate_dst (N := 20) rfl ?_); refine Kd.R_lit (Kd.int .i64) w.heap.size 2 ?hg3 (w0 := w) (N := 20) ?hd3 (xs := ([] : List Int)) (inner := []) (ok := fun _ => True) (okp := fun _ => True) ?hr3 ?hp3 (fun _ hk => hk) trivial HI.out.below HI.out.below.size (by simp) ?_; (case hd3 => rfl); (case hg3 => rfl); (case hr3 => first | (go_simp; done) | (go_simp; rfl)); (case hp3 => exact (Reps.none _ _)); intro v5 w5 ho5 hb5 hg5 hat5; have ho6 := nums_of_R ho5; obtain ⟨A5, n5, e5⟩ := own_slice ho6; subst e5; have HNE : Aside0 ((Value.slice A5 ([] : List Int).length n5).ownBlock ≠ some gs) := ⟨(by { obtain ⟨b, hb, hs⟩ := hat5; intro e; have h2 := own_lt HI.out.sums gs rfl; rw [hb] at e; injection e with e; omega })⟩; have HO5 := Aside0.mk ho6; have HI5 := Aside0.mk (HI.out.grown hg5); clear ho5 ho6 hb5 hg5 hat5 HI)
     | (go_at_call 72; refine (shareW_calls w g gs cs A0 c0 l0 hn7 HDO.out sums0.length (by have := HSL.out; omega) l0.length w5 sums0 _ [] (-1) A5 _ n5 [] 0 rfl (by simp) rfl HBD.out HI5.out HO5.out HNE.out (fun b hb => by cases hb)).mono ?_; rintro e w6 ⟨rfl, vb6, hI6, _, _, _⟩; rw [show shareW l0 sums0.length l0.length [] 0 sums0 ([], -1) = st by rw [HST.out, shareSt, ← HSL.out, HS0.out, List.length_replicate]] at hI6; obtain ⟨A6, n6, e6⟩ := own_slice hI6.brow; rw [e6] at hI6; clear e6; have d1 := hI6.c2; have d2 := hI6.c3; have HI6 := Aside0.mk hI6; clear hI6 HI5))
    refine start_ (n := 11) (S := fun w' => w'.cell? ⟨g, 2, none⟩ = some (.slice A6 st.1.length n6) ∧ w'.cell? ⟨g, 3, none⟩ = some (.int .i64 st.2)) (ds := [99]) #[F_,F_,F_,F_,F_,F_,F_,F_,F_,F_,F_] (by kernel_rfl) rfl rfl ⟨d1, d2⟩ (fun hHeld => ?_); refine with_tabW spec_ShareRenewals.tab7 spec_ShareRenewals.bits7 (fun HT_ HW_ => ?_)
    refine pu (i := 0) (N := some 22) #[T_,F_,F_,F_,F_,F_,F_,F_,F_,F_,F_] HT_ ?_
    refine pu (i := 1) (N := some 23) #[T_,T_,F_,F_,F_,F_,F_,F_,F_,F_,F_] HT_ ?_
    refine pu (i := 2) (N := some 24) #[T_,T_,T_,F_,F_,F_,F_,F_,F_,F_,F_] HT_ ?_
    refine pu (i := 4) (N := some 26) #[T_,T_,T_,F_,T_,F_,F_,F_,F_,F_,F_] HT_ ?_
    refine pu (i := 5) (N := some 27) #[T_,T_,T_,F_,T_,T_,F_,F_,F_,F_,F_] HT_ ?_
    refine pu (i := 6) (N := some 28) #[T_,T_,T_,F_,T_,T_,T_,F_,F_,F_,F_] HT_ ?_
    refine take_ (i := 3) (N := some 25) (v := ?_) (a' := ?_) #[T_,T_,T_,T_,T_,T_,T_,F_,F_,F_,F_] rfl rfl (take_ofW HT_.out HW_.out (by kernel_rfl)) (fun _ _ _ h => h) (Or.inl ⟨by rfl, ?_⟩) hHeld ?_ ?_
    rotate_left
    ·rintro w' ⟨s0, s1⟩
     go_simp
     with_reducible rfl
    rotate_left
    ·simp only [Act.put, sT_, s0_, sS_, i64_w, i32_w]
     rfl
    refine pu (i := 8) (N := some 4) #[T_,T_,T_,T_,T_,T_,T_,F_,T_,F_,F_] HT_ ?_
    refine take_ (i := 7) (N := some 29) (v := ?_) (a' := ?_) #[T_,T_,T_,T_,T_,T_,T_,T_,T_,F_,F_] rfl rfl (take_ofW HT_.out HW_.out (by kernel_rfl)) (fun _ _ _ h => h) (Or.inl ⟨by rfl, ?_⟩) hHeld ?_ ?_
    rotate_left
    ·rintro w' ⟨s0, s1⟩
     go_simp
     with_reducible rfl
    rotate_left
    ·simp only [Act.put, sT_, s0_, sS_, i64_w, i32_w]
     rfl
    refine pu (i := 9) (N := some 5) #[T_,T_,T_,T_,T_,T_,T_,T_,T_,T_,F_] HT_ ?_
    refine pu (i := 10) (N := some 6) #[T_,T_,T_,T_,T_,T_,T_,T_,T_,T_,T_] HT_ ?_
    refine done_ (done_of HT_.out (by kernel_rfl)) ?_
    go_wp2_with fail
    go_ret3
    exact ⟨_, rfl, R_of_nums (HI6.out.step (below_drew (Below.refl _ _))).brow, (HI6.out.step (below_drew (Below.refl _ _))).below⟩
   ·rw [if_neg hn] at h
    exact absurd h (by simp)


/-! ### laws_FnExactShareRenewals: function 7 -/
mutual
def laws_FnExactShareRenewals.j0 : Nat → List (S66) → Int → List Int → Int → Int → List (S55) → List Int → Int → Int → Bool → Option (Bool)
 | 0, _, _, _, _, _, _, _, _, _, _ => none
 | k + 1, x0, x1, x6, x7, x8, x9, x10, x11, x12, x54 => if x54 = true then (some false) else ((laws_toRenewalS.f k x0).bind fun t349 => ((laws_eqRenewalS.f k x9 t349).bind fun t352 => (if t352 = true then ((laws_markRenewalS.f k x9 1).bind fun bt353 => (if bt353.1 < 0 then (laws_FnExactShareRenewals.j1 k x0 x1 x6 x7 x8 x10 true) else ((laws_eqInt64S.f k x10 x6).bind fun t355 => (if t355 = true then (if x11 = x7 then (laws_FnExactShareRenewals.j1 k x0 x1 x6 x7 x8 x10 (x12 != x8)) else (laws_FnExactShareRenewals.j1 k x0 x1 x6 x7 x8 x10 true)) else (laws_FnExactShareRenewals.j1 k x0 x1 x6 x7 x8 x10 true))))) else (some false))))
def laws_FnExactShareRenewals.j1 : Nat → List (S66) → Int → List Int → Int → Int → List Int → Bool → Option (Bool)
 | 0, _, _, _, _, _, _, _ => none
 | k + 1, x0, x1, x6, x7, x8, x10, x80 => if x80 = true then (some false) else ((laws_markInt64S.f k x10 1).bind fun bt356 => ((laws_heldInt64S.f k bt356.2 1).bind fun t358 => (if t358 < 0 then (some false) else (if t358 = bt356.1 then ((laws_toRenewalS.f k x0).bind fun t359 => ((impl_ShareRenewals.f k t359 x1).bind fun bt362 => ((laws_eqInt64S.f k bt362.1 x6).bind fun t367 => (if t367 = true then (if bt362.2.1 = x7 then (laws_FnExactShareRenewals.j2 k bt356.2 bt356.1 (bt362.2.2 != x8)) else (laws_FnExactShareRenewals.j2 k bt356.2 bt356.1 true)) else (laws_FnExactShareRenewals.j2 k bt356.2 bt356.1 true))))) else (some false)))))
def laws_FnExactShareRenewals.j2 : Nat → List Int → Int → Bool → Option (Bool)
 | 0, _, _, _ => none
 | k + 1, x10, x14, x113 => if x113 = true then (some false) else ((laws_heldInt64S.f k x10 1).bind fun t368 => (if t368 < 0 then (some false) else (if t368 = x14 then (some true) else (some false))))
end
def laws_FnExactShareRenewals.f (k : Nat) (l0 : List (S66)) (a1 : Int) : Option (Bool) := (laws_szRenewalS.f k l0 1048576).bind fun t331 => (if t331 < 0 then (some true) else ((laws_toRenewalS.f k l0).bind fun t332 => ((spec_ShareRenewals.f k t332 a1).bind fun bt335 => ((laws_toRenewalS.f k l0).bind fun t340 => ((impl_ShareRenewals.f k t340 a1).bind fun bt343 => ((laws_eqInt64S.f k bt343.1 bt335.1).bind fun t348 => (if t348 = true then (if bt343.2.1 = bt335.2.1 then (laws_FnExactShareRenewals.j0 k l0 a1 bt335.1 bt335.2.1 bt335.2.2 t340 bt343.1 bt343.2.1 bt343.2.2 (bt343.2.2 != bt335.2.2)) else (laws_FnExactShareRenewals.j0 k l0 a1 bt335.1 bt335.2.1 bt335.2.2 t340 bt343.1 bt343.2.1 bt343.2.2 true)) else (laws_FnExactShareRenewals.j0 k l0 a1 bt335.1 bt335.2.1 bt335.2.2 t340 bt343.1 bt343.2.1 bt343.2.2 true))))))))
theorem laws_FnExactShareRenewals.mono_l : ∀ k, (∀ y0 y1 y2 y3 y4 y5 y6 y7 y8 y9, LeO (laws_FnExactShareRenewals.j0 k y0 y1 y2 y3 y4 y5 y6 y7 y8 y9) (laws_FnExactShareRenewals.j0 (k + 1) y0 y1 y2 y3 y4 y5 y6 y7 y8 y9)) ∧ (∀ y0 y1 y2 y3 y4 y5 y6, LeO (laws_FnExactShareRenewals.j1 k y0 y1 y2 y3 y4 y5 y6) (laws_FnExactShareRenewals.j1 (k + 1) y0 y1 y2 y3 y4 y5 y6)) ∧ (∀ y0 y1 y2, LeO (laws_FnExactShareRenewals.j2 k y0 y1 y2) (laws_FnExactShareRenewals.j2 (k + 1) y0 y1 y2))
 | 0 => ⟨fun _ _ _ _ _ _ _ _ _ _ r h => by simp [laws_FnExactShareRenewals.j0] at h, fun _ _ _ _ _ _ _ r h => by simp [laws_FnExactShareRenewals.j1] at h, fun _ _ _ r h => by simp [laws_FnExactShareRenewals.j2] at h⟩
 | k + 1 => by
  obtain ⟨ih0, ih1, ih2⟩ := laws_FnExactShareRenewals.mono_l k
  refine ⟨?_, ?_, ?_⟩
  ·intro y0 y1 y2 y3 y4 y5 y6 y7 y8 y9
   unfold laws_FnExactShareRenewals.j0
   repeat' first
   | (with_reducible exact ih0 _ _ _ _ _ _ _ _ _ _)
   | (with_reducible exact ih1 _ _ _ _ _ _ _)
   | (with_reducible exact ih2 _ _ _)
   | (with_reducible exact impl_ShareRenewals.mono _ _ _)
   | (with_reducible exact laws_eqInt64S.mono _ _ _)
   | (with_reducible exact laws_eqRenewalS.mono _ _ _)
   | (with_reducible exact laws_heldInt64S.mono _ _ _)
   | (with_reducible exact laws_markInt64S.mono _ _ _)
   | (with_reducible exact laws_markRenewalS.mono _ _ _)
   | (with_reducible exact laws_szRenewalS.mono _ _ _)
   | (with_reducible exact laws_toRenewalS.mono _ _)
   | (with_reducible exact spec_ShareRenewals.mono _ _ _)
   | (with_reducible exact LeO.refl _)
   | (with_reducible exact LeO.none _)
   | (with_reducible refine LeO.ite ?_ ?_)
   | (with_reducible refine LeO.bind ?_ (fun _ => ?_))
   | exact ih0 _ _ _ _ _ _ _ _ _ _
   | exact ih1 _ _ _ _ _ _ _
   | exact ih2 _ _ _
   | exact impl_ShareRenewals.mono _ _ _
   | exact laws_eqInt64S.mono _ _ _
   | exact laws_eqRenewalS.mono _ _ _
   | exact laws_heldInt64S.mono _ _ _
   | exact laws_markInt64S.mono _ _ _
   | exact laws_markRenewalS.mono _ _ _
   | exact laws_szRenewalS.mono _ _ _
   | exact laws_toRenewalS.mono _ _
   | exact spec_ShareRenewals.mono _ _ _
   | exact LeO.none _
   | refine LeO.ite ?_ ?_
   | refine LeO.bind ?_ (fun _ => ?_)
  ·intro y0 y1 y2 y3 y4 y5 y6
   unfold laws_FnExactShareRenewals.j1
   repeat' first
   | (with_reducible exact ih0 _ _ _ _ _ _ _ _ _ _)
   | (with_reducible exact ih1 _ _ _ _ _ _ _)
   | (with_reducible exact ih2 _ _ _)
   | (with_reducible exact impl_ShareRenewals.mono _ _ _)
   | (with_reducible exact laws_eqInt64S.mono _ _ _)
   | (with_reducible exact laws_eqRenewalS.mono _ _ _)
   | (with_reducible exact laws_heldInt64S.mono _ _ _)
   | (with_reducible exact laws_markInt64S.mono _ _ _)
   | (with_reducible exact laws_markRenewalS.mono _ _ _)
   | (with_reducible exact laws_szRenewalS.mono _ _ _)
   | (with_reducible exact laws_toRenewalS.mono _ _)
   | (with_reducible exact spec_ShareRenewals.mono _ _ _)
   | (with_reducible exact LeO.refl _)
   | (with_reducible exact LeO.none _)
   | (with_reducible refine LeO.ite ?_ ?_)
   | (with_reducible refine LeO.bind ?_ (fun _ => ?_))
   | exact ih0 _ _ _ _ _ _ _ _ _ _
   | exact ih1 _ _ _ _ _ _ _
   | exact ih2 _ _ _
   | exact impl_ShareRenewals.mono _ _ _
   | exact laws_eqInt64S.mono _ _ _
   | exact laws_eqRenewalS.mono _ _ _
   | exact laws_heldInt64S.mono _ _ _
   | exact laws_markInt64S.mono _ _ _
   | exact laws_markRenewalS.mono _ _ _
   | exact laws_szRenewalS.mono _ _ _
   | exact laws_toRenewalS.mono _ _
   | exact spec_ShareRenewals.mono _ _ _
   | exact LeO.none _
   | refine LeO.ite ?_ ?_
   | refine LeO.bind ?_ (fun _ => ?_)
  ·intro y0 y1 y2
   unfold laws_FnExactShareRenewals.j2
   repeat' first
   | (with_reducible exact ih0 _ _ _ _ _ _ _ _ _ _)
   | (with_reducible exact ih1 _ _ _ _ _ _ _)
   | (with_reducible exact ih2 _ _ _)
   | (with_reducible exact impl_ShareRenewals.mono _ _ _)
   | (with_reducible exact laws_eqInt64S.mono _ _ _)
   | (with_reducible exact laws_eqRenewalS.mono _ _ _)
   | (with_reducible exact laws_heldInt64S.mono _ _ _)
   | (with_reducible exact laws_markInt64S.mono _ _ _)
   | (with_reducible exact laws_markRenewalS.mono _ _ _)
   | (with_reducible exact laws_szRenewalS.mono _ _ _)
   | (with_reducible exact laws_toRenewalS.mono _ _)
   | (with_reducible exact spec_ShareRenewals.mono _ _ _)
   | (with_reducible exact LeO.refl _)
   | (with_reducible exact LeO.none _)
   | (with_reducible refine LeO.ite ?_ ?_)
   | (with_reducible refine LeO.bind ?_ (fun _ => ?_))
   | exact ih0 _ _ _ _ _ _ _ _ _ _
   | exact ih1 _ _ _ _ _ _ _
   | exact ih2 _ _ _
   | exact impl_ShareRenewals.mono _ _ _
   | exact laws_eqInt64S.mono _ _ _
   | exact laws_eqRenewalS.mono _ _ _
   | exact laws_heldInt64S.mono _ _ _
   | exact laws_markInt64S.mono _ _ _
   | exact laws_markRenewalS.mono _ _ _
   | exact laws_szRenewalS.mono _ _ _
   | exact laws_toRenewalS.mono _ _
   | exact spec_ShareRenewals.mono _ _ _
   | exact LeO.none _
   | refine LeO.ite ?_ ?_
   | refine LeO.bind ?_ (fun _ => ?_)
theorem laws_FnExactShareRenewals.mono : ∀ a0 a1 k, LeO (laws_FnExactShareRenewals.f k a0 a1) (laws_FnExactShareRenewals.f (k + 1) a0 a1) := by
 intro a0 a1 k
 obtain ⟨ih0, ih1, ih2⟩ := laws_FnExactShareRenewals.mono_l k
 unfold laws_FnExactShareRenewals.f
 repeat' first
   | (with_reducible exact ih0 _ _ _ _ _ _ _ _ _ _)
   | (with_reducible exact ih1 _ _ _ _ _ _ _)
   | (with_reducible exact ih2 _ _ _)
   | (with_reducible exact impl_ShareRenewals.mono _ _ _)
   | (with_reducible exact laws_eqInt64S.mono _ _ _)
   | (with_reducible exact laws_eqRenewalS.mono _ _ _)
   | (with_reducible exact laws_heldInt64S.mono _ _ _)
   | (with_reducible exact laws_markInt64S.mono _ _ _)
   | (with_reducible exact laws_markRenewalS.mono _ _ _)
   | (with_reducible exact laws_szRenewalS.mono _ _ _)
   | (with_reducible exact laws_toRenewalS.mono _ _)
   | (with_reducible exact spec_ShareRenewals.mono _ _ _)
   | (with_reducible exact LeO.refl _)
   | (with_reducible exact LeO.none _)
   | (with_reducible refine LeO.ite ?_ ?_)
   | (with_reducible refine LeO.bind ?_ (fun _ => ?_))
   | exact ih0 _ _ _ _ _ _ _ _ _ _
   | exact ih1 _ _ _ _ _ _ _
   | exact ih2 _ _ _
   | exact impl_ShareRenewals.mono _ _ _
   | exact laws_eqInt64S.mono _ _ _
   | exact laws_eqRenewalS.mono _ _ _
   | exact laws_heldInt64S.mono _ _ _
   | exact laws_markInt64S.mono _ _ _
   | exact laws_markRenewalS.mono _ _ _
   | exact laws_szRenewalS.mono _ _ _
   | exact laws_toRenewalS.mono _ _
   | exact spec_ShareRenewals.mono _ _ _
   | exact LeO.none _
   | refine LeO.ite ?_ ?_
   | refine LeO.bind ?_ (fun _ => ?_)
set_option maxHeartbeats 8000000 in
set_option maxRecDepth 100000 in
theorem laws_FnExactShareRenewals.calls (k : Nat) (A0 : Option Addr) (c0 : Nat) (l0 : List (S66)) (a1 : Int) (r : Bool) (w : World) (hr0 : Kd.C k66 w A0 l0.length l0) (hc0 : l0.length ≤ c0) (h : laws_FnExactShareRenewals.f k l0 a1 = some r) :
  Calls Try.prog 7 #[.slice A0 l0.length c0, .int .i64 a1] w fun e w' => e = .returned (.bool r) ∧ Below w.heap.size w w' := by
 have HR0 := Aside0.mk hr0
 have HC0 := Aside0.mk hc0
 clear hr0 hc0
 have HB := Aside0.mk (Below.refl w.heap.size w)
 have H : ((laws_szRenewalS.f k l0 1048576).bind fun t331 => (if t331 < 0 then (some true) else ((laws_toRenewalS.f k l0).bind fun t332 => ((spec_ShareRenewals.f k t332 a1).bind fun bt335 => ((laws_toRenewalS.f k l0).bind fun t340 => ((impl_ShareRenewals.f k t340 a1).bind fun bt343 => ((laws_eqInt64S.f k bt343.1 bt335.1).bind fun t348 => (if t348 = true then (if bt343.2.1 = bt335.2.1 then (laws_FnExactShareRenewals.j0 k l0 a1 bt335.1 bt335.2.1 bt335.2.2 t340 bt343.1 bt343.2.1 bt343.2.2 (bt343.2.2 != bt335.2.2)) else (laws_FnExactShareRenewals.j0 k l0 a1 bt335.1 bt335.2.1 bt335.2.2 t340 bt343.1 bt343.2.1 bt343.2.2 true)) else (laws_FnExactShareRenewals.j0 k l0 a1 bt335.1 bt335.2.1 bt335.2.2 t340 bt343.1 bt343.2.1 bt343.2.2 true))))))))) = some r := h
 clear h
 replace H := Option.bind_eq_some_iff.mp H
 obtain ⟨t331, A30, H⟩ := H
 replace H : (if t331 < 0 then (some true) else ((laws_toRenewalS.f k l0).bind fun t332 => ((spec_ShareRenewals.f k t332 a1).bind fun bt335 => ((laws_toRenewalS.f k l0).bind fun t340 => ((impl_ShareRenewals.f k t340 a1).bind fun bt343 => ((laws_eqInt64S.f k bt343.1 bt335.1).bind fun t348 => (if t348 = true then (if bt343.2.1 = bt335.2.1 then (laws_FnExactShareRenewals.j0 k l0 a1 bt335.1 bt335.2.1 bt335.2.2 t340 bt343.1 bt343.2.1 bt343.2.2 (bt343.2.2 != bt335.2.2)) else (laws_FnExactShareRenewals.j0 k l0 a1 bt335.1 bt335.2.1 bt335.2.2 t340 bt343.1 bt343.2.1 bt343.2.2 true)) else (laws_FnExactShareRenewals.j0 k l0 a1 bt335.1 bt335.2.1 bt335.2.2 t340 bt343.1 bt343.2.1 bt343.2.2 true)))))))) = some r := H
 have A3 := Aside0.mk A30
 clear A30
 by_cases c4 : t331 < 0
 ·rw [if_pos c4] at H
  have c4b0 : decide (t331 < 0) = true := decide_eq_true c4
  clear c4
  obtain rfl := Option.some.inj H
  go_enter Try.func7, Try.ntmps7
  go_wp2_with (first | ((with_reducible refine gate_callee (f := 20) rfl ?_); refine goesL_ (some 21) rfl rfl Try.func20 (by kernel_rfl) rfl #[.slice A0 l0.length c0, .int .i64 1048576] rfl ln_ ?_; (with_reducible refine (laws_szRenewalS.calls k _ _ l0 1048576 t331 _ ?side1 ?side2 A3.out).mono ?_); (case side1 => exact kc_ HR0.out); (case side2 => exact HC0.out); rintro e w5 ⟨rfl, hb⟩; refine ⟨_, rfl, ?_⟩; have n0_ := Aside0.mk (below_step hb_ hb); clear HB; have HB := n0_; clear n0_; (try clear hb); (try clear hb2); (try clear hk); (try clear hi)))
  go_ret
  exact ⟨ew_, hb_⟩
 ·rw [if_neg c4] at H
  have c4b0 : decide (t331 < 0) = false := decide_eq_false c4
  clear c4
  replace H := Option.bind_eq_some_iff.mp H
  obtain ⟨t332, A60, H⟩ := H
  replace H : ((spec_ShareRenewals.f k t332 a1).bind fun bt335 => ((laws_toRenewalS.f k l0).bind fun t340 => ((impl_ShareRenewals.f k t340 a1).bind fun bt343 => ((laws_eqInt64S.f k bt343.1 bt335.1).bind fun t348 => (if t348 = true then (if bt343.2.1 = bt335.2.1 then (laws_FnExactShareRenewals.j0 k l0 a1 bt335.1 bt335.2.1 bt335.2.2 t340 bt343.1 bt343.2.1 bt343.2.2 (bt343.2.2 != bt335.2.2)) else (laws_FnExactShareRenewals.j0 k l0 a1 bt335.1 bt335.2.1 bt335.2.2 t340 bt343.1 bt343.2.1 bt343.2.2 true)) else (laws_FnExactShareRenewals.j0 k l0 a1 bt335.1 bt335.2.1 bt335.2.2 t340 bt343.1 bt343.2.1 bt343.2.2 true)))))) = some r := H
  have A6 := Aside0.mk A60
  clear A60
  replace H := Option.bind_eq_some_iff.mp H
  obtain ⟨⟨t335, t336, t337⟩, A70, H⟩ := H
  replace H : ((laws_toRenewalS.f k l0).bind fun t340 => ((impl_ShareRenewals.f k t340 a1).bind fun bt343 => ((laws_eqInt64S.f k bt343.1 t335).bind fun t348 => (if t348 = true then (if bt343.2.1 = t336 then (laws_FnExactShareRenewals.j0 k l0 a1 t335 t336 t337 t340 bt343.1 bt343.2.1 bt343.2.2 (bt343.2.2 != t337)) else (laws_FnExactShareRenewals.j0 k l0 a1 t335 t336 t337 t340 bt343.1 bt343.2.1 bt343.2.2 true)) else (laws_FnExactShareRenewals.j0 k l0 a1 t335 t336 t337 t340 bt343.1 bt343.2.1 bt343.2.2 true))))) = some r := H
  have A7 := Aside0.mk A70
  clear A70
  replace H := Option.bind_eq_some_iff.mp H
  obtain ⟨t340, A80, H⟩ := H
  replace H : ((impl_ShareRenewals.f k t340 a1).bind fun bt343 => ((laws_eqInt64S.f k bt343.1 t335).bind fun t348 => (if t348 = true then (if bt343.2.1 = t336 then (laws_FnExactShareRenewals.j0 k l0 a1 t335 t336 t337 t340 bt343.1 bt343.2.1 bt343.2.2 (bt343.2.2 != t337)) else (laws_FnExactShareRenewals.j0 k l0 a1 t335 t336 t337 t340 bt343.1 bt343.2.1 bt343.2.2 true)) else (laws_FnExactShareRenewals.j0 k l0 a1 t335 t336 t337 t340 bt343.1 bt343.2.1 bt343.2.2 true)))) = some r := H
  have A8 := Aside0.mk A80
  clear A80
  replace H := Option.bind_eq_some_iff.mp H
  obtain ⟨⟨t343, t344, t345⟩, A90, H⟩ := H
  replace H : ((laws_eqInt64S.f k t343 t335).bind fun t348 => (if t348 = true then (if t344 = t336 then (laws_FnExactShareRenewals.j0 k l0 a1 t335 t336 t337 t340 t343 t344 t345 (t345 != t337)) else (laws_FnExactShareRenewals.j0 k l0 a1 t335 t336 t337 t340 t343 t344 t345 true)) else (laws_FnExactShareRenewals.j0 k l0 a1 t335 t336 t337 t340 t343 t344 t345 true))) = some r := H
  have A9 := Aside0.mk A90
  clear A90
  have HC10 := Aside0.mk H
  clear H
  go_enter Try.func7, Try.ntmps7
  go_upto_region 8 with (first | ((with_reducible refine gate_callee (f := 20) rfl ?_); refine goesL_ (some 21) rfl rfl Try.func20 (by kernel_rfl) rfl #[.slice A0 l0.length c0, .int .i64 1048576] rfl ln_ ?_; (with_reducible refine (laws_szRenewalS.calls k _ _ l0 1048576 t331 _ ?side1 ?side2 A3.out).mono ?_); (case side1 => exact kc_ HR0.out); (case side2 => exact HC0.out); rintro e w11 ⟨rfl, hb⟩; refine ⟨_, rfl, ?_⟩; have n0_ := Aside0.mk (below_step hb_ hb); clear HB; have HB := n0_; clear n0_; (try clear hb); (try clear hb2); (try clear hk); (try clear hi)) | ((with_reducible refine gate_callee (f := 22) rfl ?_); refine goesL_ (some 26) rfl rfl Try.func22 (by kernel_rfl) rfl #[.slice A0 l0.length c0] rfl ln_ ?_; (with_reducible refine (laws_toRenewalS.calls k _ _ l0 t332 _ ?side1 ?side2 A6.out).mono ?_); (case side1 => exact kc_ (Kd.C_below HR0.out HB.out)); (case side2 => exact HC0.out); rintro e w12 ⟨v333, rfl, ho0, hb⟩; refine ⟨_, rfl, ?_⟩; have n0_ := Aside0.mk (Kd.R_lower ho0 (below_size hb_)); have n1_ := Aside0.mk (below_step hb_ hb); clear HB; have HO334 := n0_; have HB := n1_; clear n0_ n1_; (try clear hb); (try clear hb2); (try clear hk); (try clear hi); (try clear ho0); obtain ⟨Ao13, co13, eo13⟩ := Kd.R_slice HO334.out; subst eo13) | ((with_reducible refine gate_callee (f := 31) rfl ?_); refine goesL_ (some 28) rfl rfl Try.func31 (by kernel_rfl) rfl #[.slice Ao13 t332.length co13, .int .i64 a1] rfl ln_ ?_; (with_reducible refine (spec_ShareRenewals.calls k _ _ t332 a1 t335 t336 t337 _ ?side1 ?side2 A7.out).mono ?_); (case side1 => repeat (first | exact (Kd.R_reads' HO334.out).2.2 | (with_reducible refine Kd.C_alloc ?_ _) | (with_reducible refine Kd.C_drewN ?_ _) | (with_reducible refine Kd.C_drew ?_))); (case side2 => exact (Kd.R_reads' HO334.out).2.1); rintro e w14 ⟨v338, rfl, ho0, hb⟩; refine ⟨_, rfl, ?_⟩; have n0_ := Aside0.mk (Kd.R_below (kr_ HO334) hb); have n1_ := Aside0.mk (Kd.R_lower ho0 (below_size hb_)); have n2_ := Aside0.mk (below_step hb_ hb); clear HO334; clear HB; have HO334 := n0_; have HO339 := n1_; have HB := n2_; clear n0_ n1_ n2_; (try clear hb); (try clear hb2); (try clear hk); (try clear hi); (try clear ho0)) | ((with_reducible refine gate_callee (f := 22) rfl ?_); refine goesL_ (some 33) rfl rfl Try.func22 (by kernel_rfl) rfl #[.slice A0 l0.length c0] rfl ln_ ?_; (with_reducible refine (laws_toRenewalS.calls k _ _ l0 t340 _ ?side1 ?side2 A8.out).mono ?_); (case side1 => exact kc_ (Kd.C_below HR0.out HB.out)); (case side2 => exact HC0.out); rintro e w15 ⟨v341, rfl, ho0, hb⟩; refine ⟨_, rfl, ?_⟩; have n0_ := Aside0.mk (Kd.R_elder' (kr_ HO334) (Kd.R_base ho0) hb); have n1_ := Aside0.mk (Kd.R_below (kr_ HO339) hb); have n2_ := Aside0.mk (Kd.R_lower (Kd.R_new' ho0 (Kd.R_lt (kr_ HO334))) (below_size hb_)); have n3_ := Aside0.mk (below_step hb_ hb); clear HO334; clear HO339; clear HB; have HO334 := n0_; have HO339 := n1_; have HO342 := n2_; have HB := n3_; clear n0_ n1_ n2_ n3_; (try clear hb); (try clear hb2); (try clear hk); (try clear hi); (try clear ho0); obtain ⟨Ao16, co16, eo16⟩ := Kd.R_slice HO342.out; subst eo16) | ((with_reducible refine gate_callee (f := 32) rfl ?_); refine goesL_ (some 37) rfl rfl Try.func32 (by kernel_rfl) rfl #[.slice Ao16 t340.length co16, .int .i64 a1] rfl ln_ ?_; (with_reducible refine (impl_ShareRenewals.calls k _ _ t340 a1 t343 t344 t345 _ ?side1 ?side2 A9.out).mono ?_); (case side1 => repeat (first | exact (Kd.R_reads' HO342.out).2.2 | (with_reducible refine Kd.C_alloc ?_ _) | (with_reducible refine Kd.C_drewN ?_ _) | (with_reducible refine Kd.C_drew ?_))); (case side2 => exact (Kd.R_reads' HO342.out).2.1); rintro e w17 ⟨v346, rfl, ho0, hb⟩; refine ⟨_, rfl, ?_⟩; have n0_ := Aside0.mk (Kd.R_below (kr_ HO334) hb); have n1_ := Aside0.mk (Kd.R_elder' (kr_ HO339) (Kd.R_base ho0) hb); have n2_ := Aside0.mk (Kd.R_below (kr_ HO342) hb); have n3_ := Aside0.mk (Kd.R_lower (Kd.R_new' ho0 (Kd.R_lt (kr_ HO339))) (below_size hb_)); have n4_ := Aside0.mk (below_step hb_ hb); clear HO334; clear HO339; clear HO342; clear HB; have HO334 := n0_; have HO339 := n1_; have HO342 := n2_; have HO347 := n3_; have HB := n4_; clear n0_ n1_ n2_ n3_ n4_; (try clear hb); (try clear hb2); (try clear hk); (try clear hi); (try clear ho0)))
  (try simp only [Act.put, List.setIfInBounds_toArray, List.set_cons_zero, List.set_cons_succ])
  go_cut [54] (fun v54 wc => ∃ (kq : Nat) (x54_9 : Bool), v54 = .bool x54_9 ∧ Aside0 (laws_FnExactShareRenewals.j0 kq l0 a1 t335 t336 t337 t340 t343 t344 t345 x54_9 = some r) ∧ Aside0 (kq ≤ k) ∧ Aside0 (Kd.R (Kd.int .i64) 2 wc w.heap.size (fun k_ => some k_ ≠ (v346 : Value).ownBlock) v338 t335) ∧ Aside0 (Kd.R k55 55 wc w.heap.size (fun _ => True) (.slice Ao16 t340.length co16) t340) ∧ Aside0 (Kd.R (Kd.int .i64) 2 wc w.heap.size (fun k_ => some k_ ≠ (v338 : Value).ownBlock) v346 t343) ∧ Aside0 (Below w.heap.size w wc))
  case first =>
   have H := HC10.out
   clear HC10
   replace H := Option.bind_eq_some_iff.mp H
   obtain ⟨t348, A180, H⟩ := H
   replace H : (if t348 = true then (if t344 = t336 then (laws_FnExactShareRenewals.j0 k l0 a1 t335 t336 t337 t340 t343 t344 t345 (t345 != t337)) else (laws_FnExactShareRenewals.j0 k l0 a1 t335 t336 t337 t340 t343 t344 t345 true)) else (laws_FnExactShareRenewals.j0 k l0 a1 t335 t336 t337 t340 t343 t344 t345 true)) = some r := H
   have A18 := Aside0.mk A180
   clear A180
   by_cases c19 : t348 = true
   ·subst c19
    have H1 : (if t344 = t336 then (laws_FnExactShareRenewals.j0 k l0 a1 t335 t336 t337 t340 t343 t344 t345 (t345 != t337)) else (laws_FnExactShareRenewals.j0 k l0 a1 t335 t336 t337 t340 t343 t344 t345 true)) = some r := by rw [if_pos rfl] at H; exact H
    clear H
    have H := H1
    clear H1
    by_cases c20 : t344 = t336
    ·rw [if_pos c20] at H
     have c20b0 : (t344 == t336) = true := beq_iff_eq.mpr c20
     have c20b1 : (t344 != t336) = false := bne_eq_false_iff_eq.mpr c20
     clear c20
     (first | rw [c20b0] | (simp only [i64_w, i32_w]; rw [c20b0]) | skip)
     have H' := Aside0.mk H
     clear H
     obtain ⟨Ao21, co21, eo21⟩ := Kd.R_slice HO347.out
     subst eo21
     obtain ⟨Ao22, co22, eo22⟩ := Kd.R_slice HO339.out
     subst eo22
     go_wp2_with (first | ((with_reducible refine gate_callee (f := 30) rfl ?_); refine goesL_ (some 43) rfl rfl Try.func30 (by kernel_rfl) rfl #[.slice Ao21 t343.length co21, .slice Ao22 t335.length co22] rfl ln_ ?_; (with_reducible refine (laws_eqInt64S.calls k _ _ t343 _ _ t335 true _ ?side1 ?side2 ?side3 ?side4 A18.out).mono ?_); (case side1 => repeat (first | exact (Kd.R_reads' HO347.out).2.2 | (with_reducible refine Kd.C_alloc ?_ _) | (with_reducible refine Kd.C_drewN ?_ _) | (with_reducible refine Kd.C_drew ?_))); (case side2 => exact (Kd.R_reads' HO347.out).2.1); (case side3 => repeat (first | exact (Kd.R_reads' HO339.out).2.2 | (with_reducible refine Kd.C_alloc ?_ _) | (with_reducible refine Kd.C_drewN ?_ _) | (with_reducible refine Kd.C_drew ?_))); (case side4 => exact (Kd.R_reads' HO339.out).2.1); rintro e w' ⟨rfl, ⟨nd, rfl⟩⟩; refine ⟨_, rfl, ?_⟩))
     go_meet
     case rel => exact ⟨_, ((t345 != t337)), (by first | rfl | (simp; done) | (simp [*]; done)), H', ⟨by first | omega | exact Nat.le_refl _⟩, ⟨by (with_reducible repeat (first | apply Kd.R_alloc | apply Kd.R_drewN | apply Kd.R_drew)); exact Kd.R_mono HO339.out (fun _ hk => hk.2)⟩, ⟨by (with_reducible repeat (first | apply Kd.R_alloc | apply Kd.R_drewN | apply Kd.R_drew)); exact Kd.R_mono HO342.out (fun _ hk => trivial)⟩, ⟨by (with_reducible repeat (first | apply Kd.R_alloc | apply Kd.R_drewN | apply Kd.R_drew)); exact Kd.R_mono HO347.out (fun _ hk => hk.2)⟩, ⟨hb_⟩⟩
    ·rw [if_neg c20] at H
     have c20b0 : (t344 == t336) = false := beq_eq_false_iff_ne.mpr c20
     have c20b1 : (t344 != t336) = true := bne_iff_ne.mpr c20
     (first | rw [c20b0] | (simp only [i64_w, i32_w]; rw [c20b0]) | skip)
     have H' := Aside0.mk H
     clear H
     obtain ⟨Ao23, co23, eo23⟩ := Kd.R_slice HO347.out
     subst eo23
     obtain ⟨Ao24, co24, eo24⟩ := Kd.R_slice HO339.out
     subst eo24
     go_wp2_with (first | ((with_reducible refine gate_callee (f := 30) rfl ?_); refine goesL_ (some 43) rfl rfl Try.func30 (by kernel_rfl) rfl #[.slice Ao23 t343.length co23, .slice Ao24 t335.length co24] rfl ln_ ?_; (with_reducible refine (laws_eqInt64S.calls k _ _ t343 _ _ t335 true _ ?side1 ?side2 ?side3 ?side4 A18.out).mono ?_); (case side1 => repeat (first | exact (Kd.R_reads' HO347.out).2.2 | (with_reducible refine Kd.C_alloc ?_ _) | (with_reducible refine Kd.C_drewN ?_ _) | (with_reducible refine Kd.C_drew ?_))); (case side2 => exact (Kd.R_reads' HO347.out).2.1); (case side3 => repeat (first | exact (Kd.R_reads' HO339.out).2.2 | (with_reducible refine Kd.C_alloc ?_ _) | (with_reducible refine Kd.C_drewN ?_ _) | (with_reducible refine Kd.C_drew ?_))); (case side4 => exact (Kd.R_reads' HO339.out).2.1); rintro e w' ⟨rfl, ⟨nd, rfl⟩⟩; refine ⟨_, rfl, ?_⟩))
     go_meet
     case rel => exact ⟨_, (true), (by first | rfl | (simp; done) | (simp [*]; done)), H', ⟨by first | omega | exact Nat.le_refl _⟩, ⟨by (with_reducible repeat (first | apply Kd.R_alloc | apply Kd.R_drewN | apply Kd.R_drew)); exact Kd.R_mono HO339.out (fun _ hk => hk.2)⟩, ⟨by (with_reducible repeat (first | apply Kd.R_alloc | apply Kd.R_drewN | apply Kd.R_drew)); exact Kd.R_mono HO342.out (fun _ hk => trivial)⟩, ⟨by (with_reducible repeat (first | apply Kd.R_alloc | apply Kd.R_drewN | apply Kd.R_drew)); exact Kd.R_mono HO347.out (fun _ hk => hk.2)⟩, ⟨hb_⟩⟩
   ·replace c19 := Bool.eq_false_iff.mpr c19
    subst c19
    have H1 : (laws_FnExactShareRenewals.j0 k l0 a1 t335 t336 t337 t340 t343 t344 t345 true) = some r := by rw [if_neg (show ¬ (false = true) by decide)] at H; exact H
    clear H
    have H := H1
    clear H1
    have H' := Aside0.mk H
    clear H
    obtain ⟨Ao25, co25, eo25⟩ := Kd.R_slice HO347.out
    subst eo25
    obtain ⟨Ao26, co26, eo26⟩ := Kd.R_slice HO339.out
    subst eo26
    go_wp2_with (first | ((with_reducible refine gate_callee (f := 30) rfl ?_); refine goesL_ (some 43) rfl rfl Try.func30 (by kernel_rfl) rfl #[.slice Ao25 t343.length co25, .slice Ao26 t335.length co26] rfl ln_ ?_; (with_reducible refine (laws_eqInt64S.calls k _ _ t343 _ _ t335 false _ ?side1 ?side2 ?side3 ?side4 A18.out).mono ?_); (case side1 => repeat (first | exact (Kd.R_reads' HO347.out).2.2 | (with_reducible refine Kd.C_alloc ?_ _) | (with_reducible refine Kd.C_drewN ?_ _) | (with_reducible refine Kd.C_drew ?_))); (case side2 => exact (Kd.R_reads' HO347.out).2.1); (case side3 => repeat (first | exact (Kd.R_reads' HO339.out).2.2 | (with_reducible refine Kd.C_alloc ?_ _) | (with_reducible refine Kd.C_drewN ?_ _) | (with_reducible refine Kd.C_drew ?_))); (case side4 => exact (Kd.R_reads' HO339.out).2.1); rintro e w' ⟨rfl, ⟨nd, rfl⟩⟩; refine ⟨_, rfl, ?_⟩))
    go_meet
    case rel => exact ⟨_, (true), (by first | rfl | (simp; done) | (simp [*]; done)), H', ⟨by first | omega | exact Nat.le_refl _⟩, ⟨by (with_reducible repeat (first | apply Kd.R_alloc | apply Kd.R_drewN | apply Kd.R_drew)); exact Kd.R_mono HO339.out (fun _ hk => hk.2)⟩, ⟨by (with_reducible repeat (first | apply Kd.R_alloc | apply Kd.R_drewN | apply Kd.R_drew)); exact Kd.R_mono HO342.out (fun _ hk => trivial)⟩, ⟨by (with_reducible repeat (first | apply Kd.R_alloc | apply Kd.R_drewN | apply Kd.R_drew)); exact Kd.R_mono HO347.out (fun _ hk => hk.2)⟩, ⟨hb_⟩⟩
  case rest =>
   clear HC10
   try clear c1
   try clear c2
   try clear p2
   try clear c3
   try clear c4
   try clear c4b0
   try clear c7
   try clear c19
   try clear c20
   try clear c20b0
   try clear c20b1
   try clear c22
   obtain ⟨kq, x54_9, rfl, HA, HJ9, HO_6, HO_9, HO_10, HB⟩ := hcut
   cases kq with
   | zero => exact absurd HA.out (by simp [laws_FnExactShareRenewals.j0])
   | succ kj9 =>
    have H := HA.out
    clear HA
    simp only [laws_FnExactShareRenewals.j0] at H
    by_cases c27 : x54_9 = true
    ·subst c27
     have H1 : (some false) = some r := by rw [if_pos rfl] at H; exact H
     clear H
     have H := H1
     clear H1
     obtain rfl := Option.some.inj H
     go_wp2
     go_ret
     exact ⟨ew_, hb_⟩
    ·replace c27 := Bool.eq_false_iff.mpr c27
     subst c27
     have H1 : ((laws_toRenewalS.f kj9 l0).bind fun t349 => ((laws_eqRenewalS.f kj9 t340 t349).bind fun t352 => (if t352 = true then ((laws_markRenewalS.f kj9 t340 1).bind fun bt353 => (if bt353.1 < 0 then (laws_FnExactShareRenewals.j1 kj9 l0 a1 t335 t336 t337 t343 true) else ((laws_eqInt64S.f kj9 t343 t335).bind fun t355 => (if t355 = true then (if t344 = t336 then (laws_FnExactShareRenewals.j1 kj9 l0 a1 t335 t336 t337 t343 (t345 != t337)) else (laws_FnExactShareRenewals.j1 kj9 l0 a1 t335 t336 t337 t343 true)) else (laws_FnExactShareRenewals.j1 kj9 l0 a1 t335 t336 t337 t343 true))))) else (some false)))) = some r := by rw [if_neg (show ¬ (false = true) by decide)] at H; exact H
     clear H
     have H := H1
     clear H1
     replace H := Option.bind_eq_some_iff.mp H
     obtain ⟨t349, A280, H⟩ := H
     replace H : ((laws_eqRenewalS.f kj9 t340 t349).bind fun t352 => (if t352 = true then ((laws_markRenewalS.f kj9 t340 1).bind fun bt353 => (if bt353.1 < 0 then (laws_FnExactShareRenewals.j1 kj9 l0 a1 t335 t336 t337 t343 true) else ((laws_eqInt64S.f kj9 t343 t335).bind fun t355 => (if t355 = true then (if t344 = t336 then (laws_FnExactShareRenewals.j1 kj9 l0 a1 t335 t336 t337 t343 (t345 != t337)) else (laws_FnExactShareRenewals.j1 kj9 l0 a1 t335 t336 t337 t343 true)) else (laws_FnExactShareRenewals.j1 kj9 l0 a1 t335 t336 t337 t343 true))))) else (some false))) = some r := H
     have A28 := Aside0.mk A280
     clear A280
     replace H := Option.bind_eq_some_iff.mp H
     obtain ⟨t352, A290, H⟩ := H
     replace H : (if t352 = true then ((laws_markRenewalS.f kj9 t340 1).bind fun bt353 => (if bt353.1 < 0 then (laws_FnExactShareRenewals.j1 kj9 l0 a1 t335 t336 t337 t343 true) else ((laws_eqInt64S.f kj9 t343 t335).bind fun t355 => (if t355 = true then (if t344 = t336 then (laws_FnExactShareRenewals.j1 kj9 l0 a1 t335 t336 t337 t343 (t345 != t337)) else (laws_FnExactShareRenewals.j1 kj9 l0 a1 t335 t336 t337 t343 true)) else (laws_FnExactShareRenewals.j1 kj9 l0 a1 t335 t336 t337 t343 true))))) else (some false)) = some r := H
     have A29 := Aside0.mk A290
     clear A290
     by_cases c30 : t352 = true
     ·subst c30
      have H1 : ((laws_markRenewalS.f kj9 t340 1).bind fun bt353 => (if bt353.1 < 0 then (laws_FnExactShareRenewals.j1 kj9 l0 a1 t335 t336 t337 t343 true) else ((laws_eqInt64S.f kj9 t343 t335).bind fun t355 => (if t355 = true then (if t344 = t336 then (laws_FnExactShareRenewals.j1 kj9 l0 a1 t335 t336 t337 t343 (t345 != t337)) else (laws_FnExactShareRenewals.j1 kj9 l0 a1 t335 t336 t337 t343 true)) else (laws_FnExactShareRenewals.j1 kj9 l0 a1 t335 t336 t337 t343 true))))) = some r := by rw [if_pos rfl] at H; exact H
      clear H
      have H := H1
      clear H1
      replace H := Option.bind_eq_some_iff.mp H
      obtain ⟨⟨t353, t354⟩, A310, H⟩ := H
      replace H : (if t353 < 0 then (laws_FnExactShareRenewals.j1 kj9 l0 a1 t335 t336 t337 t343 true) else ((laws_eqInt64S.f kj9 t343 t335).bind fun t355 => (if t355 = true then (if t344 = t336 then (laws_FnExactShareRenewals.j1 kj9 l0 a1 t335 t336 t337 t343 (t345 != t337)) else (laws_FnExactShareRenewals.j1 kj9 l0 a1 t335 t336 t337 t343 true)) else (laws_FnExactShareRenewals.j1 kj9 l0 a1 t335 t336 t337 t343 true)))) = some r := H
      have A31 := Aside0.mk A310
      clear A310
      have HC32 := Aside0.mk H
      clear H
      go_upto_region 14 with (first | ((with_reducible refine gate_callee (f := 22) rfl ?_); refine goesL_ (some 57) rfl rfl Try.func22 (by kernel_rfl) rfl #[.slice A0 l0.length c0] rfl ln_ ?_; (with_reducible refine (laws_toRenewalS.calls kj9 _ _ l0 t349 _ ?side1 ?side2 A28.out).mono ?_); (case side1 => exact kc_ (Kd.C_below HR0.out HB.out)); (case side2 => exact HC0.out); rintro e w33 ⟨v350, rfl, ho0, hb⟩; refine ⟨_, rfl, ?_⟩; have n0_ := Aside0.mk (Kd.R_below (kr_ HO_6) hb); have n1_ := Aside0.mk (Kd.R_elder' (kr_ HO_9) (Kd.R_base ho0) hb); have n2_ := Aside0.mk (Kd.R_below (kr_ HO_10) hb); have n3_ := Aside0.mk (Kd.R_lower (Kd.R_new' ho0 (Kd.R_lt (kr_ HO_9))) (below_size hb_)); have n4_ := Aside0.mk (below_step hb_ hb); clear HO_6; clear HO_9; clear HO_10; clear HB; have HO_6 := n0_; have HO_9 := n1_; have HO_10 := n2_; have HO351 := n3_; have HB := n4_; clear n0_ n1_ n2_ n3_ n4_; (try clear hb); (try clear hb2); (try clear hk); (try clear hi); (try clear ho0); obtain ⟨Ao34, co34, eo34⟩ := Kd.R_slice HO351.out; subst eo34) | ((with_reducible refine gate_callee (f := 24) rfl ?_); refine goesL_ (some 58) rfl rfl Try.func24 (by kernel_rfl) rfl #[.slice Ao16 t340.length co16, .slice Ao34 t349.length co34] rfl ln_ ?_; (with_reducible refine (laws_eqRenewalS.calls kj9 _ _ t340 _ _ t349 true _ ?side1 ?side2 ?side3 ?side4 A29.out).mono ?_); (case side1 => repeat (first | exact (Kd.R_reads' HO_9.out).2.2 | (with_reducible refine Kd.C_alloc ?_ _) | (with_reducible refine Kd.C_drewN ?_ _) | (with_reducible refine Kd.C_drew ?_))); (case side2 => exact (Kd.R_reads' HO_9.out).2.1); (case side3 => repeat (first | exact (Kd.R_reads' HO351.out).2.2 | (with_reducible refine Kd.C_alloc ?_ _) | (with_reducible refine Kd.C_drewN ?_ _) | (with_reducible refine Kd.C_drew ?_))); (case side4 => exact (Kd.R_reads' HO351.out).2.1); rintro e w35 ⟨rfl, hb⟩; refine ⟨_, rfl, ?_⟩; have n0_ := Aside0.mk (Kd.R_below (kr_ HO_6) hb); have n1_ := Aside0.mk (Kd.R_below (kr_ HO_9) hb); have n2_ := Aside0.mk (Kd.R_below (kr_ HO_10) hb); have n3_ := Aside0.mk (Kd.R_below (kr_ HO351) hb); have n4_ := Aside0.mk (below_step hb_ hb); clear HO_6; clear HO_9; clear HO_10; clear HO351; clear HB; have HO_6 := n0_; have HO_9 := n1_; have HO_10 := n2_; have HO351 := n3_; have HB := n4_; clear n0_ n1_ n2_ n3_ n4_; (try clear hb); (try clear hb2); (try clear hk); (try clear hi)) | ((with_reducible refine gate_callee (f := 33) rfl ?_); refine goesL_ (some 62) rfl rfl Try.func33 (by kernel_rfl) rfl #[.slice Ao16 t340.length co16, .int .i64 1] rfl ln_ ?_; (with_reducible refine (laws_markRenewalS.calls kj9 (fun k_ => some k_ = (.slice Ao16 t340.length co16 : Value).ownBlock) (.slice Ao16 t340.length co16) t340 1 t353 t354 w _ ?side1 ?side2 A31.out).mono ?_); (case side1 => repeat (first | (with_reducible first | exact HB.out | apply below_alloc | apply pw_below_drewN | apply below_drew1) | exact HB.out)); (case side2 => exact Kd.R_tight rfl HO_9.out); rintro e w36 ⟨rfl, hy0, hb, hkp⟩; refine ⟨_, rfl, ?_⟩; have n0_ := Aside0.mk (Kd.R_mono (ok' := fun k_ => some k_ ≠ (v346 : Value).ownBlock) (Kd.R_keptB ((Kd.R_apart' HO_6.out (Kd.R_typed HO_9.out) (by decide))) hkp (fun k_ hk_ hs_ => (hk_.2) hs_)) (fun k_ hk_ => hk_.1.1)); have n1_ := Aside0.mk (Kd.R_reok rfl hy0 (fun k_ e_ => HO_9.out.1 k_ e_)); have n2_ := Aside0.mk (Kd.R_mono (ok' := fun k_ => some k_ ≠ (v338 : Value).ownBlock) (Kd.R_keptB ((Kd.R_apart' HO_10.out (Kd.R_typed HO_9.out) (by decide))) hkp (fun k_ hk_ hs_ => (hk_.2) hs_)) (fun k_ hk_ => hk_.1.1)); have n3_ := Aside0.mk (Kd.R_mono (ok' := fun k_ => some k_ ≠ (.slice Ao16 t340.length co16 : Value).ownBlock) (Kd.R_keptB (HO351.out) hkp (fun k_ hk_ hs_ => (hk_.2) hs_)) (fun k_ hk_ => hk_.1.2)); have n4_ := Aside0.mk (hb); clear HO_6; clear HO_9; clear HO_10; clear HO351; clear HB; have HO_6 := n0_; have HO_9 := n1_; have HO_10 := n2_; have HO351 := n3_; have HB := n4_; clear n0_ n1_ n2_ n3_ n4_; (try clear hb); (try clear hkp); (try clear hy0)))
      (try simp only [Act.put, List.setIfInBounds_toArray, List.set_cons_zero, List.set_cons_succ])
      go_cut [80] (fun v80 wc => ∃ (kq : Nat) (x80_31 : Bool), v80 = .bool x80_31 ∧ Aside0 (laws_FnExactShareRenewals.j1 kq l0 a1 t335 t336 t337 t343 x80_31 = some r) ∧ Aside0 (kq ≤ kj9) ∧ Aside0 (Kd.R (Kd.int .i64) 2 wc w.heap.size (fun k_ => some k_ ≠ (v346 : Value).ownBlock) v338 t335) ∧ Aside0 (Kd.R (Kd.int .i64) 2 wc w.heap.size (fun k_ => some k_ ≠ (v338 : Value).ownBlock) v346 t343) ∧ Aside0 (Below w.heap.size w wc))
      case first =>
       have H := HC32.out
       clear HC32
       by_cases c37 : t353 < 0
       ·rw [if_pos c37] at H
        have c37b0 : decide (t353 < 0) = true := decide_eq_true c37
        clear c37
        (first | rw [c37b0] | (simp only [i64_w, i32_w]; rw [c37b0]) | skip)
        have H' := Aside0.mk H
        clear H
        go_wp2
        go_meet
        case rel => exact ⟨_, (true), (by first | rfl | (simp; done) | (simp [*]; done)), H', ⟨by have := HJ9.out; first | omega | exact Nat.le_refl _⟩, ⟨by (with_reducible repeat (first | apply Kd.R_alloc | apply Kd.R_drewN | apply Kd.R_drew)); exact HO_6.out⟩, ⟨by (with_reducible repeat (first | apply Kd.R_alloc | apply Kd.R_drewN | apply Kd.R_drew)); exact HO_10.out⟩, ⟨hb_⟩⟩
       ·rw [if_neg c37] at H
        have c37b0 : decide (t353 < 0) = false := decide_eq_false c37
        clear c37
        (first | rw [c37b0] | (simp only [i64_w, i32_w]; rw [c37b0]) | skip)
        replace H := Option.bind_eq_some_iff.mp H
        obtain ⟨t355, A380, H⟩ := H
        replace H : (if t355 = true then (if t344 = t336 then (laws_FnExactShareRenewals.j1 kj9 l0 a1 t335 t336 t337 t343 (t345 != t337)) else (laws_FnExactShareRenewals.j1 kj9 l0 a1 t335 t336 t337 t343 true)) else (laws_FnExactShareRenewals.j1 kj9 l0 a1 t335 t336 t337 t343 true)) = some r := H
        have A38 := Aside0.mk A380
        clear A380
        by_cases c39 : t355 = true
        ·subst c39
         have H1 : (if t344 = t336 then (laws_FnExactShareRenewals.j1 kj9 l0 a1 t335 t336 t337 t343 (t345 != t337)) else (laws_FnExactShareRenewals.j1 kj9 l0 a1 t335 t336 t337 t343 true)) = some r := by rw [if_pos rfl] at H; exact H
         clear H
         have H := H1
         clear H1
         by_cases c40 : t344 = t336
         ·rw [if_pos c40] at H
          have c40b0 : (t344 == t336) = true := beq_iff_eq.mpr c40
          have c40b1 : (t344 != t336) = false := bne_eq_false_iff_eq.mpr c40
          clear c40
          have H' := Aside0.mk H
          clear H
          obtain ⟨Ao41, co41, eo41⟩ := Kd.R_slice HO_10.out
          subst eo41
          obtain ⟨Ao42, co42, eo42⟩ := Kd.R_slice HO_6.out
          subst eo42
          go_wp2_with (first | (go_at_call 30; (with_reducible refine (laws_eqInt64S.calls kj9 _ _ t343 _ _ t335 true _ ?side1 ?side2 ?side3 ?side4 A38.out).mono ?_); (case side1 => repeat (first | exact (Kd.R_reads' HO_10.out).2.2 | (with_reducible refine Kd.C_alloc ?_ _) | (with_reducible refine Kd.C_drewN ?_ _) | (with_reducible refine Kd.C_drew ?_))); (case side2 => exact (Kd.R_reads' HO_10.out).2.1); (case side3 => repeat (first | exact (Kd.R_reads' HO_6.out).2.2 | (with_reducible refine Kd.C_alloc ?_ _) | (with_reducible refine Kd.C_drewN ?_ _) | (with_reducible refine Kd.C_drew ?_))); (case side4 => exact (Kd.R_reads' HO_6.out).2.1); rintro e w' ⟨rfl, ⟨nd, rfl⟩⟩))
          go_meet
          case rel => exact ⟨_, ((t345 != t337)), (by first | rfl | (simp; done) | (simp [*]; done)), H', ⟨by have := HJ9.out; first | omega | exact Nat.le_refl _⟩, ⟨by (with_reducible repeat (first | apply Kd.R_alloc | apply Kd.R_drewN | apply Kd.R_drew)); exact HO_6.out⟩, ⟨by (with_reducible repeat (first | apply Kd.R_alloc | apply Kd.R_drewN | apply Kd.R_drew)); exact HO_10.out⟩, ⟨hb_⟩⟩
         ·rw [if_neg c40] at H
          have c40b0 : (t344 == t336) = false := beq_eq_false_iff_ne.mpr c40
          have c40b1 : (t344 != t336) = true := bne_iff_ne.mpr c40
          have H' := Aside0.mk H
          clear H
          obtain ⟨Ao43, co43, eo43⟩ := Kd.R_slice HO_10.out
          subst eo43
          obtain ⟨Ao44, co44, eo44⟩ := Kd.R_slice HO_6.out
          subst eo44
          go_wp2_with (first | (go_at_call 30; (with_reducible refine (laws_eqInt64S.calls kj9 _ _ t343 _ _ t335 true _ ?side1 ?side2 ?side3 ?side4 A38.out).mono ?_); (case side1 => repeat (first | exact (Kd.R_reads' HO_10.out).2.2 | (with_reducible refine Kd.C_alloc ?_ _) | (with_reducible refine Kd.C_drewN ?_ _) | (with_reducible refine Kd.C_drew ?_))); (case side2 => exact (Kd.R_reads' HO_10.out).2.1); (case side3 => repeat (first | exact (Kd.R_reads' HO_6.out).2.2 | (with_reducible refine Kd.C_alloc ?_ _) | (with_reducible refine Kd.C_drewN ?_ _) | (with_reducible refine Kd.C_drew ?_))); (case side4 => exact (Kd.R_reads' HO_6.out).2.1); rintro e w' ⟨rfl, ⟨nd, rfl⟩⟩))
          go_meet
          case rel => exact ⟨_, (true), (by first | rfl | (simp; done) | (simp [*]; done)), H', ⟨by have := HJ9.out; first | omega | exact Nat.le_refl _⟩, ⟨by (with_reducible repeat (first | apply Kd.R_alloc | apply Kd.R_drewN | apply Kd.R_drew)); exact HO_6.out⟩, ⟨by (with_reducible repeat (first | apply Kd.R_alloc | apply Kd.R_drewN | apply Kd.R_drew)); exact HO_10.out⟩, ⟨hb_⟩⟩
        ·replace c39 := Bool.eq_false_iff.mpr c39
         subst c39
         have H1 : (laws_FnExactShareRenewals.j1 kj9 l0 a1 t335 t336 t337 t343 true) = some r := by rw [if_neg (show ¬ (false = true) by decide)] at H; exact H
         clear H
         have H := H1
         clear H1
         have H' := Aside0.mk H
         clear H
         obtain ⟨Ao45, co45, eo45⟩ := Kd.R_slice HO_10.out
         subst eo45
         obtain ⟨Ao46, co46, eo46⟩ := Kd.R_slice HO_6.out
         subst eo46
         go_wp2_with (first | (go_at_call 30; (with_reducible refine (laws_eqInt64S.calls kj9 _ _ t343 _ _ t335 false _ ?side1 ?side2 ?side3 ?side4 A38.out).mono ?_); (case side1 => repeat (first | exact (Kd.R_reads' HO_10.out).2.2 | (with_reducible refine Kd.C_alloc ?_ _) | (with_reducible refine Kd.C_drewN ?_ _) | (with_reducible refine Kd.C_drew ?_))); (case side2 => exact (Kd.R_reads' HO_10.out).2.1); (case side3 => repeat (first | exact (Kd.R_reads' HO_6.out).2.2 | (with_reducible refine Kd.C_alloc ?_ _) | (with_reducible refine Kd.C_drewN ?_ _) | (with_reducible refine Kd.C_drew ?_))); (case side4 => exact (Kd.R_reads' HO_6.out).2.1); rintro e w' ⟨rfl, ⟨nd, rfl⟩⟩))
         go_meet
         case rel => exact ⟨_, (true), (by first | rfl | (simp; done) | (simp [*]; done)), H', ⟨by have := HJ9.out; first | omega | exact Nat.le_refl _⟩, ⟨by (with_reducible repeat (first | apply Kd.R_alloc | apply Kd.R_drewN | apply Kd.R_drew)); exact HO_6.out⟩, ⟨by (with_reducible repeat (first | apply Kd.R_alloc | apply Kd.R_drewN | apply Kd.R_drew)); exact HO_10.out⟩, ⟨hb_⟩⟩
      case rest =>
       clear HC32
       try clear c1
       try clear c2
       try clear p2
       try clear c3
       try clear c4
       try clear c4b0
       try clear c7
       try clear c19
       try clear c20
       try clear c20b0
       try clear c20b1
       try clear c22
       try clear c24
       try clear c27
       try clear c30
       try clear c31
       try clear c32
       try clear c33
       try clear c37
       try clear c37b0
       try clear c39
       try clear c40
       try clear c40b0
       try clear c40b1
       try clear p2
       obtain ⟨kq, x80_31, rfl, HA, HJ31, HO_6, HO_10, HB⟩ := hcut
       cases kq with
       | zero => exact absurd HA.out (by simp [laws_FnExactShareRenewals.j1])
       | succ kj31 =>
        have H := HA.out
        clear HA
        simp only [laws_FnExactShareRenewals.j1] at H
        by_cases c47 : x80_31 = true
        ·subst c47
         have H1 : (some false) = some r := by rw [if_pos rfl] at H; exact H
         clear H
         have H := H1
         clear H1
         obtain rfl := Option.some.inj H
         go_wp2
         go_ret
         exact ⟨ew_, hb_⟩
        ·replace c47 := Bool.eq_false_iff.mpr c47
         subst c47
         have H1 : ((laws_markInt64S.f kj31 t343 1).bind fun bt356 => ((laws_heldInt64S.f kj31 bt356.2 1).bind fun t358 => (if t358 < 0 then (some false) else (if t358 = bt356.1 then ((laws_toRenewalS.f kj31 l0).bind fun t359 => ((impl_ShareRenewals.f kj31 t359 a1).bind fun bt362 => ((laws_eqInt64S.f kj31 bt362.1 t335).bind fun t367 => (if t367 = true then (if bt362.2.1 = t336 then (laws_FnExactShareRenewals.j2 kj31 bt356.2 bt356.1 (bt362.2.2 != t337)) else (laws_FnExactShareRenewals.j2 kj31 bt356.2 bt356.1 true)) else (laws_FnExactShareRenewals.j2 kj31 bt356.2 bt356.1 true))))) else (some false))))) = some r := by rw [if_neg (show ¬ (false = true) by decide)] at H; exact H
         clear H
         have H := H1
         clear H1
         replace H := Option.bind_eq_some_iff.mp H
         obtain ⟨⟨t356, t357⟩, A480, H⟩ := H
         replace H : ((laws_heldInt64S.f kj31 t357 1).bind fun t358 => (if t358 < 0 then (some false) else (if t358 = t356 then ((laws_toRenewalS.f kj31 l0).bind fun t359 => ((impl_ShareRenewals.f kj31 t359 a1).bind fun bt362 => ((laws_eqInt64S.f kj31 bt362.1 t335).bind fun t367 => (if t367 = true then (if bt362.2.1 = t336 then (laws_FnExactShareRenewals.j2 kj31 t357 t356 (bt362.2.2 != t337)) else (laws_FnExactShareRenewals.j2 kj31 t357 t356 true)) else (laws_FnExactShareRenewals.j2 kj31 t357 t356 true))))) else (some false)))) = some r := H
         have A48 := Aside0.mk A480
         clear A480
         replace H := Option.bind_eq_some_iff.mp H
         obtain ⟨t358, A490, H⟩ := H
         replace H : (if t358 < 0 then (some false) else (if t358 = t356 then ((laws_toRenewalS.f kj31 l0).bind fun t359 => ((impl_ShareRenewals.f kj31 t359 a1).bind fun bt362 => ((laws_eqInt64S.f kj31 bt362.1 t335).bind fun t367 => (if t367 = true then (if bt362.2.1 = t336 then (laws_FnExactShareRenewals.j2 kj31 t357 t356 (bt362.2.2 != t337)) else (laws_FnExactShareRenewals.j2 kj31 t357 t356 true)) else (laws_FnExactShareRenewals.j2 kj31 t357 t356 true))))) else (some false))) = some r := H
         have A49 := Aside0.mk A490
         clear A490
         by_cases c50 : t358 < 0
         ·rw [if_pos c50] at H
          have c50b0 : decide (t358 < 0) = true := decide_eq_true c50
          clear c50
          obtain rfl := Option.some.inj H
          obtain ⟨Ao51, co51, eo51⟩ := Kd.R_slice HO_10.out
          subst eo51
          go_wp2_with (first | ((with_reducible refine gate_callee (f := 34) rfl ?_); refine goesL_ (some 83) rfl rfl Try.func34 (by kernel_rfl) rfl #[.slice Ao51 t343.length co51, .int .i64 1] rfl ln_ ?_; (with_reducible refine (laws_markInt64S.calls kj31 (fun k_ => some k_ = (.slice Ao51 t343.length co51 : Value).ownBlock) (.slice Ao51 t343.length co51) t343 1 t356 t357 w _ ?side1 ?side2 A48.out).mono ?_); (case side1 => repeat (first | (with_reducible first | exact HB.out | apply below_alloc | apply pw_below_drewN | apply below_drew1) | exact HB.out)); (case side2 => exact Kd.R_tight rfl HO_10.out); rintro e w52 ⟨rfl, hy0, hb, hkp⟩; refine ⟨_, rfl, ?_⟩; have n0_ := Aside0.mk (Kd.R_mono (ok' := fun k_ => some k_ ≠ (.slice Ao51 t343.length co51 : Value).ownBlock) (Kd.R_keptB (HO_6.out) hkp (fun k_ hk_ hs_ => (hk_) hs_)) (fun k_ hk_ => hk_.1)); have n1_ := Aside0.mk (Kd.R_reok rfl hy0 (fun k_ e_ => HO_10.out.1 k_ e_)); have n2_ := Aside0.mk (hb); clear HO_6; clear HO_10; clear HB; have HO_6 := n0_; have HO_10 := n1_; have HB := n2_; clear n0_ n1_ n2_; (try clear hb); (try clear hkp); (try clear hy0)) | ((with_reducible refine gate_callee (f := 35) rfl ?_); refine goesL_ (some 86) rfl rfl Try.func35 (by kernel_rfl) rfl #[.slice Ao51 t357.length co51, .int .i64 1] rfl (by (try simp only [List.map_toArray, List.map_cons, List.map_nil]); first | done | (rw [show t357.length = t343.length from (Kd.R_reads' HO_10.out).1.symm] <;> rfl) | rfl | (simp only [List.length_drop, List.length_take]; rfl)) ?_; (with_reducible refine (laws_heldInt64S.calls kj31 _ _ t357 1 t358 _ ?side1 ?side2 A49.out).mono ?_); (case side1 => repeat (first | exact (Kd.R_reads' HO_10.out).2.2 | (with_reducible refine Kd.C_alloc ?_ _) | (with_reducible refine Kd.C_drewN ?_ _) | (with_reducible refine Kd.C_drew ?_))); (case side2 => rw [show t357.length = t343.length from (Kd.R_reads' HO_10.out).1.symm]; exact (Kd.R_reads' HO_10.out).2.1); rintro e w' ⟨rfl, ⟨nd, rfl⟩⟩; refine ⟨_, rfl, ?_⟩))
          go_ret
          exact ⟨ew_, hb_⟩
         ·rw [if_neg c50] at H
          have c50b0 : decide (t358 < 0) = false := decide_eq_false c50
          clear c50
          by_cases c53 : t358 = t356
          ·rw [if_pos c53] at H
           have c53b0 : (t358 == t356) = true := beq_iff_eq.mpr c53
           have c53b1 : (t358 != t356) = false := bne_eq_false_iff_eq.mpr c53
           clear c53
           replace H := Option.bind_eq_some_iff.mp H
           obtain ⟨t359, A540, H⟩ := H
           replace H : ((impl_ShareRenewals.f kj31 t359 a1).bind fun bt362 => ((laws_eqInt64S.f kj31 bt362.1 t335).bind fun t367 => (if t367 = true then (if bt362.2.1 = t336 then (laws_FnExactShareRenewals.j2 kj31 t357 t356 (bt362.2.2 != t337)) else (laws_FnExactShareRenewals.j2 kj31 t357 t356 true)) else (laws_FnExactShareRenewals.j2 kj31 t357 t356 true)))) = some r := H
           have A54 := Aside0.mk A540
           clear A540
           replace H := Option.bind_eq_some_iff.mp H
           obtain ⟨⟨t362, t363, t364⟩, A550, H⟩ := H
           replace H : ((laws_eqInt64S.f kj31 t362 t335).bind fun t367 => (if t367 = true then (if t363 = t336 then (laws_FnExactShareRenewals.j2 kj31 t357 t356 (t364 != t337)) else (laws_FnExactShareRenewals.j2 kj31 t357 t356 true)) else (laws_FnExactShareRenewals.j2 kj31 t357 t356 true))) = some r := H
           have A55 := Aside0.mk A550
           clear A550
           have HC56 := Aside0.mk H
           clear H
           obtain ⟨Ao57, co57, eo57⟩ := Kd.R_slice HO_10.out
           subst eo57
           go_upto_region 25 with (first | ((with_reducible refine gate_callee (f := 34) rfl ?_); refine goesL_ (some 83) rfl rfl Try.func34 (by kernel_rfl) rfl #[.slice Ao57 t343.length co57, .int .i64 1] rfl ln_ ?_; (with_reducible refine (laws_markInt64S.calls kj31 (fun k_ => some k_ = (.slice Ao57 t343.length co57 : Value).ownBlock) (.slice Ao57 t343.length co57) t343 1 t356 t357 w _ ?side1 ?side2 A48.out).mono ?_); (case side1 => repeat (first | (with_reducible first | exact HB.out | apply below_alloc | apply pw_below_drewN | apply below_drew1) | exact HB.out)); (case side2 => exact Kd.R_tight rfl HO_10.out); rintro e w58 ⟨rfl, hy0, hb, hkp⟩; refine ⟨_, rfl, ?_⟩; have n0_ := Aside0.mk (Kd.R_mono (ok' := fun k_ => some k_ ≠ (.slice Ao57 t343.length co57 : Value).ownBlock) (Kd.R_keptB (HO_6.out) hkp (fun k_ hk_ hs_ => (hk_) hs_)) (fun k_ hk_ => hk_.1)); have n1_ := Aside0.mk (Kd.R_reok rfl hy0 (fun k_ e_ => HO_10.out.1 k_ e_)); have n2_ := Aside0.mk (hb); clear HO_6; clear HO_10; clear HB; have HO_6 := n0_; have HO_10 := n1_; have HB := n2_; clear n0_ n1_ n2_; (try clear hb); (try clear hkp); (try clear hy0)) | ((with_reducible refine gate_callee (f := 35) rfl ?_); refine goesL_ (some 86) rfl rfl Try.func35 (by kernel_rfl) rfl #[.slice Ao57 t357.length co57, .int .i64 1] rfl (by (try simp only [List.map_toArray, List.map_cons, List.map_nil]); first | done | (rw [show t357.length = t343.length from (Kd.R_reads' HO_10.out).1.symm] <;> rfl) | rfl | (simp only [List.length_drop, List.length_take]; rfl)) ?_; (with_reducible refine (laws_heldInt64S.calls kj31 _ _ t357 1 t358 _ ?side1 ?side2 A49.out).mono ?_); (case side1 => repeat (first | exact (Kd.R_reads' HO_10.out).2.2 | (with_reducible refine Kd.C_alloc ?_ _) | (with_reducible refine Kd.C_drewN ?_ _) | (with_reducible refine Kd.C_drew ?_))); (case side2 => rw [show t357.length = t343.length from (Kd.R_reads' HO_10.out).1.symm]; exact (Kd.R_reads' HO_10.out).2.1); rintro e w' ⟨rfl, ⟨nd, rfl⟩⟩; refine ⟨_, rfl, ?_⟩) | ((with_reducible refine gate_callee (f := 22) rfl ?_); refine goesL_ (some 94) rfl rfl Try.func22 (by kernel_rfl) rfl #[.slice A0 l0.length c0] rfl ln_ ?_; (with_reducible refine (laws_toRenewalS.calls kj31 _ _ l0 t359 _ ?side1 ?side2 A54.out).mono ?_); (case side1 => exact kc_ (Kd.C_below HR0.out hb_)); (case side2 => exact HC0.out); rintro e w59 ⟨v360, rfl, ho0, hb⟩; refine ⟨_, rfl, ?_⟩; have n0_ := Aside0.mk (Kd.R_below (kr_ HO_6) hb); have n1_ := Aside0.mk (Kd.R_below (kr_ HO_10) hb); have n2_ := Aside0.mk (Kd.R_lower ho0 (below_size hb_)); have n3_ := Aside0.mk (below_step hb_ hb); clear HO_6; clear HO_10; clear HB; have HO_6 := n0_; have HO_10 := n1_; have HO361 := n2_; have HB := n3_; clear n0_ n1_ n2_ n3_; (try clear hb); (try clear hb2); (try clear hk); (try clear hi); (try clear ho0); obtain ⟨Ao60, co60, eo60⟩ := Kd.R_slice HO361.out; subst eo60) | ((with_reducible refine gate_callee (f := 32) rfl ?_); refine goesL_ (some 96) rfl rfl Try.func32 (by kernel_rfl) rfl #[.slice Ao60 t359.length co60, .int .i64 a1] rfl ln_ ?_; (with_reducible refine (impl_ShareRenewals.calls kj31 _ _ t359 a1 t362 t363 t364 _ ?side1 ?side2 A55.out).mono ?_); (case side1 => repeat (first | exact (Kd.R_reads' HO361.out).2.2 | (with_reducible refine Kd.C_alloc ?_ _) | (with_reducible refine Kd.C_drewN ?_ _) | (with_reducible refine Kd.C_drew ?_))); (case side2 => exact (Kd.R_reads' HO361.out).2.1); rintro e w61 ⟨v365, rfl, ho0, hb⟩; refine ⟨_, rfl, ?_⟩; have n0_ := Aside0.mk (Kd.R_elder' (kr_ HO_6) (Kd.R_base ho0) hb); have n1_ := Aside0.mk (Kd.R_elder' (kr_ HO_10) (Kd.R_base ho0) hb); have n2_ := Aside0.mk (Kd.R_below (kr_ HO361) hb); have n3_ := Aside0.mk (Kd.R_lower (Kd.R_new' (Kd.R_new' ho0 (Kd.R_lt (kr_ HO_6))) (Kd.R_lt (kr_ HO_10))) (below_size hb_)); have n4_ := Aside0.mk (below_step hb_ hb); clear HO_6; clear HO_10; clear HO361; clear HB; have HO_6 := n0_; have HO_10 := n1_; have HO361 := n2_; have HO366 := n3_; have HB := n4_; clear n0_ n1_ n2_ n3_ n4_; (try clear hb); (try clear hb2); (try clear hk); (try clear hi); (try clear ho0)))
           (try simp only [Act.put, List.setIfInBounds_toArray, List.set_cons_zero, List.set_cons_succ])
           go_cut [113] (fun v113 wc => ∃ (kq : Nat) (x113_55 : Bool), v113 = .bool x113_55 ∧ Aside0 (laws_FnExactShareRenewals.j2 kq t357 t356 x113_55 = some r) ∧ Aside0 (kq ≤ kj31) ∧ Aside0 (Kd.R (Kd.int .i64) 2 wc w.heap.size (fun _ => True) (.slice Ao57 t343.length co57) t357) ∧ Aside0 (Below w.heap.size w wc))
           case first =>
            have H := HC56.out
            clear HC56
            replace H := Option.bind_eq_some_iff.mp H
            obtain ⟨t367, A620, H⟩ := H
            replace H : (if t367 = true then (if t363 = t336 then (laws_FnExactShareRenewals.j2 kj31 t357 t356 (t364 != t337)) else (laws_FnExactShareRenewals.j2 kj31 t357 t356 true)) else (laws_FnExactShareRenewals.j2 kj31 t357 t356 true)) = some r := H
            have A62 := Aside0.mk A620
            clear A620
            by_cases c63 : t367 = true
            ·subst c63
             have H1 : (if t363 = t336 then (laws_FnExactShareRenewals.j2 kj31 t357 t356 (t364 != t337)) else (laws_FnExactShareRenewals.j2 kj31 t357 t356 true)) = some r := by rw [if_pos rfl] at H; exact H
             clear H
             have H := H1
             clear H1
             by_cases c64 : t363 = t336
             ·rw [if_pos c64] at H
              have c64b0 : (t363 == t336) = true := beq_iff_eq.mpr c64
              have c64b1 : (t363 != t336) = false := bne_eq_false_iff_eq.mpr c64
              clear c64
              (first | rw [c64b0] | (simp only [i64_w, i32_w]; rw [c64b0]) | skip)
              have H' := Aside0.mk H
              clear H
              obtain ⟨Ao65, co65, eo65⟩ := Kd.R_slice HO366.out
              subst eo65
              obtain ⟨Ao66, co66, eo66⟩ := Kd.R_slice HO_6.out
              subst eo66
              go_wp2_with (first | ((with_reducible refine gate_callee (f := 30) rfl ?_); refine goesL_ (some 102) rfl rfl Try.func30 (by kernel_rfl) rfl #[.slice Ao65 t362.length co65, .slice Ao66 t335.length co66] rfl ln_ ?_; (with_reducible refine (laws_eqInt64S.calls kj31 _ _ t362 _ _ t335 true _ ?side1 ?side2 ?side3 ?side4 A62.out).mono ?_); (case side1 => repeat (first | exact (Kd.R_reads' HO366.out).2.2 | (with_reducible refine Kd.C_alloc ?_ _) | (with_reducible refine Kd.C_drewN ?_ _) | (with_reducible refine Kd.C_drew ?_))); (case side2 => exact (Kd.R_reads' HO366.out).2.1); (case side3 => repeat (first | exact (Kd.R_reads' HO_6.out).2.2 | (with_reducible refine Kd.C_alloc ?_ _) | (with_reducible refine Kd.C_drewN ?_ _) | (with_reducible refine Kd.C_drew ?_))); (case side4 => exact (Kd.R_reads' HO_6.out).2.1); rintro e w' ⟨rfl, ⟨nd, rfl⟩⟩; refine ⟨_, rfl, ?_⟩))
              go_meet
              case rel => exact ⟨_, ((t364 != t337)), (by first | rfl | (simp; done) | (simp [*]; done)), H', ⟨by have := HJ9.out; have := HJ31.out; first | omega | exact Nat.le_refl _⟩, ⟨by (with_reducible repeat (first | apply Kd.R_alloc | apply Kd.R_drewN | apply Kd.R_drew)); exact Kd.R_mono HO_10.out (fun _ hk => trivial)⟩, ⟨hb_⟩⟩
             ·rw [if_neg c64] at H
              have c64b0 : (t363 == t336) = false := beq_eq_false_iff_ne.mpr c64
              have c64b1 : (t363 != t336) = true := bne_iff_ne.mpr c64
              (first | rw [c64b0] | (simp only [i64_w, i32_w]; rw [c64b0]) | skip)
              have H' := Aside0.mk H
              clear H
              obtain ⟨Ao67, co67, eo67⟩ := Kd.R_slice HO366.out
              subst eo67
              obtain ⟨Ao68, co68, eo68⟩ := Kd.R_slice HO_6.out
              subst eo68
              go_wp2_with (first | ((with_reducible refine gate_callee (f := 30) rfl ?_); refine goesL_ (some 102) rfl rfl Try.func30 (by kernel_rfl) rfl #[.slice Ao67 t362.length co67, .slice Ao68 t335.length co68] rfl ln_ ?_; (with_reducible refine (laws_eqInt64S.calls kj31 _ _ t362 _ _ t335 true _ ?side1 ?side2 ?side3 ?side4 A62.out).mono ?_); (case side1 => repeat (first | exact (Kd.R_reads' HO366.out).2.2 | (with_reducible refine Kd.C_alloc ?_ _) | (with_reducible refine Kd.C_drewN ?_ _) | (with_reducible refine Kd.C_drew ?_))); (case side2 => exact (Kd.R_reads' HO366.out).2.1); (case side3 => repeat (first | exact (Kd.R_reads' HO_6.out).2.2 | (with_reducible refine Kd.C_alloc ?_ _) | (with_reducible refine Kd.C_drewN ?_ _) | (with_reducible refine Kd.C_drew ?_))); (case side4 => exact (Kd.R_reads' HO_6.out).2.1); rintro e w' ⟨rfl, ⟨nd, rfl⟩⟩; refine ⟨_, rfl, ?_⟩))
              go_meet
              case rel => exact ⟨_, (true), (by first | rfl | (simp; done) | (simp [*]; done)), H', ⟨by have := HJ9.out; have := HJ31.out; first | omega | exact Nat.le_refl _⟩, ⟨by (with_reducible repeat (first | apply Kd.R_alloc | apply Kd.R_drewN | apply Kd.R_drew)); exact Kd.R_mono HO_10.out (fun _ hk => trivial)⟩, ⟨hb_⟩⟩
            ·replace c63 := Bool.eq_false_iff.mpr c63
             subst c63
             have H1 : (laws_FnExactShareRenewals.j2 kj31 t357 t356 true) = some r := by rw [if_neg (show ¬ (false = true) by decide)] at H; exact H
             clear H
             have H := H1
             clear H1
             have H' := Aside0.mk H
             clear H
             obtain ⟨Ao69, co69, eo69⟩ := Kd.R_slice HO366.out
             subst eo69
             obtain ⟨Ao70, co70, eo70⟩ := Kd.R_slice HO_6.out
             subst eo70
             go_wp2_with (first | ((with_reducible refine gate_callee (f := 30) rfl ?_); refine goesL_ (some 102) rfl rfl Try.func30 (by kernel_rfl) rfl #[.slice Ao69 t362.length co69, .slice Ao70 t335.length co70] rfl ln_ ?_; (with_reducible refine (laws_eqInt64S.calls kj31 _ _ t362 _ _ t335 false _ ?side1 ?side2 ?side3 ?side4 A62.out).mono ?_); (case side1 => repeat (first | exact (Kd.R_reads' HO366.out).2.2 | (with_reducible refine Kd.C_alloc ?_ _) | (with_reducible refine Kd.C_drewN ?_ _) | (with_reducible refine Kd.C_drew ?_))); (case side2 => exact (Kd.R_reads' HO366.out).2.1); (case side3 => repeat (first | exact (Kd.R_reads' HO_6.out).2.2 | (with_reducible refine Kd.C_alloc ?_ _) | (with_reducible refine Kd.C_drewN ?_ _) | (with_reducible refine Kd.C_drew ?_))); (case side4 => exact (Kd.R_reads' HO_6.out).2.1); rintro e w' ⟨rfl, ⟨nd, rfl⟩⟩; refine ⟨_, rfl, ?_⟩))
             go_meet
             case rel => exact ⟨_, (true), (by first | rfl | (simp; done) | (simp [*]; done)), H', ⟨by have := HJ9.out; have := HJ31.out; first | omega | exact Nat.le_refl _⟩, ⟨by (with_reducible repeat (first | apply Kd.R_alloc | apply Kd.R_drewN | apply Kd.R_drew)); exact Kd.R_mono HO_10.out (fun _ hk => trivial)⟩, ⟨hb_⟩⟩
           case rest =>
            clear HC56
            try clear c1
            try clear c2
            try clear p2
            try clear c3
            try clear c4
            try clear c4b0
            try clear c5
            try clear c6
            try clear c7
            try clear c19
            try clear c20
            try clear c20b0
            try clear c20b1
            try clear c22
            try clear c24
            try clear c27
            try clear c30
            try clear c31
            try clear c32
            try clear c33
            try clear c34
            try clear c35
            try clear c37
            try clear c37b0
            try clear c39
            try clear c40
            try clear c40b0
            try clear c40b1
            try clear c47
            try clear c50
            try clear c50b0
            try clear c53
            try clear c53b0
            try clear c53b1
            try clear c63
            try clear c64
            try clear c64b0
            try clear c64b1
            try clear p2
            obtain ⟨kq, x113_55, rfl, HA, HJ55, HO_10, HB⟩ := hcut
            have hl10_55 := (Kd.R_reads' HO_10.out).1
            rw [hl10_55] at HO_10
            (try simp only [hl10_55])
            cases kq with
            | zero => exact absurd HA.out (by simp [laws_FnExactShareRenewals.j2])
            | succ kj55 =>
             have H := HA.out
             clear HA
             simp only [laws_FnExactShareRenewals.j2] at H
             by_cases c71 : x113_55 = true
             ·subst c71
              have H1 : (some false) = some r := by rw [if_pos rfl] at H; exact H
              clear H
              have H := H1
              clear H1
              obtain rfl := Option.some.inj H
              go_wp2
              go_ret
              exact ⟨ew_, hb_⟩
             ·replace c71 := Bool.eq_false_iff.mpr c71
              subst c71
              have H1 : ((laws_heldInt64S.f kj55 t357 1).bind fun t368 => (if t368 < 0 then (some false) else (if t368 = t356 then (some true) else (some false)))) = some r := by rw [if_neg (show ¬ (false = true) by decide)] at H; exact H
              clear H
              have H := H1
              clear H1
              replace H := Option.bind_eq_some_iff.mp H
              obtain ⟨t368, A720, H⟩ := H
              replace H : (if t368 < 0 then (some false) else (if t368 = t356 then (some true) else (some false))) = some r := H
              have A72 := Aside0.mk A720
              clear A720
              by_cases c73 : t368 < 0
              ·rw [if_pos c73] at H
               have c73b0 : decide (t368 < 0) = true := decide_eq_true c73
               clear c73
               obtain rfl := Option.some.inj H
               go_wp2_with (first | ((with_reducible refine gate_callee (f := 35) rfl ?_); refine goesL_ (some 116) rfl rfl Try.func35 (by kernel_rfl) rfl #[.slice Ao57 t357.length co57, .int .i64 1] rfl ln_ ?_; (with_reducible refine (laws_heldInt64S.calls kj55 _ _ t357 1 t368 _ ?side1 ?side2 A72.out).mono ?_); (case side1 => repeat (first | exact (Kd.R_reads' HO_10.out).2.2 | (with_reducible refine Kd.C_alloc ?_ _) | (with_reducible refine Kd.C_drewN ?_ _) | (with_reducible refine Kd.C_drew ?_))); (case side2 => exact (Kd.R_reads' HO_10.out).2.1); rintro e w' ⟨rfl, ⟨nd, rfl⟩⟩; refine ⟨_, rfl, ?_⟩))
               go_ret
               exact ⟨ew_, hb_⟩
              ·rw [if_neg c73] at H
               have c73b0 : decide (t368 < 0) = false := decide_eq_false c73
               clear c73
               by_cases c74 : t368 = t356
               ·rw [if_pos c74] at H
                have c74b0 : (t368 == t356) = true := beq_iff_eq.mpr c74
                have c74b1 : (t368 != t356) = false := bne_eq_false_iff_eq.mpr c74
                clear c74
                obtain rfl := Option.some.inj H
                go_wp2_with (first | ((with_reducible refine gate_callee (f := 35) rfl ?_); refine goesL_ (some 116) rfl rfl Try.func35 (by kernel_rfl) rfl #[.slice Ao57 t357.length co57, .int .i64 1] rfl ln_ ?_; (with_reducible refine (laws_heldInt64S.calls kj55 _ _ t357 1 t368 _ ?side1 ?side2 A72.out).mono ?_); (case side1 => repeat (first | exact (Kd.R_reads' HO_10.out).2.2 | (with_reducible refine Kd.C_alloc ?_ _) | (with_reducible refine Kd.C_drewN ?_ _) | (with_reducible refine Kd.C_drew ?_))); (case side2 => exact (Kd.R_reads' HO_10.out).2.1); rintro e w' ⟨rfl, ⟨nd, rfl⟩⟩; refine ⟨_, rfl, ?_⟩))
                go_ret
                exact ⟨ew_, hb_⟩
               ·rw [if_neg c74] at H
                have c74b0 : (t368 == t356) = false := beq_eq_false_iff_ne.mpr c74
                have c74b1 : (t368 != t356) = true := bne_iff_ne.mpr c74
                obtain rfl := Option.some.inj H
                go_wp2_with (first | ((with_reducible refine gate_callee (f := 35) rfl ?_); refine goesL_ (some 116) rfl rfl Try.func35 (by kernel_rfl) rfl #[.slice Ao57 t357.length co57, .int .i64 1] rfl ln_ ?_; (with_reducible refine (laws_heldInt64S.calls kj55 _ _ t357 1 t368 _ ?side1 ?side2 A72.out).mono ?_); (case side1 => repeat (first | exact (Kd.R_reads' HO_10.out).2.2 | (with_reducible refine Kd.C_alloc ?_ _) | (with_reducible refine Kd.C_drewN ?_ _) | (with_reducible refine Kd.C_drew ?_))); (case side2 => exact (Kd.R_reads' HO_10.out).2.1); rintro e w' ⟨rfl, ⟨nd, rfl⟩⟩; refine ⟨_, rfl, ?_⟩))
                go_ret
                exact ⟨ew_, hb_⟩
          ·rw [if_neg c53] at H
           have c53b0 : (t358 == t356) = false := beq_eq_false_iff_ne.mpr c53
           have c53b1 : (t358 != t356) = true := bne_iff_ne.mpr c53
           obtain rfl := Option.some.inj H
           obtain ⟨Ao75, co75, eo75⟩ := Kd.R_slice HO_10.out
           subst eo75
           go_wp2_with (first | ((with_reducible refine gate_callee (f := 34) rfl ?_); refine goesL_ (some 83) rfl rfl Try.func34 (by kernel_rfl) rfl #[.slice Ao75 t343.length co75, .int .i64 1] rfl ln_ ?_; (with_reducible refine (laws_markInt64S.calls kj31 (fun k_ => some k_ = (.slice Ao75 t343.length co75 : Value).ownBlock) (.slice Ao75 t343.length co75) t343 1 t356 t357 w _ ?side1 ?side2 A48.out).mono ?_); (case side1 => repeat (first | (with_reducible first | exact HB.out | apply below_alloc | apply pw_below_drewN | apply below_drew1) | exact HB.out)); (case side2 => exact Kd.R_tight rfl HO_10.out); rintro e w76 ⟨rfl, hy0, hb, hkp⟩; refine ⟨_, rfl, ?_⟩; have n0_ := Aside0.mk (Kd.R_mono (ok' := fun k_ => some k_ ≠ (.slice Ao75 t343.length co75 : Value).ownBlock) (Kd.R_keptB (HO_6.out) hkp (fun k_ hk_ hs_ => (hk_) hs_)) (fun k_ hk_ => hk_.1)); have n1_ := Aside0.mk (Kd.R_reok rfl hy0 (fun k_ e_ => HO_10.out.1 k_ e_)); have n2_ := Aside0.mk (hb); clear HO_6; clear HO_10; clear HB; have HO_6 := n0_; have HO_10 := n1_; have HB := n2_; clear n0_ n1_ n2_; (try clear hb); (try clear hkp); (try clear hy0)) | ((with_reducible refine gate_callee (f := 35) rfl ?_); refine goesL_ (some 86) rfl rfl Try.func35 (by kernel_rfl) rfl #[.slice Ao75 t357.length co75, .int .i64 1] rfl (by (try simp only [List.map_toArray, List.map_cons, List.map_nil]); first | done | (rw [show t357.length = t343.length from (Kd.R_reads' HO_10.out).1.symm] <;> rfl) | rfl | (simp only [List.length_drop, List.length_take]; rfl)) ?_; (with_reducible refine (laws_heldInt64S.calls kj31 _ _ t357 1 t358 _ ?side1 ?side2 A49.out).mono ?_); (case side1 => repeat (first | exact (Kd.R_reads' HO_10.out).2.2 | (with_reducible refine Kd.C_alloc ?_ _) | (with_reducible refine Kd.C_drewN ?_ _) | (with_reducible refine Kd.C_drew ?_))); (case side2 => rw [show t357.length = t343.length from (Kd.R_reads' HO_10.out).1.symm]; exact (Kd.R_reads' HO_10.out).2.1); rintro e w' ⟨rfl, ⟨nd, rfl⟩⟩; refine ⟨_, rfl, ?_⟩))
           go_ret
           exact ⟨ew_, hb_⟩
     ·replace c30 := Bool.eq_false_iff.mpr c30
      subst c30
      have H1 : (some false) = some r := by rw [if_neg (show ¬ (false = true) by decide)] at H; exact H
      clear H
      have H := H1
      clear H1
      obtain rfl := Option.some.inj H
      go_wp2_with (first | ((with_reducible refine gate_callee (f := 22) rfl ?_); refine goesL_ (some 57) rfl rfl Try.func22 (by kernel_rfl) rfl #[.slice A0 l0.length c0] rfl ln_ ?_; (with_reducible refine (laws_toRenewalS.calls kj9 _ _ l0 t349 _ ?side1 ?side2 A28.out).mono ?_); (case side1 => exact kc_ (Kd.C_below HR0.out HB.out)); (case side2 => exact HC0.out); rintro e w77 ⟨v350, rfl, ho0, hb⟩; refine ⟨_, rfl, ?_⟩; have n0_ := Aside0.mk (Kd.R_below (kr_ HO_6) hb); have n1_ := Aside0.mk (Kd.R_elder' (kr_ HO_9) (Kd.R_base ho0) hb); have n2_ := Aside0.mk (Kd.R_below (kr_ HO_10) hb); have n3_ := Aside0.mk (Kd.R_lower (Kd.R_new' ho0 (Kd.R_lt (kr_ HO_9))) (below_size hb_)); have n4_ := Aside0.mk (below_step hb_ hb); clear HO_6; clear HO_9; clear HO_10; clear HB; have HO_6 := n0_; have HO_9 := n1_; have HO_10 := n2_; have HO351 := n3_; have HB := n4_; clear n0_ n1_ n2_ n3_ n4_; (try clear hb); (try clear hb2); (try clear hk); (try clear hi); (try clear ho0); obtain ⟨Ao78, co78, eo78⟩ := Kd.R_slice HO351.out; subst eo78) | ((with_reducible refine gate_callee (f := 24) rfl ?_); refine goesL_ (some 58) rfl rfl Try.func24 (by kernel_rfl) rfl #[.slice Ao16 t340.length co16, .slice Ao78 t349.length co78] rfl ln_ ?_; (with_reducible refine (laws_eqRenewalS.calls kj9 _ _ t340 _ _ t349 false _ ?side1 ?side2 ?side3 ?side4 A29.out).mono ?_); (case side1 => repeat (first | exact (Kd.R_reads' HO_9.out).2.2 | (with_reducible refine Kd.C_alloc ?_ _) | (with_reducible refine Kd.C_drewN ?_ _) | (with_reducible refine Kd.C_drew ?_))); (case side2 => exact (Kd.R_reads' HO_9.out).2.1); (case side3 => repeat (first | exact (Kd.R_reads' HO351.out).2.2 | (with_reducible refine Kd.C_alloc ?_ _) | (with_reducible refine Kd.C_drewN ?_ _) | (with_reducible refine Kd.C_drew ?_))); (case side4 => exact (Kd.R_reads' HO351.out).2.1); rintro e w79 ⟨rfl, hb⟩; refine ⟨_, rfl, ?_⟩; have n0_ := Aside0.mk (Kd.R_below (kr_ HO_6) hb); have n1_ := Aside0.mk (Kd.R_below (kr_ HO_9) hb); have n2_ := Aside0.mk (Kd.R_below (kr_ HO_10) hb); have n3_ := Aside0.mk (Kd.R_below (kr_ HO351) hb); have n4_ := Aside0.mk (below_step hb_ hb); clear HO_6; clear HO_9; clear HO_10; clear HO351; clear HB; have HO_6 := n0_; have HO_9 := n1_; have HO_10 := n2_; have HO351 := n3_; have HB := n4_; clear n0_ n1_ n2_ n3_ n4_; (try clear hb); (try clear hb2); (try clear hk); (try clear hi)))
      go_ret
      exact ⟨ew_, hb_⟩

end Go.Proofs.Ytkegmjebkikniaa.P
