-- Written by gprint.py (own program, over the printer of the kit) out of the translation. Lean checks it.
import Derived.Test.YtkegmjebkikniaaPx0
import Derived.Test.YtkegmjebkikniaaPx6
import Derived.Test.YtkegmjebkikniaaPx7
import Derived.Test.YtkegmjebkikniaaPx8
import Derived.Test.YtkegmjebkikniaaPx9
import Derived.Test.YtkegmjebkikniaaPx10
import Derived.Test.YtkegmjebkikniaaWPk
namespace Go.Proofs.Ytkegmjebkikniaa.P
open Go.RowKit Go.Proofs.YtkegmjebkikniaaW.PrintWords Go.Proofs.YtkegmjebkikniaaW.PrintLast Go.Proofs.YtkegmjebkikniaaW.PrintMore Go.Proofs.YtkegmjebkikniaaW.Pk
open Bool renaming true → T_, false → F_
open List renaming setIfInBounds_toArray → sT_, set_cons_zero → s0_, set_cons_succ → sS_
attribute [local go_sem] max2_int min2_int max_two min_two max_three min_three max_four min_four   -- for this text's walks alone
set_option linter.unusedVariables false
set_option linter.unusedSimpArgs false

/-! ### spec_l22W_walk: function 63 -/
-- (by hand)
open Go.Proofs.YtkegmjebkikniaaW.Hand
theorem info2' : (Try.prog.info? 2).map (fun i => (i.zero, i.size, i.bytes)) = some (some (.int .i64 0), 1, 8) := by kernel_rfl
/-- What an order does to the best one, its harm, and the most in time. -/
def leafW (k : Nat) (l : List S55) (st : List Int × Int × Int) (o : List Int) : Option (List Int × Int × Int) :=
 (spec_l22Harm.f k l o).bind fun n => (spec_l22Late.f k l o).bind fun late =>
  some (if st.2.1 < 0 ∨ n < st.2.1 then o else st.1, if st.2.1 < 0 ∨ n < st.2.1 then n else st.2.1, if st.2.2 > (o.length : Int) - (late.length : Int) then st.2.2 else (o.length : Int) - (late.length : Int))

theorem has_loop (a : Int) : ∀ (xs p : List Int), p.length + xs.length ≤ 100 → spec_l00Has.l0 (xs.length + 1) (p ++ xs) a (p.length : Int) = some (decide (a ∈ xs)) := by
 intro xs
 induction xs with
 | nil =>
  intro p _
  rw [List.length_nil, spec_l00Has.l0, if_neg (by simp)]
  rfl
 | cons x xs ih =>
  intro p hl
  rw [List.length_cons] at hl ⊢
  have hw : wrap64 ((p.length : Int) + 1) = ((p ++ [x]).length : Int) := by rw [List.length_append]; unfold wrap64; simp; omega
  have hr : rd (p ++ x :: xs) (p.length : Int) = x := by unfold rd; simp
  have hi := ih (p ++ [x]) (by rw [List.length_append]; simp; omega)
  rw [spec_l00Has.l0, if_pos (by simp; omega), if_pos (by omega)]
  rw [hr, hw]
  by_cases h : x = a
  ·simp [h]
  ·rw [if_neg h, show p ++ x :: xs = (p ++ [x]) ++ xs by simp, hi]
   have h' : ¬ a = x := fun e => h e.symm
   simp [h']
theorem has_f (a : Int) (o : List Int) (h : o.length ≤ 100) : spec_l00Has.f (o.length + 1) o a = some (decide (a ∈ o)) := by
 unfold spec_l00Has.f
 exact has_loop a o [] (by simpa using h)

/-- The state of the walk at block g. -/
structure RInv (w0 w : World) (g : Nat) (Al : Option Addr) (cl : Nat) (l : List S55) (vb : Value) (best : List Int) (least good : Int) : Prop where
 blk : w.heap[g]? = some (.cells #[.slice Al l.length cl, vb, .int .i64 least, .int .i64 good] 75 (0, 0))
 brow : w.ownsRow w0.heap.size 2 1 vb best.length (nums .i64 best)
 list : Kd.C k55 w0 Al l.length l
 cap : l.length ≤ cl
 below : Below w0.heap.size w0 w
 ge : w0.heap.size ≤ g
section
variable {w0 w w1 : World} {g : Nat} {Al : Option Addr} {cl : Nat} {l : List S55} {vb : Value} {best : List Int} {least good : Int}
theorem RInv.step (h : RInv w0 w g Al cl l vb best least good) (hb : Below w.heap.size w w1) : RInv w0 w1 g Al cl l vb best least good :=
 ⟨(hb.block g (blk_lt h.blk)).trans h.blk, pw_own_below h.brow hb, h.list, h.cap, below_then h.below h.below.size hb, h.ge⟩
theorem RInv.c0 (h : RInv w0 w g Al cl l vb best least good) : w.cell? ⟨g, 0, none⟩ = some (.slice Al l.length cl) := (blk_cell h.blk 0).trans rfl
theorem RInv.c1 (h : RInv w0 w g Al cl l vb best least good) : w.cell? ⟨g, 1, none⟩ = some vb := (blk_cell h.blk 1).trans rfl
theorem RInv.c2 (h : RInv w0 w g Al cl l vb best least good) : w.cell? ⟨g, 2, none⟩ = some (.int .i64 least) := (blk_cell h.blk 2).trans rfl
theorem RInv.c3 (h : RInv w0 w g Al cl l vb best least good) : w.cell? ⟨g, 3, none⟩ = some (.int .i64 good) := (blk_cell h.blk 3).trans rfl
theorem RInv.fr (h : RInv w0 w g Al cl l vb best least good) (j : Nat) : w.frozen? ⟨g, j, none⟩ = false := blk_frozen h.blk j
theorem RInv.read (h : RInv w0 w g Al cl l vb best least good) : Kd.C k55 w Al l.length l := Kd.C_below h.list h.below
theorem RInv.keep (h : RInv w0 w g Al cl l vb best least good) (j : Nat) (u : Value) : KeepsT [75] w (w.setCell ⟨g, j, none⟩ u) := (KeepsT.refl _ w).set h.blk (by decide) j u
theorem RInv.set1 {vo : Value} {o : List Int} (h : RInv w0 w g Al cl l vb best least good) (ho : w.ownsRow w0.heap.size 2 1 vo o.length (nums .i64 o)) : RInv w0 (w.setCell ⟨g, 1, none⟩ vo) g Al cl l vo o least good :=
 ⟨blk_set h.blk 1 vo, own_keeps ho (h.keep 1 vo) (by decide), h.list, h.cap, h.below.setCell h.ge _, h.ge⟩
theorem RInv.set2 (h : RInv w0 w g Al cl l vb best least good) (n : Int) : RInv w0 (w.setCell ⟨g, 2, none⟩ (.int .i64 n)) g Al cl l vb best n good :=
 ⟨blk_set h.blk 2 _, own_keeps h.brow (h.keep 2 _) (by decide), h.list, h.cap, h.below.setCell h.ge _, h.ge⟩
theorem RInv.set3 (h : RInv w0 w g Al cl l vb best least good) (n : Int) : RInv w0 (w.setCell ⟨g, 3, none⟩ (.int .i64 n)) g Al cl l vb best least n :=
 ⟨blk_set h.blk 3 _, own_keeps h.brow (h.keep 3 _) (by decide), h.list, h.cap, h.below.setCell h.ge _, h.ge⟩
end
def RPost (w0 w : World) (g : Nat) (Al : Option Addr) (cl : Nat) (l : List S55) (st' : List Int × Int × Int) (e : Ending) (w' : World) : Prop :=
 e = .returned (.tuple #[]) ∧ KeepsT [75] w w' ∧ ∃ vb', RInv w0 w' g Al cl l vb' st'.1 st'.2.1 st'.2.2

def l22W_walk.T5 : Bool × List (List Nat × List Nat) := (true, [([], []), ([], []), ([1], [1]), ([2], [2]), ([3], [3]), ([], []), ([5], [5]), ([], []), ([7], [7]), ([8], [8]), ([9], [9]), ([], []), ([10, 11], [10, 11]), ([12], [12]), ([6, 13], [6, 13]), ([4, 14, 12], [4, 14]), ([0, 0, 1, 2, 3, 4, 5, 6, 7, 8, 9, 10, 11, 12, 13, 14, 15], [0]), ([16, 0, 1, 2, 3, 4, 5, 6, 7, 8, 9, 10, 11, 12, 13, 14, 15], [16]), ([17, 15, 15, 0, 1, 2, 3, 4, 5, 6, 7, 8, 9, 10, 11, 12, 13, 14, 15], [15, 17])])
def l22W_walk.B5 : List Nat := [0, 0, 2, 6, 14, 0, 32, 0, 128, 384, 896, 0, 3968, 8064, 16352, 32766, 65535, 131071, 262143]
theorem l22W_walk.tab5 : rtab .any (opsOf Try.f63 5) = l22W_walk.T5 := by kernel_rfl
theorem l22W_walk.bits5 : waitsOk l22W_walk.T5.2 l22W_walk.B5 = true := by kernel_rfl
set_option maxRecDepth 100000 in
set_option maxHeartbeats 8000000 in
theorem walkW_last (k : Nat) (w0 w : World) (g : Nat) (Al : Option Addr) (cl : Nat) (l : List S55) (vb : Value) (best : List Int) (least good : Int) (st' : List Int × Int × Int) (A : Option Addr) (c : Nat) (o : List Int) (h : RInv w0 w g Al cl l vb best least good) (ho : w.ownsRow w0.heap.size 2 1 (.slice A o.length c) o.length (nums .i64 o)) (he : o.length = l.length) (hn : l.length ≤ 7) (hr : leafW k l (best, least, good) o = some st') :
  Calls Try.prog 63 #[.pointer (some ⟨g, 0, none⟩), .slice A o.length c] w (RPost w0 w g Al cl l st') := by
 unfold leafW at hr
 obtain ⟨n, hn1, hr⟩ := Option.bind_eq_some_iff.mp hr
 obtain ⟨late, hn2, hr⟩ := Option.bind_eq_some_iff.mp hr
 have HR := Aside0.mk (Option.some.inj hr)
 have H1 := Aside0.mk hn1
 have H2 := Aside0.mk hn2
 have HI := Aside0.mk h
 have HO := Aside0.mk ho
 have c0 := h.c0
 have hb : ((o.length : Int) == (l.length : Int)) = true := by simp [he]
 have hol : o.length ≤ 7 := by omega
 clear hr hn1 hn2 h ho he
 dsimp only at HR
 obtain ⟨bb, hbb⟩ : ∃ bb, bb = decide (least < 0 ∨ n < least) := ⟨_, rfl⟩
 have HBB := Aside0.mk hbb
 clear hbb
 go_enter Try.func63, Try.ntmps63
 go_upto_region 2 with (go_at_call 76; refine (spec_l22Harm.calls k Al cl l A c o n w HI.out.read HI.out.cap (C_of_nums HO.out) (own_cap HO.out) H1.out).mono ?_; rintro e w1 ⟨rfl, hb1⟩; have hI := HI.out.step hb1; have ho := pw_own_below HO.out hb1; have HK1 := Aside0.mk ((KeepsT.refl [75] w).below hb1); clear HI HO hb1 c0; have c0 := hI.c0; have c2 := hI.c2; have c3 := hI.c3; have f1 := hI.fr 1; have c1 := hI.c1; have HI := Aside0.mk hI; have HO := Aside0.mk ho; clear hI ho)
 obtain ⟨wx, hwx⟩ : ∃ wx, wx = w1 := ⟨_, rfl⟩
 subst hwx
 go_cut [32] (fun s wy => s = .bool bb ∧ Aside0 (wy = wx))
 case first =>
  by_cases hl1 : least < 0
  ·have d1 : decide (least < 0) = true := decide_eq_true hl1
   go_wp2_with fail
   go_meet
   exact ⟨by rw [HBB.out, decide_eq_true (Or.inl hl1)], ⟨rfl⟩⟩
  ·have d1 : decide (least < 0) = false := decide_eq_false hl1
   by_cases hl2 : n < least
   ·have d2 : decide (n < least) = true := decide_eq_true hl2
    go_wp2_with fail
    go_meet
    exact ⟨by rw [HBB.out, decide_eq_true (Or.inr hl2)], ⟨rfl⟩⟩
   ·have d2 : decide (n < least) = false := decide_eq_false hl2
    go_wp2_with fail
    go_meet
    exact ⟨by rw [HBB.out, decide_eq_false (by omega)], ⟨rfl⟩⟩
 case rest =>
  obtain ⟨rfl, hwy⟩ := hcut
  have hwy' := hwy.out
  subst hwy'
  clear hwy
  go_upto_if 32 with fail
  go_cut [] (fun w3 => Aside0 (∃ vb', RInv w0 w3 g Al cl l vb' (if least < 0 ∨ n < least then o else best) (if least < 0 ∨ n < least then n else least) good) ∧ Aside0 (w3.ownsRow w0.heap.size 2 1 (.slice A o.length c) o.length (nums .i64 o)) ∧ Aside0 (KeepsT [75] w w3))
  case first =>
   cases bb with
   | true =>
    have HC : Aside0 (least < 0 ∨ n < least) := ⟨of_decide_eq_true HBB.out.symm⟩
    go_wp2_with (first
     | (refine hand_store (fun w' => RInv w0 w' g Al cl l (.slice A o.length c) o least good ∧ w'.ownsRow w0.heap.size 2 1 (.slice A o.length c) o.length (nums .i64 o) ∧ KeepsT [75] w w') (t := 37) (p := 36) (v := .tmp 34) (w1 := wc.setCell ⟨g, 1, none⟩ (.slice A o.length c)) ?hg rfl ?hN ?hr ?hF ?_; (case hg => rfl); (case hN => rfl); (case hr => first | (go_simp; done) | (go_simp; rfl)); (case hF => exact ⟨HI.out.set1 HO.out, own_keeps HO.out (HI.out.keep 1 _) (by decide), HK1.out.trans (HI.out.keep 1 _)⟩); rintro w2 ⟨hI, ho, hk⟩; clear HI HO HK1 c0 c1 c2 c3 f1; have c2 := hI.c2; have f2 := hI.fr 2; have HI := Aside0.mk hI; have HO := Aside0.mk ho; have HK1 := Aside0.mk hk; clear hI ho hk)
     | (refine hand_store (fun w' => RInv w0 w' g Al cl l (.slice A o.length c) o n good ∧ w'.ownsRow w0.heap.size 2 1 (.slice A o.length c) o.length (nums .i64 o) ∧ KeepsT [75] w w') (t := 2) (p := 40) (v := .tmp 38) (w1 := w2.setCell ⟨g, 2, none⟩ (.int .i64 n)) ?hg2 rfl ?hN2 ?hr2 ?hF2 ?_; (case hg2 => rfl); (case hN2 => rfl); (case hr2 => first | (go_simp; done) | (go_simp; rfl)); (case hF2 => exact ⟨HI.out.set2 n, own_keeps HO.out (HI.out.keep 2 _) (by decide), HK1.out.trans (HI.out.keep 2 _)⟩); rintro w3 ⟨hI, ho, hk⟩; clear HI HO HK1 c2 f2; have c3 := hI.c3; have c0 := hI.c0; have f3 := hI.fr 3; have HI := Aside0.mk hI; have HO := Aside0.mk ho; have HK1 := Aside0.mk hk; clear hI ho hk))
    go_meet
    exact ⟨⟨_, by rw [if_pos HC.out, if_pos HC.out]; exact HI.out⟩, HO, HK1⟩
   | false =>
    have HC : Aside0 (¬ (least < 0 ∨ n < least)) := ⟨of_decide_eq_false HBB.out.symm⟩
    go_wp2_with fail
    go_meet
    exact ⟨⟨_, by rw [if_neg HC.out, if_neg HC.out]; exact HI.out⟩, HO, HK1⟩
  case rest =>
   clear HI HO HK1 c0 c1 c2 c3 f1
   obtain ⟨HI', HO, HK1⟩ := hcut
   obtain ⟨vb', hI⟩ := HI'.out
   clear HI'
   have c0 := hI.c0
   have c3 := hI.c3
   have f3 := hI.fr 3
   have HI := Aside0.mk hI
   clear hI
   obtain ⟨w3, hw3⟩ : ∃ w3, w3 = wc := ⟨_, rfl⟩
   subst hw3
   go_upto_region 5 with fail
   obtain ⟨mg, hmg⟩ : ∃ mg, mg = (if good > (o.length : Int) - (late.length : Int) then good else (o.length : Int) - (late.length : Int)) := ⟨_, rfl⟩
   have HM : Aside0 (spec_l00Max.f good ((o.length : Int) - (late.length : Int)) = some mg) := ⟨by rw [hmg]; unfold spec_l00Max.f; split <;> rfl⟩
   have HMG := Aside0.mk hmg
   clear hmg
   refine start_ (n := 19) (S := fun w' => w'.cell? ⟨g, 3, none⟩ = some (.int .i64 good) ∧ w'.cell? ⟨g, 0, none⟩ = some (.slice Al l.length cl)) (ds := [18]) #[F_,F_,F_,F_,F_,F_,F_,F_,F_,F_,F_,F_,F_,F_,F_,F_,F_,F_,F_] (by kernel_rfl) rfl rfl ⟨c3, c0⟩ (fun hHeld => ?_); refine with_tabW l22W_walk.tab5 l22W_walk.bits5 (fun HT_ HW_ => ?_)
   generalize hW5 : w3.drew = W5 at hHeld ⊢
   have HB5 : Aside0 (Below w3.heap.size w3 W5) := ⟨by rw [← hW5]; exact below_drew (Below.refl _ _)⟩
   clear hW5
   refine pu (i := 0) (N := some 41) #[T_,F_,F_,F_,F_,F_,F_,F_,F_,F_,F_,F_,F_,F_,F_,F_,F_,F_,F_] HT_ ?_
   refine pu (i := 1) (N := some 42) #[T_,T_,F_,F_,F_,F_,F_,F_,F_,F_,F_,F_,F_,F_,F_,F_,F_,F_,F_] HT_ ?_
   refine pu (i := 2) (N := some 43) #[T_,T_,T_,F_,F_,F_,F_,F_,F_,F_,F_,F_,F_,F_,F_,F_,F_,F_,F_] HT_ ?_
   refine pu (i := 3) (N := some 44) #[T_,T_,T_,T_,F_,F_,F_,F_,F_,F_,F_,F_,F_,F_,F_,F_,F_,F_,F_] HT_ ?_
   refine pu (i := 5) (N := some 46) #[T_,T_,T_,T_,F_,T_,F_,F_,F_,F_,F_,F_,F_,F_,F_,F_,F_,F_,F_] HT_ ?_
   refine pu (i := 6) (N := some 47) #[T_,T_,T_,T_,F_,T_,T_,F_,F_,F_,F_,F_,F_,F_,F_,F_,F_,F_,F_] HT_ ?_
   refine pu (i := 7) (N := some 48) #[T_,T_,T_,T_,F_,T_,T_,T_,F_,F_,F_,F_,F_,F_,F_,F_,F_,F_,F_] HT_ ?_
   refine pu (i := 8) (N := some 49) #[T_,T_,T_,T_,F_,T_,T_,T_,T_,F_,F_,F_,F_,F_,F_,F_,F_,F_,F_] HT_ ?_
   refine pu (i := 9) (N := some 50) #[T_,T_,T_,T_,F_,T_,T_,T_,T_,T_,F_,F_,F_,F_,F_,F_,F_,F_,F_] HT_ ?_
   refine pu (i := 11) (N := some 52) #[T_,T_,T_,T_,F_,T_,T_,T_,T_,T_,F_,T_,F_,F_,F_,F_,F_,F_,F_] HT_ ?_
   refine take_ (i := 4) (N := some 45) (v := ?_) (a' := ?_) #[T_,T_,T_,T_,T_,T_,T_,T_,T_,T_,F_,T_,F_,F_,F_,F_,F_,F_,F_] rfl rfl (take_ofW HT_.out HW_.out (by kernel_rfl)) (fun _ _ _ h => h) (Or.inl ⟨by rfl, ?_⟩) hHeld ?_ ?_
   rotate_left
   ·rintro w' ⟨s0, s1⟩
    go_simp
    with_reducible rfl
   rotate_left
   ·simp only [Act.put, sT_, s0_, sS_, i64_w, i32_w]
    rfl
   refine take_ (i := 10) (N := some 51) (v := ?_) (a' := ?_) #[T_,T_,T_,T_,T_,T_,T_,T_,T_,T_,T_,T_,F_,F_,F_,F_,F_,F_,F_] rfl rfl (take_ofW HT_.out HW_.out (by kernel_rfl)) (fun _ _ _ h => h) (Or.inl ⟨by rfl, ?_⟩) hHeld ?_ ?_
   rotate_left
   ·rintro w' ⟨s0, s1⟩
    go_simp
    with_reducible rfl
   rotate_left
   ·simp only [Act.put, sT_, s0_, sS_, i64_w, i32_w]
    rfl
   refine one_ (i := 12) (N := (some 53)) #[T_,T_,T_,T_,T_,T_,T_,T_,T_,T_,T_,T_,T_,F_,F_,F_,F_,F_,F_] rfl rfl (one_of HT_.out (by kernel_rfl)) (by decide) (fun K hK => ?_)
   go_simp
   go_at_call 78
   refine (spec_l22Late.calls k Al cl l A c o late W5 (Kd.C_below HI.out.read HB5.out) HI.out.cap (Kd.C_below (C_of_nums HO.out) HB5.out) (own_cap HO.out) H2.out).mono ?_
   rintro e w4 ⟨v4, rfl, hr4, hb4⟩
   obtain ⟨A4, n4, e4⟩ := Kd.R_slice hr4
   subst e4
   have hll := (Kd.R_reads' hr4).2.2.2.1
   have hwr : IntKind.i64.wrap ((o.length : Int) - (late.length : Int)) = (o.length : Int) - (late.length : Int) := IntWalk.i64_in _ (by omega)
   have HB4 := Aside0.mk (HB5.out.trans (hb4.mono HB5.out.size))
   clear hr4 hb4
   refine hK.out _ _ ⟨pw_cell_below HB4.out c3, pw_cell_below HB4.out c0⟩ (fun hHeld => ?_)
   clear hK K
   refine pu (i := 13) (N := some 54) #[T_,T_,T_,T_,T_,T_,T_,T_,T_,T_,T_,T_,T_,T_,F_,F_,F_,F_,F_] HT_ ?_
   refine pu (i := 14) (N := some 55) #[T_,T_,T_,T_,T_,T_,T_,T_,T_,T_,T_,T_,T_,T_,T_,F_,F_,F_,F_] HT_ ?_
   refine one_ (i := 15) (N := (some 56)) #[T_,T_,T_,T_,T_,T_,T_,T_,T_,T_,T_,T_,T_,T_,T_,T_,F_,F_,F_] rfl rfl (one_of HT_.out (by kernel_rfl)) (by decide) (fun K hK => ?_)
   go_simp
   go_at_call 69
   refine (spec_l00Max.calls good ((o.length : Int) - (late.length : Int)) mg w4 HM.out).mono ?_
   rintro e w6 ⟨rfl, hb6⟩
   have HB6 := Aside0.mk (below_then HB4.out HB4.out.size hb6.below)
   clear hb6
   refine hK.out _ _ ⟨pw_cell_below HB6.out c3, pw_cell_below HB6.out c0⟩ (fun hHeld => ?_)
   clear hK K
   refine pu (i := 16) (N := some 57) #[T_,T_,T_,T_,T_,T_,T_,T_,T_,T_,T_,T_,T_,T_,T_,T_,T_,F_,F_] HT_ ?_
   refine pu (i := 17) (N := some 58) #[T_,T_,T_,T_,T_,T_,T_,T_,T_,T_,T_,T_,T_,T_,T_,T_,T_,T_,F_] HT_ ?_
   refine last_ (i := 18) (N := none) #[T_,T_,T_,T_,T_,T_,T_,T_,T_,T_,T_,T_,T_,T_,T_,T_,T_,T_,T_] rfl rfl (one_of HT_.out (by kernel_rfl)) (by decide) (fun K hK => ?_)
   have c36 := pw_cell_below HB6.out c3
   have f36 := (HB6.out.frozen (World.block_lt_of_cell? _ _ c3)).trans f3
   refine skip_ (w1 := w6.setCell ⟨g, 3, none⟩ (.int .i64 mg)) (by rfl) rfl ?_ ?_
   ·go_simp
   refine hK.out _ _ ?_
   clear hK K
   refine done_ (done_of HT_.out (by kernel_rfl)) ?_
   have HP : Aside0 (RPost w0 w g Al cl l st' (.returned (.tuple #[])) (w6.setCell ⟨g, 3, none⟩ (.int .i64 mg))) := ⟨by
    have hI6 := HI.out.step HB6.out
    refine ⟨rfl, (HK1.out.below HB6.out).trans (hI6.keep 3 _), vb', ?_⟩
    rw [← HR.out, ← HMG.out]
    exact hI6.set3 mg⟩
   go_wp2_with fail
   first | go_end0 | refine bodyPost_ret (results_none rfl _ _ _) rfl ?_
   exact HP.out
theorem own_f (o : List Int) (h : o.length ≤ 100) : spec_l00Own.f o = some o := by
 unfold spec_l00Own.f
 simp only [Option.bind_some, List.length_nil, Nat.zero_add, List.nil_append]
 rw [if_pos (by omega)]
set_option maxRecDepth 100000 in
set_option maxHeartbeats 1000000 in
theorem walkW_calls (k : Nat) (w0 : World) (g : Nat) (Al : Option Addr) (cl : Nat) (l : List S55) (hn : l.length ≤ 7) (m : Nat) : ∀ (w : World) (vb : Value) (best : List Int) (least good : Int) (st' : List Int × Int × Int) (A : Option Addr) (c : Nat) (o : List Int) (no : Nat), no = o.length → RInv w0 w g Al cl l vb best least good → w.ownsRow w0.heap.size 2 1 (.slice A o.length c) o.length (nums .i64 o) → o.length + m = l.length → (ordersFrom l.length m o).foldlM (leafW k l) (best, least, good) = some st' →
  Calls Try.prog 63 #[.pointer (some ⟨g, 0, none⟩), .slice A no c] w (RPost w0 w g Al cl l st') := by
 induction m with
 | zero =>
  intro w vb best least good st' A c o no hno h ho he hr
  subst hno
  rw [ordersFrom, List.foldlM_cons] at hr
  obtain ⟨q, h1, h2⟩ := Option.bind_eq_some_iff.mp hr
  rw [List.foldlM_nil] at h2
  obtain rfl : q = st' := Option.some.inj h2
  exact walkW_last k w0 w g Al cl l vb best least good q A c o h ho (by omega) hn h1
 | succ m ih =>
  intro w vb best least good st' A c o no hno h ho he hr
  subst hno
  have HI := Aside0.mk h
  have HO := Aside0.mk ho
  have HE := Aside0.mk he
  have hol : o.length ≤ 7 := by omega
  have HR : Aside0 ((ordersAt l.length m o 0).foldlM (leafW k l) (best, least, good) = some st') := ⟨by rw [← ordersFrom_eq]; exact hr⟩
  have c0 := h.c0
  have hb : ((o.length : Int) == (l.length : Int)) = false := by simp; omega
  have HOW : Aside0 (spec_l00Own.f o = some o) := ⟨own_f o (by omega)⟩
  clear h ho he hr
  go_enter Try.func63, Try.ntmps63
  go_wp2_with fail
  clear c0 hb
  go_loopg [5] l.length (fun gg v5 wr => ∃ i : Nat, v5 = .int .i64 (i : Int) ∧ Aside0 (i ≤ l.length ∧ l.length - i ≤ gg) ∧ Aside0 (∃ vb' b' l' g', RInv w0 wr g Al cl l vb' b' l' g' ∧ (ordersAt l.length m o i).foldlM (leafW k l) (b', l', g') = some st') ∧ Aside0 (KeepsT [75] w wr))
  case atStart => exact ⟨0, rfl, ⟨Nat.zero_le _, by omega⟩, ⟨_, _, _, _, HI.out, HR.out⟩, ⟨KeepsT.refl _ _⟩⟩
  case round =>
   obtain ⟨i, rfl, HJ, HI', HK⟩ := hrel
   clear HR HI
   obtain ⟨vb', b', l', g', hI, hR⟩ := HI'.out
   clear HI'
   have c0 := hI.c0
   by_cases hlt : i < l.length
   ·have hltb : decide (i < l.length) = true := decide_eq_true hlt
    rw [ordersAt_step _ _ _ _ hlt] at hR
    obtain ⟨q, h1, h2⟩ := foldlM_split hR
    have HO' := Aside0.mk (own_keeps HO.out HK.out (by decide))
    by_cases hm : (i : Int) ∈ o
    ·rw [if_pos hm] at h1
     have e1 : (b', l', g') = q := Option.some.inj h1
     subst e1
     have HH : Aside0 (spec_l00Has.f (o.length + 1) o (i : Int) = some true) := ⟨by rw [has_f _ _ (by omega), decide_eq_true hm]⟩
     have HI := Aside0.mk hI
     have H2 := Aside0.mk h2
     clear hI hR h1 h2 hm
     go_wp2_with (go_at_call 89; refine (spec_l00Has.calls (o.length + 1) A c o (i : Int) true wr (C_of_nums HO'.out) (own_cap HO'.out) HH.out).mono ?_; rintro e w2 ⟨rfl, hb2⟩; have HB2 := Aside0.mk hb2.below; clear hb2)
     go_roundg (l.length - (i + 1))
     case measure => have := HJ.out; omega
     case rel => exact ⟨i + 1, by go_num, ⟨by omega, by omega⟩, ⟨_, _, _, _, HI.out.step HB2.out, H2.out⟩, ⟨HK.out.below HB2.out⟩⟩
    ·rw [if_neg hm] at h1
     have HH : Aside0 (spec_l00Has.f (o.length + 1) o (i : Int) = some false) := ⟨by rw [has_f _ _ (by omega), decide_eq_false hm]⟩
     have HI := Aside0.mk hI
     have H1 := Aside0.mk h1
     have H2 := Aside0.mk h2
     clear hI hR h1 h2 hm
     go_wp2_with (first
      | (go_at_call 89; refine (spec_l00Has.calls (o.length + 1) A c o (i : Int) false wr (C_of_nums HO'.out) (own_cap HO'.out) HH.out).mono ?_; rintro e w2 ⟨rfl, hb2⟩; have HB2 := Aside0.mk hb2.below; clear hb2)
      | (go_at_call 80; go_loud (with_reducible refine (spec_l00Own.calls A c o o w2 (Kd.C_below (C_of_nums HO'.out) HB2.out) (own_cap HO'.out) HOW.out).mono ?_); rintro e w3 ⟨v3, rfl, hr3, hb3⟩; have ho3 := nums_of_R hr3; obtain ⟨A3, n3, e3⟩ := own_slice ho3; subst e3; have HB3 := Aside0.mk (below_then HB2.out HB2.out.size hb3); have HO3 := Aside0.mk (own_weaken ho3 HB2.out.size); clear hr3 ho3 hb3)
      | (at_builtin; refine print_append_num (w0 := wr) wr.heap.size rfl (.tmp 74) (.tmp 76) 37 2 .i64 8 rfl Try.underlying37 info2' (by decide) (.slice A3 o.length n3) o (i : Int) rfl rfl HO3.out HB3.out HB3.out.size (by omega) ?_; intro v4 w4 hown hbel hgr hat; obtain ⟨A4, n4, e4⟩ := own_slice hown; rw [e4]; rw [e4] at hown; have HO4 := Aside0.mk (own_weaken hown HI.out.below.size); have HL4 : Aside0 ((o ++ [(i : Int)]).length + m = l.length) := ⟨(by rw [List.length_append]; have := HE.out; show o.length + 1 + m = _; omega)⟩; have HI4 := Aside0.mk (HI.out.step hbel); have HK4 := Aside0.mk (HK.out.below hbel); clear hown hbel hgr hat e4)
      | (go_at_call 63; go_loud (refine (ih w4 vb' b' l' g' q A4 n4 (o ++ [(i : Int)]) _ (by simp) HI4.out HO4.out HL4.out H1.out).mono ?_); rintro e w5 ⟨rfl, hk5, vb5, hI5⟩; have HI5 := Aside0.mk hI5; have HK5 := Aside0.mk (HK4.out.trans hk5); clear hI5 hk5))
     go_roundg (l.length - (i + 1))
     case measure => have := HJ.out; omega
     case rel => exact ⟨i + 1, by go_num, ⟨by omega, by omega⟩, ⟨_, _, _, _, HI5.out, H2.out⟩, HK5⟩
   ·have hltb : decide (i < l.length) = false := decide_eq_false hlt
    rw [ordersAt_end _ _ _ _ (by omega)] at hR
    have e1 : (b', l', g') = st' := Option.some.inj hR
    subst e1
    have HP : Aside0 (RPost w0 w g Al cl l (b', l', g') (.returned (.tuple #[])) wr) := ⟨⟨rfl, HK.out, _, hI⟩⟩
    clear hI hR
    go_wp2_with fail
    first | go_end0 | refine bodyPost_ret (results_none rfl _ _ _) rfl ?_
    exact HP.out
theorem leafW_mono (k : Nat) (l : List S55) (st : List Int × Int × Int) (o : List Int) : LeO (leafW k l st o) (leafW (k + 1) l st o) := by
 unfold leafW
 exact LeO.bind (spec_l22Harm.mono _ _ _) (fun _ => LeO.bind (spec_l22Late.mono _ _ _) (fun _ => LeO.refl _))
theorem leafs_mono (k : Nat) (l : List S55) : ∀ (os : List (List Int)) (st : List Int × Int × Int), LeO (os.foldlM (leafW k l) st) (os.foldlM (leafW (k + 1) l) st) := by
 intro os
 induction os with
 | nil => intro st; exact LeO.refl _
 | cons o os ih => intro st; rw [List.foldlM_cons, List.foldlM_cons]; exact LeO.bind (leafW_mono k l st o) (fun q => ih q)
theorem RInv.grown {w0 w w1 : World} {g : Nat} {Al : Option Addr} {cl : Nat} {l : List S55} {vb : Value} {best : List Int} {least good : Int} (h : RInv w0 w g Al cl l vb best least good) (hg : w.grownBy w1 none) : RInv w0 w1 g Al cl l vb best least good :=
 h.step ⟨hg.os, hg.tape, hg.output, hg.size, fun k hk => hg.block k hk (by simp)⟩

theorem RInv.drew {w0 w : World} {g : Nat} {Al : Option Addr} {cl : Nat} {l : List S55} {vb : Value} {best : List Int} {least good : Int} (h : RInv w0 w g Al cl l vb best least good) : RInv w0 w.drew g Al cl l vb best least good := h.step (below_drew (Below.refl _ _))


end Go.Proofs.Ytkegmjebkikniaa.P
