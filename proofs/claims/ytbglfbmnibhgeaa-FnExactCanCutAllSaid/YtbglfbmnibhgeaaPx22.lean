-- Written by gprint.py (own program, over the printer of the kit) out of the translation. Lean checks it.
import Derived.Test.YtbglfbmnibhgeaaPx0
import Derived.Test.YtbglfbmnibhgeaaPx5
import Derived.Test.YtbglfbmnibhgeaaPx8
import Derived.Test.YtbglfbmnibhgeaaPx19
import Derived.Test.YtbglfbmnibhgeaaWPk
namespace Go.Proofs.Ytbglfbmnibhgeaa.P
open Go.RowKit Go.Proofs.YtbglfbmnibhgeaaW.PrintWords Go.Proofs.YtbglfbmnibhgeaaW.PrintLast Go.Proofs.YtbglfbmnibhgeaaW.PrintMore Go.Proofs.YtbglfbmnibhgeaaW.Pk
open Bool renaming true → T_, false → F_
open List renaming setIfInBounds_toArray → sT_, set_cons_zero → s0_, set_cons_succ → sS_
attribute [local go_sem] max2_int min2_int max_two min_two max_three min_three max_four min_four   -- for this text's walks alone
set_option linter.unusedVariables false
set_option linter.unusedSimpArgs false

/-! ### spec_l23Exactly: function 75 -/
def spec_l23Exactly.f (k : Nat) (l0 : List (S45)) (l1 : List (S55)) : Option (Int) := (spec_l23All.f k l0 l1).bind fun t613 => (if t613 = 0 then (if (l0.length : Int) > 7 then (some 5) else (if (l1.length : Int) > 7 then (some 5) else (some t613))) else (some t613))
theorem spec_l23Exactly.mono : ∀ a0 a1 k, LeO (spec_l23Exactly.f k a0 a1) (spec_l23Exactly.f (k + 1) a0 a1) := by
 intro a0 a1 k
 unfold spec_l23Exactly.f
 repeat' first
   | (with_reducible exact spec_l23All.mono _ _ _)
   | (with_reducible exact LeO.refl _)
   | (with_reducible exact LeO.none _)
   | (with_reducible refine LeO.ite ?_ ?_)
   | (with_reducible refine LeO.bind ?_ (fun _ => ?_))
   | exact spec_l23All.mono _ _ _
   | exact LeO.none _
   | refine LeO.ite ?_ ?_
   | refine LeO.bind ?_ (fun _ => ?_)
set_option maxHeartbeats 8000000 in
set_option maxRecDepth 100000 in
theorem spec_l23Exactly.calls (k : Nat) (A0 : Option Addr) (c0 : Nat) (l0 : List (S45)) (A1 : Option Addr) (c1 : Nat) (l1 : List (S55)) (r : Int) (w : World) (hr0 : Kd.C k45 w A0 l0.length l0) (hc0 : l0.length ≤ c0) (hr1 : Kd.C k55 w A1 l1.length l1) (hc1 : l1.length ≤ c1) (h : spec_l23Exactly.f k l0 l1 = some r) :
  Calls Try.prog 75 #[.slice A0 l0.length c0, .slice A1 l1.length c1] w fun e w' => e = .returned (.int .i64 r) ∧ Below w.heap.size w w' := by
 have HR0 := Aside0.mk hr0
 have HC0 := Aside0.mk hc0
 clear hr0 hc0
 have HR1 := Aside0.mk hr1
 have HC1 := Aside0.mk hc1
 clear hr1 hc1
 have HB := Aside0.mk (Below.refl w.heap.size w)
 have H : ((spec_l23All.f k l0 l1).bind fun t613 => (if t613 = 0 then (if (l0.length : Int) > 7 then (some 5) else (if (l1.length : Int) > 7 then (some 5) else (some t613))) else (some t613))) = some r := h
 clear h
 replace H := Option.bind_eq_some_iff.mp H
 obtain ⟨t613, A30, H⟩ := H
 replace H : (if t613 = 0 then (if (l0.length : Int) > 7 then (some 5) else (if (l1.length : Int) > 7 then (some 5) else (some t613))) else (some t613)) = some r := H
 have A3 := Aside0.mk A30
 clear A30
 by_cases c4 : t613 = 0
 ·rw [if_pos c4] at H
  have c4b0 : (t613 == 0) = true := beq_iff_eq.mpr c4
  have c4b1 : (t613 != 0) = false := bne_eq_false_iff_eq.mpr c4
  clear c4
  by_cases c5 : (l0.length : Int) > 7
  ·rw [if_pos c5] at H
   have c5b0 : decide (7 < (l0.length : Int)) = true := decide_eq_true c5
   have c5b1 : decide (7 < l0.length) = true := decide_eq_true (by omega)
   clear c5
   obtain rfl := Option.some.inj H
   go_enter Try.func75, Try.ntmps75
   go_wp2_with (first | ((with_reducible refine gate_callee (f := 72) rfl ?_); refine goesL_ (some 8) rfl rfl Try.func72 (by kernel_rfl) rfl #[.slice A0 l0.length c0, .slice A1 l1.length c1] rfl ln_ ?_; (with_reducible refine (spec_l23All.calls k _ _ l0 _ _ l1 t613 _ ?side1 ?side2 ?side3 ?side4 A3.out).mono ?_); (case side1 => exact kc_ HR0.out); (case side2 => exact HC0.out); (case side3 => exact kc_ HR1.out); (case side4 => exact HC1.out); rintro e w6 ⟨rfl, hb⟩; refine ⟨_, rfl, ?_⟩; have n0_ := Aside0.mk (below_step hb_ hb); clear HB; have HB := n0_; clear n0_; (try clear hb); (try clear hb2); (try clear hk); (try clear hi)))
   go_ret
   exact ⟨ew_, hb_⟩
  ·rw [if_neg c5] at H
   have c5b0 : decide (7 < (l0.length : Int)) = false := decide_eq_false c5
   have c5b1 : decide (7 < l0.length) = false := decide_eq_false (by omega)
   clear c5
   by_cases c7 : (l1.length : Int) > 7
   ·rw [if_pos c7] at H
    have c7b0 : decide (7 < (l1.length : Int)) = true := decide_eq_true c7
    have c7b1 : decide (7 < l1.length) = true := decide_eq_true (by omega)
    clear c7
    obtain rfl := Option.some.inj H
    go_enter Try.func75, Try.ntmps75
    go_wp2_with (first | ((with_reducible refine gate_callee (f := 72) rfl ?_); refine goesL_ (some 8) rfl rfl Try.func72 (by kernel_rfl) rfl #[.slice A0 l0.length c0, .slice A1 l1.length c1] rfl ln_ ?_; (with_reducible refine (spec_l23All.calls k _ _ l0 _ _ l1 t613 _ ?side1 ?side2 ?side3 ?side4 A3.out).mono ?_); (case side1 => exact kc_ HR0.out); (case side2 => exact HC0.out); (case side3 => exact kc_ HR1.out); (case side4 => exact HC1.out); rintro e w8 ⟨rfl, hb⟩; refine ⟨_, rfl, ?_⟩; have n0_ := Aside0.mk (below_step hb_ hb); clear HB; have HB := n0_; clear n0_; (try clear hb); (try clear hb2); (try clear hk); (try clear hi)))
    go_ret
    exact ⟨ew_, hb_⟩
   ·rw [if_neg c7] at H
    have c7b0 : decide (7 < (l1.length : Int)) = false := decide_eq_false c7
    have c7b1 : decide (7 < l1.length) = false := decide_eq_false (by omega)
    clear c7
    obtain rfl := Option.some.inj H
    go_enter Try.func75, Try.ntmps75
    go_wp2_with (first | ((with_reducible refine gate_callee (f := 72) rfl ?_); refine goesL_ (some 8) rfl rfl Try.func72 (by kernel_rfl) rfl #[.slice A0 l0.length c0, .slice A1 l1.length c1] rfl ln_ ?_; (with_reducible refine (spec_l23All.calls k _ _ l0 _ _ l1 t613 _ ?side1 ?side2 ?side3 ?side4 A3.out).mono ?_); (case side1 => exact kc_ HR0.out); (case side2 => exact HC0.out); (case side3 => exact kc_ HR1.out); (case side4 => exact HC1.out); rintro e w9 ⟨rfl, hb⟩; refine ⟨_, rfl, ?_⟩; have n0_ := Aside0.mk (below_step hb_ hb); clear HB; have HB := n0_; clear n0_; (try clear hb); (try clear hb2); (try clear hk); (try clear hi)))
    go_ret
    exact ⟨ew_, hb_⟩
 ·rw [if_neg c4] at H
  have c4b0 : (t613 == 0) = false := beq_eq_false_iff_ne.mpr c4
  have c4b1 : (t613 != 0) = true := bne_iff_ne.mpr c4
  obtain rfl := Option.some.inj H
  go_enter Try.func75, Try.ntmps75
  go_wp2_with (first | ((with_reducible refine gate_callee (f := 72) rfl ?_); refine goesL_ (some 8) rfl rfl Try.func72 (by kernel_rfl) rfl #[.slice A0 l0.length c0, .slice A1 l1.length c1] rfl ln_ ?_; (with_reducible refine (spec_l23All.calls k _ _ l0 _ _ l1 t613 _ ?side1 ?side2 ?side3 ?side4 A3.out).mono ?_); (case side1 => exact kc_ HR0.out); (case side2 => exact HC0.out); (case side3 => exact kc_ HR1.out); (case side4 => exact HC1.out); rintro e w10 ⟨rfl, hb⟩; refine ⟨_, rfl, ?_⟩; have n0_ := Aside0.mk (below_step hb_ hb); clear HB; have HB := n0_; clear n0_; (try clear hb); (try clear hb2); (try clear hk); (try clear hi)))
  go_ret
  exact ⟨ew_, hb_⟩

/-! ### spec_l23Way: function 76 -/
-- (by hand)
open Go.Proofs.YtbglfbmnibhgeaaW.Hand
theorem info2' : (Try.prog.info? 2).map (fun i => (i.zero, i.size, i.bytes)) = some (some (.int .i64 0), 1, 8) := by kernel_rfl

def fitsC (c : S45) (x : S55) : Bool := c.f0.toList == x.f0.toList && decide (x.f1 ≤ c.f1)
def cutAt (cs : List S45) (k : Nat) (n : Int) : List S45 := cs.set k ⟨(rd_T45 cs k).f0, (rd_T45 cs k).f1 - n⟩
/-- The first way to cut the pieces 'ws' from the coils 'cs'. -/
def wayC : List S55 → List S45 → Option (List Int)
 | [], _ => some []
 | x :: ws, cs => (List.range cs.length).findSome? fun (k : Nat) => if fitsC (rd_T45 cs (k : Int)) x then (wayC ws (cutAt cs k x.f1)).map ((k : Int) :: ·) else none
def wayFrom (x : S55) (ws : List S55) (cs : List S45) (k : Nat) : Option (List Int) := (List.range' k (cs.length - k)).findSome? fun (k : Nat) => if fitsC (rd_T45 cs (k : Int)) x then (wayC ws (cutAt cs k x.f1)).map ((k : Int) :: ·) else none

def cellsC (cs : List S45) : List Value := cs.flatMap fun c => [.string c.f0, .int .i64 c.f1]
theorem cellsC_length (cs : List S45) : (cellsC cs).length = cs.length * 2 := by
 induction cs with
 | nil => rfl
 | cons c cs ih => simp only [cellsC, List.flatMap_cons, List.length_append, List.length_cons, List.length_nil] at ih ⊢; omega
theorem cellsC_get (cs : List S45) : ∀ (k : Nat), k < cs.length → (cellsC cs)[k * 2]? = some (.string (rd_T45 cs (k : Int)).f0) ∧ (cellsC cs)[k * 2 + 1]? = some (.int .i64 (rd_T45 cs (k : Int)).f1) := by
 induction cs with
 | nil => intro k hk; simp at hk
 | cons c cs ih =>
  intro k hk
  cases k with
  | zero => exact ⟨rfl, rfl⟩
  | succ k =>
   obtain ⟨a, b⟩ := ih k (by simpa using hk)
   have e : rd_T45 (c :: cs) ((k + 1 : Nat) : Int) = rd_T45 cs (k : Int) := rfl
   rw [e]
   refine ⟨?_, ?_⟩
   ·rw [← a, show (k + 1) * 2 = k * 2 + 2 by omega]; rfl
   ·rw [← b, show (k + 1) * 2 + 1 = k * 2 + 1 + 2 by omega]; rfl
theorem cellsC_set (cs : List S45) (v : Int) : ∀ (k : Nat), k < cs.length → (cellsC cs).set (k * 2 + 1) (.int .i64 v) = cellsC (cs.set k ⟨(rd_T45 cs (k : Int)).f0, v⟩) := by
 induction cs with
 | nil => intro k hk; simp at hk
 | cons c cs ih =>
  intro k hk
  cases k with
  | zero => rfl
  | succ k =>
   have e : rd_T45 (c :: cs) ((k + 1 : Nat) : Int) = rd_T45 cs (k : Int) := rfl
   rw [e, show (k + 1) * 2 + 1 = k * 2 + 1 + 2 by omega]
   show Value.string c.f0 :: Value.int .i64 c.f1 :: (cellsC cs).set (k * 2 + 1) _ = _
   rw [ih k (by simpa using hk)]
   rfl

/-- The state of the search at block g. -/
structure WInv (w0 w : World) (g : Nat) (vc : Value) (cs : List S45) (Aw : Option Addr) (cw : Nat) (ws : List S55) (vt : Value) (ts : List Int) : Prop where
 blk : w.heap[g]? = some (.cells #[vc, .slice Aw ws.length cw, vt] 96 (0, 0))
 coils : w.ownsRow w0.heap.size 45 2 vc cs.length (cellsC cs)
 taken : w.ownsRow w0.heap.size 2 1 vt ts.length (nums .i64 ts)
 wants : Kd.C k55 w0 Aw ws.length ws
 below : Below w0.heap.size w0 w
 ge : w0.heap.size ≤ g
section
variable {w0 w : World} {g : Nat} {vc : Value} {cs : List S45} {Aw : Option Addr} {cw : Nat} {ws : List S55} {vt : Value} {ts : List Int}
theorem WInv.drew (h : WInv w0 w g vc cs Aw cw ws vt ts) : WInv w0 w.drew g vc cs Aw cw ws vt ts := ⟨h.blk, h.coils, h.taken, h.wants, below_drew h.below, h.ge⟩
theorem WInv.drewN (h : WInv w0 w g vc cs Aw cw ws vt ts) (n : Nat) : WInv w0 (w.drewN n) g vc cs Aw cw ws vt ts := ⟨h.blk, h.coils, h.taken, h.wants, pw_below_drewN h.below n, h.ge⟩
theorem WInv.step {w1 : World} (h : WInv w0 w g vc cs Aw cw ws vt ts) (hb : Below w.heap.size w w1) : WInv w0 w1 g vc cs Aw cw ws vt ts :=
 ⟨(hb.block g (blk_lt h.blk)).trans h.blk, pw_own_below h.coils hb, pw_own_below h.taken hb, h.wants, below_then h.below h.below.size hb, h.ge⟩
theorem WInv.alloc (h : WInv w0 w g vc cs Aw cw ws vt ts) (o : Obj) : WInv w0 (w.alloc o) g vc cs Aw cw ws vt ts := h.step (below_alloc (Below.refl _ _) o)
theorem WInv.c0 (h : WInv w0 w g vc cs Aw cw ws vt ts) : w.cell? ⟨g, 0, none⟩ = some vc := (blk_cell h.blk 0).trans rfl
theorem WInv.c1 (h : WInv w0 w g vc cs Aw cw ws vt ts) : w.cell? ⟨g, 1, none⟩ = some (.slice Aw ws.length cw) := (blk_cell h.blk 1).trans rfl
theorem WInv.c2 (h : WInv w0 w g vc cs Aw cw ws vt ts) : w.cell? ⟨g, 2, none⟩ = some vt := (blk_cell h.blk 2).trans rfl
theorem WInv.fr (h : WInv w0 w g vc cs Aw cw ws vt ts) (j : Nat) : w.frozen? ⟨g, j, none⟩ = false := blk_frozen h.blk j
theorem WInv.k0 {gc c : Nat} (h : WInv w0 w g (.slice (some ⟨gc, 0, none⟩) cs.length c) cs Aw cw ws vt ts) (k : Nat) (hk : k < cs.length) : w.cell? ⟨gc, k * 2, none⟩ = some (.string (rd_T45 cs (k : Int)).f0) := (h.coils.cellAt (k * 2) (by omega)).trans (cellsC_get cs k hk).1
theorem WInv.k1 {gc c : Nat} (h : WInv w0 w g (.slice (some ⟨gc, 0, none⟩) cs.length c) cs Aw cw ws vt ts) (k : Nat) (hk : k < cs.length) : w.cell? ⟨gc, k * 2 + 1, none⟩ = some (.int .i64 (rd_T45 cs (k : Int)).f1) := (h.coils.cellAt (k * 2 + 1) (by omega)).trans (cellsC_get cs k hk).2
theorem WInv.ne_gc {gc c : Nat} (h : WInv w0 w g (.slice (some ⟨gc, 0, none⟩) cs.length c) cs Aw cw ws vt ts) : g ≠ gc := fun e => by
 obtain ⟨cells, hc⟩ := own_typed h.coils gc rfl
 rw [← e, h.blk] at hc
 injection hc with hc
 injection hc with _ h2
 exact absurd h2 (by decide)
/-- A coil's rest is stored. -/
theorem WInv.left {gc c : Nat} (h : WInv w0 w g (.slice (some ⟨gc, 0, none⟩) cs.length c) cs Aw cw ws vt ts) (k : Nat) (hk : k < cs.length) (v : Int) :
  WInv w0 (w.setCell ⟨gc, k * 2 + 1, none⟩ (.int .i64 v)) g (.slice (some ⟨gc, 0, none⟩) cs.length c) (cs.set k ⟨(rd_T45 cs (k : Int)).f0, v⟩) Aw cw ws vt ts := by
 have hs := h.coils.stored (k * 2 + 1) (.int .i64 v)
 rw [cellsC_set cs v k hk] at hs
 refine ⟨blk_far h.blk h.ne_gc _, by rw [List.length_set]; exact hs.1, own_setCell h.taken ?_ _, h.wants, h.below.setCell (own_base h.coils gc rfl) _, h.ge⟩
 have h1 := own_type_ne h.coils h.taken (by decide)
 rcases h1 with h1 | h1
 ·cases h1
 ·exact h1
/-- The row of what is taken is another one. -/
theorem WInv.put {w1 : World} {v1 : Value} {ts1 : List Int} (h : WInv w0 w g vc cs Aw cw ws vt ts) (ho : w1.ownsRow w0.heap.size 2 1 v1 ts1.length (nums .i64 ts1)) (hB : Below w0.heap.size w0 w1) (hg : w.grownBy w1 vt.ownBlock) :
  WInv w0 (w1.setCell ⟨g, 2, none⟩ v1) g vc cs Aw cw ws v1 ts1 := by
 have hne : some g ≠ vt.ownBlock := fun e => by
  obtain ⟨cells, hc⟩ := own_typed h.taken g e.symm
  rw [h.blk] at hc
  injection hc with hc
  injection hc with _ h2
  exact absurd h2 (by decide)
 have hb1 : w1.heap[g]? = _ := blk_grown h.blk hg hne
 have hne1 : some g ≠ v1.ownBlock := fun e => by
  obtain ⟨cells, hc⟩ := own_typed ho g e.symm
  rw [hb1] at hc
  injection hc with hc
  injection hc with _ h2
  exact absurd h2 (by decide)
 have hnc : some g ≠ vc.ownBlock := fun e => by
  obtain ⟨cells, hc⟩ := own_typed h.coils g e.symm
  rw [h.blk] at hc
  injection hc with hc
  injection hc with _ h2
  exact absurd h2 (by decide)
 refine ⟨blk_set hb1 2 v1, own_setCell (own_other h.coils hg (own_type_ne h.coils h.taken (by decide))) hnc _, own_setCell ho hne1 _, h.wants, hB.setCell h.ge _, h.ge⟩
end
/-- The state of the search and the piece that is cut next, at block B. -/
structure WB (w0 w W : World) (g B : Nat) (vc : Value) (cs : List S45) (Aw : Option Addr) (cw : Nat) (ws : List S55) (vt : Value) (ts : List Int) (x : S55) : Prop where
 inv : WInv w0 W g vc cs Aw cw ws vt ts
 box : W.heap[B]? = some (.cells #[.string x.f0, .int .i64 x.f1] 55 (0, 0))
 keep : KeepsT [96, 45, 2] w W
section
variable {w0 w W : World} {g B : Nat} {vc : Value} {cs : List S45} {Aw : Option Addr} {cw : Nat} {ws : List S55} {vt : Value} {ts : List Int} {x : S55}
theorem WB.drew (h : WB w0 w W g B vc cs Aw cw ws vt ts x) : WB w0 w W.drew g B vc cs Aw cw ws vt ts x := ⟨h.inv.drew, h.box, h.keep⟩
theorem WB.drewN (h : WB w0 w W g B vc cs Aw cw ws vt ts x) (n : Nat) : WB w0 w (W.drewN n) g B vc cs Aw cw ws vt ts x := ⟨h.inv.drewN n, h.box, h.keep⟩
theorem WB.x0 (h : WB w0 w W g B vc cs Aw cw ws vt ts x) : W.cell? ⟨B, 0, none⟩ = some (.string x.f0) := (blk_cell h.box 0).trans rfl
theorem WB.x1 (h : WB w0 w W g B vc cs Aw cw ws vt ts x) : W.cell? ⟨B, 1, none⟩ = some (.int .i64 x.f1) := (blk_cell h.box 1).trans rfl
theorem WB.left {gc c : Nat} (h : WB w0 w W g B (.slice (some ⟨gc, 0, none⟩) cs.length c) cs Aw cw ws vt ts x) (k : Nat) (hk : k < cs.length) (v : Int) {cs' : List S45} (hcs : cs' = cs.set k ⟨(rd_T45 cs (k : Int)).f0, v⟩) :
  WB w0 w (W.setCell ⟨gc, k * 2 + 1, none⟩ (.int .i64 v)) g B (.slice (some ⟨gc, 0, none⟩) cs.length c) cs' Aw cw ws vt ts x := by
 subst hcs
 obtain ⟨cells, hc⟩ := own_typed h.inv.coils gc rfl
 exact ⟨h.inv.left k hk v, ((KeepsT.refl [96, 45, 2] W).set hc (by decide) (k * 2 + 1) (.int .i64 v)) B _ 55 (by decide) h.box, h.keep.set hc (by decide) _ _⟩
theorem WB.left2 {gc c n : Nat} (h : WB w0 w W g B (.slice (some ⟨gc, 0, none⟩) n c) cs Aw cw ws vt ts x) (hn : cs.length = n) (k : Nat) (hk : k < n) (v : Int) :
  WB w0 w (W.setCell ⟨gc, k * 2 + 1, none⟩ (.int .i64 v)) g B (.slice (some ⟨gc, 0, none⟩) n c) (cs.set k ⟨(rd_T45 cs (k : Int)).f0, v⟩) Aw cw ws vt ts x := by
 subst hn
 exact h.left k hk v rfl
theorem WB.put {w1 : World} {v1 : Value} {ts1 : List Int} (h : WB w0 w W g B vc cs Aw cw ws vt ts x) (ho : w1.ownsRow w0.heap.size 2 1 v1 ts1.length (nums .i64 ts1)) (hB : Below w0.heap.size w0 w1) (hg : W.grownBy w1 vt.ownBlock) :
  WB w0 w (w1.setCell ⟨g, 2, none⟩ v1) g B vc cs Aw cw ws v1 ts1 x := by
 have hi := h.inv.put ho hB hg
 have k1 : KeepsT [96, 45, 2] W w1 := (KeepsT.refl _ W).grown h.inv.taken (by decide) hg
 have hne : some g ≠ vt.ownBlock := fun e => by
  obtain ⟨cells, hc⟩ := own_typed h.inv.taken g e.symm
  rw [h.inv.blk] at hc
  injection hc with hc
  injection hc with _ h2
  exact absurd h2 (by decide)
 have k2 : KeepsT [96, 45, 2] W (w1.setCell ⟨g, 2, none⟩ v1) := k1.set (blk_grown h.inv.blk hg hne) (by decide) _ _
 exact ⟨hi, k2 B _ 55 (by decide) h.box, h.keep.trans k2⟩
end
theorem own_cap {w : World} {base n m c : Nat} {e : TypeId} {size : Nat} {A : Option Addr} {xs : List Value} (h : w.ownsRow base e size (.slice A n c) m xs) : n ≤ c := by
 rcases h.2 with ⟨h1, h0⟩ | ⟨g, cap, cur, h1, hb, hh, hn, hc, hs, ht⟩
 ·injection h1 with _ h1 h3
  omega
 ·injection h1 with _ h1 h3
  omega
theorem WInv.keptG {w0 w w1 : World} {g : Nat} {vc : Value} {cs : List S45} {Aw : Option Addr} {cw : Nat} {ws : List S55} {vt : Value} {ts : List Int} (h : WInv w0 w g vc cs Aw cw ws vt ts) (hg : w.grownBy w1 vt.ownBlock) : w1.heap[g]? = some (.cells #[vc, .slice Aw ws.length cw, vt] 96 (0, 0)) := by
 have hne : some g ≠ vt.ownBlock := fun e => by
  obtain ⟨cells, hc⟩ := own_typed h.taken g e.symm
  rw [h.blk] at hc
  injection hc with hc
  injection hc with _ h2
  exact absurd h2 (by decide)
 exact blk_grown h.blk hg hne
theorem WB.trunc {w0 w W : World} {g B : Nat} {vc : Value} {cs : List S45} {Aw : Option Addr} {cw : Nat} {ws : List S55} {A : Option Addr} {k : Int} {n : Nat} {ts : List Int} {x : S55} (h : WB w0 w W g B vc cs Aw cw ws (.slice A (ts ++ [k]).length n) (ts ++ [k]) x) :
  WB w0 w (W.setCell ⟨g, 2, none⟩ (.slice A ts.length n)) g B vc cs Aw cw ws (.slice A ts.length n) ts x := by
 have ht := hand_take (m := ts.length) h.inv.taken (by simp)
 rw [show (nums .i64 (ts ++ [k])).take (ts.length * 1) = nums .i64 ts by rw [nums_append, Nat.mul_one, List.take_left' (nums_length _ _)]] at ht
 exact h.put ht h.inv.below (World.grownBy.refl _ _)
def WPost (w0 w : World) (g : Nat) (vc : Value) (cs : List S45) (Aw : Option Addr) (cw : Nat) (ws : List S55) (ts : List Int) (e : Ending) (w' : World) : Prop :=
 KeepsT [96, 45, 2] w w' ∧ match wayC (ws.drop ts.length) cs with
 | none => e = .returned (.bool false) ∧ ∃ vt', WInv w0 w' g vc cs Aw cw ws vt' ts
 | some r => e = .returned (.bool true) ∧ ∃ cs' vt', WInv w0 w' g vc cs' Aw cw ws vt' (ts ++ r)

set_option maxHeartbeats 4000000 in
theorem walk_last (w0 w : World) (g : Nat) (vc : Value) (cs : List S45) (Aw : Option Addr) (cw : Nat) (ws : List S55) (vt : Value) (ts : List Int) (h : WInv w0 w g vc cs Aw cw ws vt ts) (he : ts.length = ws.length) :
  Calls Try.prog 82 #[.pointer (some ⟨g, 0, none⟩)] w (WPost w0 w g vc cs Aw cw ws ts) := by
 have HI := Aside0.mk h
 have c0 : w.cell? ⟨g, 0, none⟩ = some vc := (blk_cell h.blk 0).trans rfl
 have c1 : w.cell? ⟨g, 1, none⟩ = some (.slice Aw ws.length cw) := (blk_cell h.blk 1).trans rfl
 have c2 : w.cell? ⟨g, 2, none⟩ = some vt := (blk_cell h.blk 2).trans rfl
 obtain ⟨At, ct, rfl⟩ := own_slice h.taken
 have hb : ((ts.length : Int) == (ws.length : Int)) = true := by simp [he]
 have HP : Aside0 (WPost w0 w g vc cs Aw cw ws ts (.returned (.bool true)) w) := ⟨by
  unfold WPost
  rw [he, List.drop_length, wayC]
  exact ⟨KeepsT.refl _ _, rfl, cs, _, by simpa using h⟩⟩
 clear h he
 go_enter Try.func82, Try.ntmps82
 go_wp2_with fail
 go_ret
 exact HP.out

/-- The numbers stay small. -/
def smallC (cs : List S45) : Prop := ∀ c ∈ cs, 0 ≤ c.f1 ∧ c.f1 ≤ 100000
def smallW (ws : List S55) : Prop := ∀ x ∈ ws, 0 ≤ x.f1 ∧ x.f1 ≤ 100000
theorem rd45_mem (cs : List S45) (k : Nat) (h : k < cs.length) : rd_T45 cs (k : Int) ∈ cs := by
 unfold rd_T45
 rw [Int.toNat_natCast, List.getD_eq_getElem?_getD, List.getElem?_eq_getElem h]
 exact List.getElem_mem h
theorem rd55_mem (cs : List S55) (k : Nat) (h : k < cs.length) : rd_T55 cs (k : Int) ∈ cs := by
 unfold rd_T55
 rw [Int.toNat_natCast, List.getD_eq_getElem?_getD, List.getElem?_eq_getElem h]
 exact List.getElem_mem h

theorem range'_cons (k n : Nat) (h : 0 < n) : List.range' k n = k :: List.range' (k + 1) (n - 1) := by
 obtain ⟨m, rfl⟩ : ∃ m, n = m + 1 := ⟨n - 1, by omega⟩
 rfl
theorem wayC_eq (x : S55) (ws : List S55) (cs : List S45) : wayC (x :: ws) cs = wayFrom x ws cs 0 := by
 rw [wayC, wayFrom, List.range_eq_range']; rfl
theorem wayFrom_end (x : S55) (ws : List S55) (cs : List S45) (k : Nat) (h : cs.length ≤ k) : wayFrom x ws cs k = none := by
 rw [wayFrom, Nat.sub_eq_zero_of_le h]; rfl
theorem wayFrom_no (x : S55) (ws : List S55) (cs : List S45) (k : Nat) (h : k < cs.length) (hf : fitsC (rd_T45 cs (k : Int)) x = false) : wayFrom x ws cs k = wayFrom x ws cs (k + 1) := by
 unfold wayFrom
 rw [range'_cons _ _ (by omega), List.findSome?_cons, if_neg (by simp [hf]), Nat.sub_sub]
theorem wayFrom_none (x : S55) (ws : List S55) (cs : List S45) (k : Nat) (h : k < cs.length) (hf : wayC ws (cutAt cs k x.f1) = none) : wayFrom x ws cs k = wayFrom x ws cs (k + 1) := by
 unfold wayFrom
 rw [range'_cons _ _ (by omega), List.findSome?_cons, hf, Nat.sub_sub]
 simp
theorem wayFrom_some (x : S55) (ws : List S55) (cs : List S45) (k : Nat) (h : k < cs.length) (hf : fitsC (rd_T45 cs (k : Int)) x = true) {r : List Int} (hr : wayC ws (cutAt cs k x.f1) = some r) : wayFrom x ws cs k = some ((k : Int) :: r) := by
 unfold wayFrom
 rw [range'_cons _ _ (by omega), List.findSome?_cons, if_pos hf, hr]
 rfl
theorem drop_rd55 (ws : List S55) (n : Nat) (h : n < ws.length) : ws.drop n = rd_T55 ws (n : Int) :: ws.drop (n + 1) := by
 rw [List.drop_eq_getElem_cons h]
 unfold rd_T55
 rw [Int.toNat_natCast, List.getD_eq_getElem?_getD, List.getElem?_eq_getElem h]
 rfl
theorem cut_back (cs : List S45) (k : Nat) (h : k < cs.length) (v : Int) : (cs.set k ⟨(rd_T45 cs (k : Int)).f0, v⟩).set k ⟨(rd_T45 (cs.set k ⟨(rd_T45 cs (k : Int)).f0, v⟩) (k : Int)).f0, (rd_T45 cs (k : Int)).f1⟩ = cs := by
 rw [List.set_set]
 have e : rd_T45 (cs.set k ⟨(rd_T45 cs (k : Int)).f0, v⟩) (k : Int) = ⟨(rd_T45 cs (k : Int)).f0, v⟩ := by
  unfold rd_T45
  rw [Int.toNat_natCast, List.getD_eq_getElem?_getD, List.getElem?_set_self h]
  rfl
 rw [e]
 have e2 : (⟨(rd_T45 cs (k : Int)).f0, (rd_T45 cs (k : Int)).f1⟩ : S45) = cs[k] := by
  unfold rd_T45
  rw [Int.toNat_natCast, List.getD_eq_getElem?_getD, List.getElem?_eq_getElem h]
  rfl
 rw [e2, List.set_getElem_self]
theorem rd45_set (cs : List S45) (k : Nat) (h : k < cs.length) (z : S45) : rd_T45 (cs.set k z) (k : Int) = z := by
 unfold rd_T45
 rw [Int.toNat_natCast, List.getD_eq_getElem?_getD, List.getElem?_set_self h]
 rfl

set_option maxRecDepth 100000 in
set_option maxHeartbeats 8000000 in
theorem walk_calls (w0 : World) (g : Nat) (Aw : Option Addr) (cw : Nat) (ws : List S55) (hsw : smallW ws) (hnw : ws.length ≤ 7) (m : Nat) : ∀ (w : World) (vc : Value) (cs : List S45) (vt : Value) (ts : List Int), WInv w0 w g vc cs Aw cw ws vt ts → ts.length + m = ws.length → smallC cs → cs.length ≤ 7 →
  Calls Try.prog 82 #[.pointer (some ⟨g, 0, none⟩)] w (WPost w0 w g vc cs Aw cw ws ts) := by
 induction m with
 | zero => intro w vc cs vt ts h he _ _; exact walk_last w0 w g vc cs Aw cw ws vt ts h (by omega)
 | succ m ih =>
  intro w vc cs vt ts h he hsc hnc
  obtain ⟨At, ct, rfl⟩ := own_slice h.taken
  obtain ⟨Ac, cc, rfl⟩ := own_slice h.coils
  have HI := Aside0.mk h
  have c0 : w.cell? ⟨g, 0, none⟩ = some (.slice Ac cs.length cc) := (blk_cell h.blk 0).trans rfl
  have c1 : w.cell? ⟨g, 1, none⟩ = some (.slice Aw ws.length cw) := (blk_cell h.blk 1).trans rfl
  have c2 : w.cell? ⟨g, 2, none⟩ = some (.slice At ts.length ct) := (blk_cell h.blk 2).trans rfl
  have hb : ((ts.length : Int) == (ws.length : Int)) = false := by simp; omega
  obtain ⟨ax, eAw, hx0, hx1⟩ := at_T55 (Kd.C_below h.wants h.below) (ts.length : Int) (by omega) (by omega)
  cases eAw
  obtain ⟨x, ex⟩ : ∃ x, x = rd_T55 ws (ts.length : Int) := ⟨_, rfl⟩
  rw [← ex] at hx0 hx1
  have EX := Aside0.mk ex
  have HE := Aside0.mk he
  obtain ⟨i2, hi2, _, _, _⟩ := info_parts info2'
  have p0 : (0 : Int) ≤ (ts.length : Int) := by omega
  have q0 : (ts.length : Int) < (ws.length : Int) := by omega
  rw [Int.toNat_natCast] at hx0 hx1
  clear h he ex
  go_enter Try.func82, Try.ntmps82
  go_wp2_with fail
  have HB0 : Aside0 (WB w0 w (w.alloc (.cells #[.string x.f0, .int .i64 x.f1] 55)) g w.heap.size (.slice Ac cs.length cc) cs (some ax) cw ws (.slice At ts.length ct) ts x) := ⟨⟨HI.out.alloc _, heap_alloc_new w _, (KeepsT.refl _ _).alloc _⟩⟩
  have HW0 : Aside0 (wayC (ws.drop ts.length) cs = wayFrom x (ws.drop (ts.length + 1)) cs 0) := ⟨by
   rw [drop_rd55 ws ts.length (by have := HE.out; omega), ← EX.out, wayC_eq]⟩
  have hbx : g ≠ w.heap.size := by have := blk_lt HI.out.blk; omega
  obtain ⟨B, eB⟩ : ∃ B, B = w.heap.size := ⟨_, rfl⟩
  rw [← eB] at HB0 hbx ⊢
  generalize w.alloc (.cells #[.string x.f0, .int .i64 x.f1] 55) = w1 at HB0 ⊢
  have EB := Aside0.mk eB
  clear c0 c1 c2 hx0 hx1 hb eB
  go_loopg [5] cs.length (fun gg v5 wr => ∃ k : Nat, v5 = .int .i64 (k : Int) ∧ Aside0 (k ≤ cs.length ∧ cs.length - k ≤ gg) ∧ Aside0 (wayC (ws.drop ts.length) cs = wayFrom x (ws.drop (ts.length + 1)) cs k) ∧ Aside0 (∃ At' ct', WB w0 w wr g B (.slice Ac cs.length cc) cs (some ax) cw ws (.slice At' ts.length ct') ts x))
  case atStart => exact ⟨0, rfl, ⟨Nat.zero_le _, by omega⟩, HW0, ⟨_, _, HB0.out⟩⟩
  case round =>
   clear HB0 HW0
   obtain ⟨k, rfl, HJ, HW, HI'⟩ := hrel
   obtain ⟨At', ct', hI⟩ := HI'.out
   clear HI'
   have HI' := Aside0.mk hI
   have c0 := hI.inv.c0
   have c1 := hI.inv.c1
   have c2 := hI.inv.c2
   have x0 := hI.x0
   have x1 := hI.x1
   by_cases hlt : k < cs.length
   ·obtain ⟨gc, cc', evc, hgcge, hgclt⟩ := hI.inv.coils.form (by omega)
    simp only [Value.slice.injEq, true_and] at evc
    obtain ⟨rfl, rfl⟩ := evc
    have k0 := hI.inv.k0 k hlt
    have k1 := hI.inv.k1 k hlt
    obtain ⟨c, ec⟩ : ∃ c, c = rd_T45 cs (k : Int) := ⟨_, rfl⟩
    rw [← ec] at k0 k1
    have hcb := hsc _ (rd45_mem cs k hlt)
    rw [← ec] at hcb
    have EC := Aside0.mk ec
    clear ec hI
    have hxb := hsw _ (rd55_mem ws ts.length (by have := HE.out; omega))
    rw [← EX.out] at hxb
    obtain ⟨hc0, hc1⟩ := hcb
    obtain ⟨hx0, hx1⟩ := hxb
    have hltb : decide (k < cs.length) = true := decide_eq_true hlt
    by_cases hq : (c.f0.toList == x.f0.toList) = true
    ·have hqn : (c.f0.toList != x.f0.toList) = false := by simp [bne, hq]
     by_cases hl : c.f1 < x.f1
     ·have hlb : decide (c.f1 < x.f1) = true := decide_eq_true hl
      have HN : Aside0 (wayC (ws.drop ts.length) cs = wayFrom x (ws.drop (ts.length + 1)) cs (k + 1)) := ⟨HW.out.trans (wayFrom_no _ _ _ _ hlt (by rw [← EC.out]; simp [fitsC]; omega))⟩
      go_wp2_with fail
      go_quiet (fail)
      go_wp2_with fail
      go_roundg (cs.length - (k + 1))
      case measure => have := HJ.out; omega
      case rel => exact ⟨k + 1, by go_num, ⟨by omega, by omega⟩, HN, ⟨_, _, HI'.out.drewN _⟩⟩
     ·have hlb : decide (c.f1 < x.f1) = false := decide_eq_false hl
      have HF : Aside0 (fitsC (rd_T45 cs (k : Int)) x = true) := ⟨by rw [← EC.out]; simp only [fitsC, Bool.and_eq_true, decide_eq_true_eq]; exact ⟨hq, by omega⟩⟩
      have HC : Aside0 (cutAt cs k x.f1 = cs.set k ⟨(rd_T45 cs (k : Int)).f0, c.f1 - x.f1⟩) := ⟨by rw [EC.out]; rfl⟩
      have hdr : ws.drop (ts ++ [(k : Int)]).length = ws.drop (ts.length + 1) := by rw [List.length_append]; rfl
      have HSC : Aside0 (smallC (cutAt cs k x.f1)) := ⟨by
       rw [HC.out]
       intro z hz
       rcases List.mem_or_eq_of_mem_set hz with hz | rfl
       ·exact hsc z hz
       ·exact ⟨by show 0 ≤ c.f1 - x.f1; omega, by show c.f1 - x.f1 ≤ 100000; omega⟩⟩
      have HLC : Aside0 ((cutAt cs k x.f1).length = cs.length) := ⟨by rw [HC.out, List.length_set]⟩
      obtain ⟨q, hway⟩ : ∃ q, q = wayC (ws.drop (ts.length + 1)) (cutAt cs k x.f1) := ⟨_, rfl⟩
      have HQ := Aside0.mk hway.symm
      have HD := Aside0.mk hdr
      clear hway hdr
      cases q with
      | none =>
       go_wp2_with fail
       go_quiet (fail)
       go_wp2_with fail
       refine hand_tail 11 (fun W => WB w0 w W g B (.slice (some ⟨gc, 0, none⟩) cs.length cc) cs (some ax) cw ws (.slice At' ts.length ct') ts x) (by kernel_rfl) (by kernel_rfl) (HI'.out.drewN _).drew ?_
       clear c0 c1 c2 x0 x1 k0 k1 HI'
       rintro W hI
       have c0 := hI.inv.c0
       have x1 := hI.x1
       have k1 := hI.inv.k1 k hlt
       rw [← EC.out] at k1
       have f1 := hI.inv.coils.frozenAt (k * 2 + 1)
       have HI' := Aside0.mk (hI.left k hlt (c.f1 - x.f1) HC.out)
       clear hI
       have hw1 : IntKind.i64.wrap (c.f1 - x.f1) = c.f1 - x.f1 := IntWalk.i64_in _ (by omega)
       simp only [List.take_succ_cons, List.take_zero, List.drop_succ_cons, List.drop_zero]
       repeat still_step
       refine wpStill_nil ?_
       go_wp2_with (first
        | (refine hand_store (fun w' => WB w0 w w' g B (.slice (some ⟨gc, 0, none⟩) cs.length cc) (cutAt cs k x.f1) (some ax) cw ws (.slice At' ts.length ct') ts x) (t := 2) (p := 70) (v := .tmp 68) (w1 := W.setCell ⟨gc, k * 2 + 1, none⟩ (.int .i64 (c.f1 - x.f1))) ?hg rfl ?hN ?hr ?hF ?_; (case hg => rfl); (case hN => rfl); (case hr => first | (go_simp; done) | (go_simp; rfl)); (case hF => exact HI'.out); clear c0 x1 k1 f1 hw1 HI'; rintro W1 hI; have c2 := hI.inv.c2; have HI' := Aside0.mk hI; clear hI)
        | (at_builtin; refine print_append_num (w0 := w0) w0.heap.size rfl (.tmp 75) (.tmp 77) 66 2 .i64 8 rfl Try.underlying66 info2' (by decide) (.slice At' ts.length ct') ts (k : Int) rfl rfl HI'.out.inv.taken HI'.out.inv.below HI'.out.inv.below.size (by omega) ?_; intro v2 W2 hown hbel hgr _; obtain ⟨A2, n2, e2⟩ := own_slice hown; rw [e2]; rw [e2] at hown; have HI2 := Aside0.mk (HI'.out.put hown hbel hgr); have b2 := HI'.out.inv.keptG hgr; have d2 := (blk_cell b2 2).trans rfl; have f2 := blk_frozen b2 2; clear e2 hown hbel hgr b2 c2 HI')
        | (refine hand_store (fun w' => WB w0 w w' g B (.slice (some ⟨gc, 0, none⟩) cs.length cc) (cutAt cs k x.f1) (some ax) cw ws (.slice A2 (ts ++ [(k : Int)]).length n2) (ts ++ [(k : Int)]) x) (t := 66) (p := 80) (v := .tmp 78) (w1 := W2.setCell ⟨g, 2, none⟩ (.slice A2 (ts ++ [(k : Int)]).length n2)) ?hg2 rfl ?hN2 ?hr2 ?hF2 ?_; (case hg2 => rfl); (case hN2 => rfl); (case hr2 => first | (go_simp; done) | (go_simp; rfl)); (case hF2 => exact HI2.out); clear d2 f2 HI2; rintro W3 hI; have HI3 := Aside0.mk hI; clear hI)
        | (go_at_call 82; refine (ih W3 _ (cutAt cs k x.f1) _ (ts ++ [(k : Int)]) HI3.out.inv (by rw [List.length_append]; show ts.length + 1 + m = _; have := HE.out; omega) HSC.out (by rw [HLC.out]; exact hnc)).mono ?_; intro e W4 hp; unfold WPost at hp; rw [HD.out, HQ.out] at hp; obtain ⟨hk4, rfl, vt4, hI4⟩ := hp; obtain ⟨A4, n4, e4⟩ := own_slice hI4.taken; rw [e4] at hI4; clear e4; have hle4 := (own_cap hI4.taken); have hle5 : ts.length ≤ n4 := (by rw [List.length_append] at hle4; exact Nat.le_trans (Nat.le_add_right _ _) hle4); have c2 := hI4.c2; have f2 := hI4.fr 2; have HI4 := Aside0.mk (WB.mk hI4 (hk4 _ _ 55 (by decide) HI3.out.box) (HI3.out.keep.trans hk4)); clear hI4 hk4 hle4 HI3)
        | (refine hand_store (fun w' => WB w0 w w' g B (.slice (some ⟨gc, 0, none⟩) cs.length cc) (cutAt cs k x.f1) (some ax) cw ws (.slice A4 ts.length n4) ts x) (t := 66) (p := 91) (v := .tmp 89) (w1 := W4.setCell ⟨g, 2, none⟩ (.slice A4 ts.length n4)) ?hg3 rfl ?hN3 ?hr3 ?hF3 ?_; (case hg3 => rfl); (case hN3 => rfl); (case hr3 => first | (go_simp; done) | (go_simp; rfl)); (case hF3 => exact HI4.out.trunc); clear c2 f2 hle5 HI4; rintro W5 hI; have HI5 := Aside0.mk hI; clear hI))
       refine hand_tail 11 (fun W => WB w0 w W g B (.slice (some ⟨gc, 0, none⟩) cs.length cc) (cutAt cs k x.f1) (some ax) cw ws (.slice A4 ts.length n4) ts x) (by kernel_rfl) (by kernel_rfl) HI5.out.drew ?_
       rintro W hI
       have c0 := hI.inv.c0
       have x1 := hI.x1
       have hlt2 : k < (cutAt cs k x.f1).length := by rw [HLC.out]; exact hlt
       have k1 := hI.inv.coils
       rw [← HLC.out] at k1
       replace k1 := (k1.cellAt (k * 2 + 1) (by omega)).trans (cellsC_get _ k hlt2).2
       have f1 := hI.inv.coils
       rw [← HLC.out] at f1
       replace f1 := f1.frozenAt (k * 2 + 1)
       have he1 : (rd_T45 (cutAt cs k x.f1) (k : Int)).f1 = c.f1 - x.f1 := by rw [HC.out, rd45_set _ _ hlt]
       rw [he1] at k1
       have HI' := Aside0.mk (hI.left2 HLC.out k hlt c.f1)
       have HBK : Aside0 ((cutAt cs k x.f1).set k ⟨(rd_T45 (cutAt cs k x.f1) (k : Int)).f0, c.f1⟩ = cs) := ⟨by
        rw [HC.out, EC.out]; exact cut_back cs k hlt _⟩
       clear hI he1 hlt2
       have hw1 : IntKind.i64.wrap c.f1 = c.f1 := IntWalk.i64_in _ (by omega)
       simp only [List.take_succ_cons, List.take_zero, List.drop_succ_cons, List.drop_zero]
       repeat still_step
       refine wpStill_nil ?_
       go_wp2_with (refine hand_store (fun w' => WB w0 w w' g B (.slice (some ⟨gc, 0, none⟩) cs.length cc) cs (some ax) cw ws (.slice A4 ts.length n4) ts x) (t := 2) (p := 104) (v := .tmp 102) (w1 := W.setCell ⟨gc, k * 2 + 1, none⟩ (.int .i64 c.f1)) ?hg5 rfl ?hN5 ?hr5 ?hF5 ?_; (case hg5 => rfl); (case hN5 => rfl); (case hr5 => first | (go_simp; done) | (go_simp; rfl)); (case hF5 => have hh := HI'.out; rw [HBK.out] at hh; exact hh); clear c0 x1 k1 f1 hw1 HI'; rintro W6 hI; have HI6 := Aside0.mk hI; clear hI)
       go_roundg (cs.length - (k + 1))
       case measure => have := HJ.out; omega
       case rel => exact ⟨k + 1, by go_num, ⟨by omega, by omega⟩, ⟨HW.out.trans (wayFrom_none _ _ _ _ hlt HQ.out)⟩, ⟨_, _, HI6.out⟩⟩
      | some r =>
       go_wp2_with fail
       go_quiet (fail)
       go_wp2_with fail
       refine hand_tail 11 (fun W => WB w0 w W g B (.slice (some ⟨gc, 0, none⟩) cs.length cc) cs (some ax) cw ws (.slice At' ts.length ct') ts x) (by kernel_rfl) (by kernel_rfl) (HI'.out.drewN _).drew ?_
       clear c0 c1 c2 x0 x1 k0 k1 HI'
       rintro W hI
       have c0 := hI.inv.c0
       have x1 := hI.x1
       have k1 := hI.inv.k1 k hlt
       rw [← EC.out] at k1
       have f1 := hI.inv.coils.frozenAt (k * 2 + 1)
       have HI' := Aside0.mk (hI.left k hlt (c.f1 - x.f1) HC.out)
       clear hI
       have hw1 : IntKind.i64.wrap (c.f1 - x.f1) = c.f1 - x.f1 := IntWalk.i64_in _ (by omega)
       simp only [List.take_succ_cons, List.take_zero, List.drop_succ_cons, List.drop_zero]
       repeat still_step
       refine wpStill_nil ?_
       go_wp2_with (first
        | (refine hand_store (fun w' => WB w0 w w' g B (.slice (some ⟨gc, 0, none⟩) cs.length cc) (cutAt cs k x.f1) (some ax) cw ws (.slice At' ts.length ct') ts x) (t := 2) (p := 70) (v := .tmp 68) (w1 := W.setCell ⟨gc, k * 2 + 1, none⟩ (.int .i64 (c.f1 - x.f1))) ?hg rfl ?hN ?hr ?hF ?_; (case hg => rfl); (case hN => rfl); (case hr => first | (go_simp; done) | (go_simp; rfl)); (case hF => exact HI'.out); clear c0 x1 k1 f1 hw1 HI'; rintro W1 hI; have c2 := hI.inv.c2; have HI' := Aside0.mk hI; clear hI)
        | (at_builtin; refine print_append_num (w0 := w0) w0.heap.size rfl (.tmp 75) (.tmp 77) 66 2 .i64 8 rfl Try.underlying66 info2' (by decide) (.slice At' ts.length ct') ts (k : Int) rfl rfl HI'.out.inv.taken HI'.out.inv.below HI'.out.inv.below.size (by omega) ?_; intro v2 W2 hown hbel hgr _; obtain ⟨A2, n2, e2⟩ := own_slice hown; rw [e2]; rw [e2] at hown; have HI2 := Aside0.mk (HI'.out.put hown hbel hgr); have b2 := HI'.out.inv.keptG hgr; have d2 := (blk_cell b2 2).trans rfl; have f2 := blk_frozen b2 2; clear e2 hown hbel hgr b2 c2 HI')
        | (refine hand_store (fun w' => WB w0 w w' g B (.slice (some ⟨gc, 0, none⟩) cs.length cc) (cutAt cs k x.f1) (some ax) cw ws (.slice A2 (ts ++ [(k : Int)]).length n2) (ts ++ [(k : Int)]) x) (t := 66) (p := 80) (v := .tmp 78) (w1 := W2.setCell ⟨g, 2, none⟩ (.slice A2 (ts ++ [(k : Int)]).length n2)) ?hg2 rfl ?hN2 ?hr2 ?hF2 ?_; (case hg2 => rfl); (case hN2 => rfl); (case hr2 => first | (go_simp; done) | (go_simp; rfl)); (case hF2 => exact HI2.out); clear d2 f2 HI2; rintro W3 hI; have HI3 := Aside0.mk hI; clear hI)
        | (go_at_call 82; refine (ih W3 _ (cutAt cs k x.f1) _ (ts ++ [(k : Int)]) HI3.out.inv (by rw [List.length_append]; show ts.length + 1 + m = _; have := HE.out; omega) HSC.out (by rw [HLC.out]; exact hnc)).mono ?_; intro e W4 hp; unfold WPost at hp; rw [HD.out, HQ.out] at hp; obtain ⟨hk4, rfl, cs4, vt4, hI4⟩ := hp; have HP : Aside0 (WPost w0 w g (.slice (some ⟨gc, 0, none⟩) cs.length cc) cs (some ax) cw ws ts (.returned (.bool true)) W4) := ⟨by { unfold WPost; rw [HW.out, wayFrom_some _ _ _ _ hlt HF.out HQ.out]; exact ⟨HI3.out.keep.trans hk4, rfl, cs4, vt4, by rw [List.append_assoc] at hI4; exact hI4⟩ }⟩; clear hI4 hk4 HI3))
       go_ret
       exact HP.out
    ·replace hq : (c.f0.toList == x.f0.toList) = false := by simpa using hq
     have hqn : (c.f0.toList != x.f0.toList) = true := by simp [bne, hq]
     have HN : Aside0 (wayC (ws.drop ts.length) cs = wayFrom x (ws.drop (ts.length + 1)) cs (k + 1)) := ⟨HW.out.trans (wayFrom_no _ _ _ _ hlt (by rw [← EC.out]; simp [fitsC, hq]))⟩
     go_wp2_with fail
     go_quiet (fail)
     go_wp2_with fail
     go_roundg (cs.length - (k + 1))
     case measure => have := HJ.out; omega
     case rel => exact ⟨k + 1, by go_num, ⟨by omega, by omega⟩, HN, ⟨_, _, HI'.out.drewN _⟩⟩
   ·have hltb : decide (k < cs.length) = false := decide_eq_false hlt
    have HP : Aside0 (WPost w0 w g (.slice Ac cs.length cc) cs (some ax) cw ws ts (.returned (.bool false)) wr) := ⟨by
     unfold WPost
     rw [HW.out, wayFrom_end _ _ _ _ (by omega)]
     exact ⟨HI'.out.keep, rfl, _, HI'.out.inv⟩⟩
    clear hI
    go_wp2_with fail
    go_ret
    exact HP.out
def fewC (cs : List S45) (ws : List S55) : Prop := cs.length ≤ 7 ∧ ws.length ≤ 7 ∧ (∀ c ∈ cs, 0 ≤ c.f1 ∧ c.f1 ≤ 100000) ∧ ∀ x ∈ ws, 0 ≤ x.f1 ∧ x.f1 ≤ 100000
instance (cs : List S45) (ws : List S55) : Decidable (fewC cs ws) := by unfold fewC; infer_instance
def spec_l23Way.f (l0 : List S45) (l1 : List S55) : Option (List Int × Bool) := if fewC l0 l1 then some (match wayC l1 l0 with | none => ([], false) | some r => (r, true)) else none
theorem cells_of_R {w : World} {base : Nat} {ok : Nat → Prop} {v : Value} {cs : List S45} (h : k45.R 45 w base ok v cs) : w.ownsRow base 45 2 v cs.length (cellsC cs) := own_of_R (d := k45) (fun c => [.string c.f0, .int .i64 c.f1]) (fun h => k45_openM h) h
set_option maxHeartbeats 4000000 in
theorem spec_l23Way.calls (A0 : Option Addr) (c0 : Nat) (l0 : List S45) (A1 : Option Addr) (c1 : Nat) (l1 : List S55) (r1 : List Int) (r2 : Bool) (w : World) (hr0 : Kd.C k45 w A0 l0.length l0) (hc0 : l0.length ≤ c0) (hr1 : Kd.C k55 w A1 l1.length l1) (hc1 : l1.length ≤ c1) (h : spec_l23Way.f l0 l1 = some (r1, r2)) :
  Calls Try.prog 76 #[.slice A0 l0.length c0, .slice A1 l1.length c1] w fun e w' => ∃ v0_ : Value, e = .returned (.tuple #[v0_, .bool r2]) ∧ Kd.R (Kd.int .i64) 2 w' w.heap.size (fun _ => True) v0_ r1 ∧ Below w.heap.size w w' := by
 unfold spec_l23Way.f at h
 by_cases hf : fewC l0 l1
 ·rw [if_pos hf] at h
  have HR0 := Aside0.mk hr0
  have HR1 := Aside0.mk hr1
  have HH := Aside0.mk h
  clear h hr0 hr1
  have HF := Aside0.mk hf
  clear hf
  obtain ⟨q, hq⟩ : ∃ q, wayC l1 l0 = q := ⟨_, rfl⟩
  have HQ := Aside0.mk hq
  clear hq
  cases q with
  | none =>
   go_enter Try.func76, Try.ntmps76
   go_wp2_with (first
    | ((with_reducible refine gate_dst (N := 7) rfl ?_); refine Kd.R_lit k45 w.heap.size 45 ?hg (w0 := w) (N := 7) ?hd (xs := ([] : List S45)) (inner := []) (ok := fun _ => True) (okp := fun _ => True) ?hr ?hp (fun _ hk => hk) trivial (Below.refl _ _) (Nat.le_refl _) (by simp) ?_; (case hd => rfl); (case hg => rfl); (case hr => first | (go_simp; done) | (go_simp; rfl)); (case hp => exact (Reps.none _ _)); intro v1 w1 ho1 hb1 _ _; have HO1 := Aside0.mk ho1; have HB1 := Aside0.mk hb1; clear ho1 hb1)
    | ((with_reducible refine gate_builtin (b := .append) (xs := #[.tmp 7, .tmp 8]) rfl ?_); at_builtin; refine Kd.R_append_rows k45 (w0 := w) w.heap.size rfl (.tmp 7) (.tmp 8) 25 45 (.agg #[(.string ⟨#[]⟩), (.int .i64 0)]) 24 rfl Try.underlying25 info45 rfl (by decide) (by omega) v1 [] l0 _ _ _ (fun _ => True) (fun _ => False) rfl rfl ?aO ?aR (fun _ _ h => h) (fun _ h => h.elim) ?aF ?aB ?aS ?aL ?_; (case aR => exact Kd.C_below HR0.out HB1.out); (case aB => exact HB1.out); (case aF => exact (fun _ _ => trivial)); (case aO => exact HO1.out); (case aS => exact HB1.out.size); (case aL => have := HF.out.1; rw [List.length_nil]; omega); intro v2 w2 ho2 hb2 _ _; rw [List.nil_append] at ho2; have ho3 := cells_of_R ho2; obtain ⟨A2, n2, e2⟩ := own_slice ho3; rw [e2] at ho3; rw [e2]; have HO2 := Aside0.mk ho3; have HB2 := Aside0.mk hb2; clear ho2 ho3 hb2 e2 HO1 HB1)
    | ((with_reducible refine gate_dst (N := 11) rfl ?_); refine Kd.R_lit (Kd.int .i64) w.heap.size 2 ?hg3 (w0 := w) (N := 11) ?hd3 (xs := ([] : List Int)) (inner := []) (ok := fun _ => True) (okp := fun _ => True) ?hr3 ?hp3 (fun _ hk => hk) trivial HB2.out HB2.out.size (by simp) ?_; (case hd3 => rfl); (case hg3 => rfl); (case hr3 => first | (go_simp; done) | (go_simp; rfl)); (case hp3 => exact (Reps.none _ _)); intro v3 w3 ho3 hb3 hg3 _; have ho4 := nums_of_R ho3; obtain ⟨A3, n3, e3⟩ := own_slice ho4; rw [e3] at ho4; rw [e3]; have HO3 := Aside0.mk ho4; have HB3 := Aside0.mk hb3; have HC3 := Aside0.mk (HO2.out.kept hg3 (by cases (Value.slice A2 l0.length n2).ownBlock <;> simp)); clear ho3 ho4 hb3 hg3 e3 HO2 HB2)
    | ((with_reducible refine gate_dst (N := 13) rfl ?_); refine hand_box (fun g w4 => WInv w w4 g (.slice A2 l0.length n2) l0 A1 c1 l1 (.slice A3 ([] : List Int).length n3) []) ?hg4 (N := 13) ?hd4 (cs := #[.slice A2 l0.length n2, .slice A1 l1.length c1, .slice A3 ([] : List Int).length n3]) (t := 96) ?hr4 ?hF4 ?_; (case hd4 => rfl); (case hg4 => rfl); (case hr4 => first | (go_simp; done) | (go_simp; rfl)); (case hF4 => exact ⟨heap_alloc_new _ _, HC3.out.alloc _, HO3.out.alloc _, HR1.out, below_then HB3.out HB3.out.size (below_alloc (Below.refl _ _) _), HB3.out.size⟩); intro g w4 hI; have HI := Aside0.mk hI; clear hI HC3 HO3 HB3)
    | (go_at_call 82; refine (walk_calls w g A1 c1 l1 HF.out.2.2.2 HF.out.2.1 l1.length w4 _ l0 _ [] HI.out (by simp) HF.out.2.2.1 HF.out.1).mono ?_; intro e w5 hp; unfold WPost at hp; rw [show l1.drop ([] : List Int).length = l1 from rfl, HQ.out] at hp; obtain ⟨_, rfl, vt5, hI5⟩ := hp; have HI5 := Aside0.mk hI5; clear hI5 HI))
   have HH2 := HH.out
   rw [HQ.out] at HH2
   simp only [Option.some.injEq, Prod.mk.injEq] at HH2
   obtain ⟨rfl, rfl⟩ := HH2
   go_ret2
   exact ⟨_, rfl, Kd.R_nil _ _ _ _ _, HI5.out.below⟩
  | some r =>
   go_enter Try.func76, Try.ntmps76
   go_wp2_with (first
    | ((with_reducible refine gate_dst (N := 7) rfl ?_); refine Kd.R_lit k45 w.heap.size 45 ?hg (w0 := w) (N := 7) ?hd (xs := ([] : List S45)) (inner := []) (ok := fun _ => True) (okp := fun _ => True) ?hr ?hp (fun _ hk => hk) trivial (Below.refl _ _) (Nat.le_refl _) (by simp) ?_; (case hd => rfl); (case hg => rfl); (case hr => first | (go_simp; done) | (go_simp; rfl)); (case hp => exact (Reps.none _ _)); intro v1 w1 ho1 hb1 _ _; have HO1 := Aside0.mk ho1; have HB1 := Aside0.mk hb1; clear ho1 hb1)
    | ((with_reducible refine gate_builtin (b := .append) (xs := #[.tmp 7, .tmp 8]) rfl ?_); at_builtin; refine Kd.R_append_rows k45 (w0 := w) w.heap.size rfl (.tmp 7) (.tmp 8) 25 45 (.agg #[(.string ⟨#[]⟩), (.int .i64 0)]) 24 rfl Try.underlying25 info45 rfl (by decide) (by omega) v1 [] l0 _ _ _ (fun _ => True) (fun _ => False) rfl rfl ?aO ?aR (fun _ _ h => h) (fun _ h => h.elim) ?aF ?aB ?aS ?aL ?_; (case aR => exact Kd.C_below HR0.out HB1.out); (case aB => exact HB1.out); (case aF => exact (fun _ _ => trivial)); (case aO => exact HO1.out); (case aS => exact HB1.out.size); (case aL => have := HF.out.1; rw [List.length_nil]; omega); intro v2 w2 ho2 hb2 _ _; rw [List.nil_append] at ho2; have ho3 := cells_of_R ho2; obtain ⟨A2, n2, e2⟩ := own_slice ho3; rw [e2] at ho3; rw [e2]; have HO2 := Aside0.mk ho3; have HB2 := Aside0.mk hb2; clear ho2 ho3 hb2 e2 HO1 HB1)
    | ((with_reducible refine gate_dst (N := 11) rfl ?_); refine Kd.R_lit (Kd.int .i64) w.heap.size 2 ?hg3 (w0 := w) (N := 11) ?hd3 (xs := ([] : List Int)) (inner := []) (ok := fun _ => True) (okp := fun _ => True) ?hr3 ?hp3 (fun _ hk => hk) trivial HB2.out HB2.out.size (by simp) ?_; (case hd3 => rfl); (case hg3 => rfl); (case hr3 => first | (go_simp; done) | (go_simp; rfl)); (case hp3 => exact (Reps.none _ _)); intro v3 w3 ho3 hb3 hg3 _; have ho4 := nums_of_R ho3; obtain ⟨A3, n3, e3⟩ := own_slice ho4; rw [e3] at ho4; rw [e3]; have HO3 := Aside0.mk ho4; have HB3 := Aside0.mk hb3; have HC3 := Aside0.mk (HO2.out.kept hg3 (by cases (Value.slice A2 l0.length n2).ownBlock <;> simp)); clear ho3 ho4 hb3 hg3 e3 HO2 HB2)
    | ((with_reducible refine gate_dst (N := 13) rfl ?_); refine hand_box (fun g w4 => WInv w w4 g (.slice A2 l0.length n2) l0 A1 c1 l1 (.slice A3 ([] : List Int).length n3) []) ?hg4 (N := 13) ?hd4 (cs := #[.slice A2 l0.length n2, .slice A1 l1.length c1, .slice A3 ([] : List Int).length n3]) (t := 96) ?hr4 ?hF4 ?_; (case hd4 => rfl); (case hg4 => rfl); (case hr4 => first | (go_simp; done) | (go_simp; rfl)); (case hF4 => exact ⟨heap_alloc_new _ _, HC3.out.alloc _, HO3.out.alloc _, HR1.out, below_then HB3.out HB3.out.size (below_alloc (Below.refl _ _) _), HB3.out.size⟩); intro g w4 hI; have HI := Aside0.mk hI; clear hI HC3 HO3 HB3)
    | (go_at_call 82; refine (walk_calls w g A1 c1 l1 HF.out.2.2.2 HF.out.2.1 l1.length w4 _ l0 _ [] HI.out (by simp) HF.out.2.2.1 HF.out.1).mono ?_; intro e w5 hp; unfold WPost at hp; rw [show l1.drop ([] : List Int).length = l1 from rfl, HQ.out] at hp; obtain ⟨_, rfl, cs5, vt5, hI5⟩ := hp; rw [List.nil_append] at hI5; obtain ⟨A5, n5, e5⟩ := own_slice hI5.taken; rw [e5] at hI5; clear e5; have d0 := hI5.c2; have HI5 := Aside0.mk hI5; clear hI5 HI))
   have HH2 := HH.out
   rw [HQ.out] at HH2
   simp only [Option.some.injEq, Prod.mk.injEq] at HH2
   obtain ⟨rfl, rfl⟩ := HH2
   go_ret2
   exact ⟨_, rfl, R_of_nums HI5.out.taken, HI5.out.below⟩
 ·rw [if_neg hf] at h
  exact absurd h (by simp)


/-! ### impl_CutExactly: function 49 -/
-- (by hand)
open Go.Proofs.YtbglfbmnibhgeaaW.Hand
/-- The variables of the search: 'from' at bf, 'wants' at bw, 'left' at bl, 'fill' at bn. -/
structure CInv (w0 w : World) (bf bw bl bn : Nat) (vc : Value) (cs : List S45) (Aw : Option Addr) (cw : Nat) (ws : List S55) (vt : Value) (ts : List Int) : Prop where
 hf : w.heap[bf]? = some (.cells #[vt] 66 (0, 0))
 hw : w.heap[bw]? = some (.cells #[.slice Aw ws.length cw] 33 (0, 0))
 hl : w.heap[bl]? = some (.cells #[vc] 25 (0, 0))
 hn : w.heap[bn]? = some (.cells #[.func (.func 77) #[] #[.pointer (some ⟨bf, 0, none⟩), .pointer (some ⟨bw, 0, none⟩), .pointer (some ⟨bl, 0, none⟩), .pointer (some ⟨bn, 0, none⟩)]] 89 (0, 0))
 coils : w.ownsRow w0.heap.size 45 2 vc cs.length (cellsC cs)
 taken : w.ownsRow w0.heap.size 2 1 vt ts.length (nums .i64 ts)
 wants : Kd.C k55 w0 Aw ws.length ws
 below : Below w0.heap.size w0 w
 ge : w0.heap.size ≤ bf
section
variable {w0 w : World} {bf bw bl bn : Nat} {vc : Value} {cs : List S45} {Aw : Option Addr} {cw : Nat} {ws : List S55} {vt : Value} {ts : List Int}
theorem CInv.drew (h : CInv w0 w bf bw bl bn vc cs Aw cw ws vt ts) : CInv w0 w.drew bf bw bl bn vc cs Aw cw ws vt ts := ⟨h.hf, h.hw, h.hl, h.hn, h.coils, h.taken, h.wants, below_drew h.below, h.ge⟩
theorem CInv.drewN (h : CInv w0 w bf bw bl bn vc cs Aw cw ws vt ts) (n : Nat) : CInv w0 (w.drewN n) bf bw bl bn vc cs Aw cw ws vt ts := ⟨h.hf, h.hw, h.hl, h.hn, h.coils, h.taken, h.wants, pw_below_drewN h.below n, h.ge⟩
theorem CInv.f0 (h : CInv w0 w bf bw bl bn vc cs Aw cw ws vt ts) : w.cell? ⟨bf, 0, none⟩ = some vt := (blk_cell h.hf 0).trans rfl
theorem CInv.ff (h : CInv w0 w bf bw bl bn vc cs Aw cw ws vt ts) : w.frozen? ⟨bf, 0, none⟩ = false := blk_frozen h.hf 0
theorem CInv.w0' (h : CInv w0 w bf bw bl bn vc cs Aw cw ws vt ts) : w.cell? ⟨bw, 0, none⟩ = some (.slice Aw ws.length cw) := (blk_cell h.hw 0).trans rfl
theorem CInv.l0 (h : CInv w0 w bf bw bl bn vc cs Aw cw ws vt ts) : w.cell? ⟨bl, 0, none⟩ = some vc := (blk_cell h.hl 0).trans rfl
theorem CInv.n0 (h : CInv w0 w bf bw bl bn vc cs Aw cw ws vt ts) : w.cell? ⟨bn, 0, none⟩ = some (.func (.func 77) #[] #[.pointer (some ⟨bf, 0, none⟩), .pointer (some ⟨bw, 0, none⟩), .pointer (some ⟨bl, 0, none⟩), .pointer (some ⟨bn, 0, none⟩)]) := (blk_cell h.hn 0).trans rfl
theorem CInv.k0 {gc c : Nat} (h : CInv w0 w bf bw bl bn (.slice (some ⟨gc, 0, none⟩) cs.length c) cs Aw cw ws vt ts) (k : Nat) (hk : k < cs.length) : w.cell? ⟨gc, k * 2, none⟩ = some (.string (rd_T45 cs (k : Int)).f0) := (h.coils.cellAt (k * 2) (by omega)).trans (cellsC_get cs k hk).1
theorem CInv.k1 {gc c : Nat} (h : CInv w0 w bf bw bl bn (.slice (some ⟨gc, 0, none⟩) cs.length c) cs Aw cw ws vt ts) (k : Nat) (hk : k < cs.length) : w.cell? ⟨gc, k * 2 + 1, none⟩ = some (.int .i64 (rd_T45 cs (k : Int)).f1) := (h.coils.cellAt (k * 2 + 1) (by omega)).trans (cellsC_get cs k hk).2
theorem CInv.xs (h : CInv w0 w bf bw bl bn vc cs Aw cw ws vt ts) (k : Nat) (hk : k < ws.length) : ∃ ad, Aw = some ad ∧ w.cell? (ad.add (k * 2)) = some (.string (rd_T55 ws (k : Int)).f0) ∧ w.cell? ⟨(ad.add (k * 2)).block, (ad.add (k * 2)).off + 1, none⟩ = some (.int .i64 (rd_T55 ws (k : Int)).f1) := by
 have := at_T55 (Kd.C_below h.wants h.below) (k : Int) (by omega) (by omega)
 rwa [Int.toNat_natCast] at this
/-- What is kept: the variables, when the coils and the row of what is taken are written. -/
theorem CInv.kept {w1 : World} (h : CInv w0 w bf bw bl bn vc cs Aw cw ws vt ts) (hk : KeepsT [66, 45, 2] w w1) {v1 : Value} {ts1 : List Int} {cs1 : List S45} (hf : w1.heap[bf]? = some (.cells #[v1] 66 (0, 0))) (hc : w1.ownsRow w0.heap.size 45 2 vc cs1.length (cellsC cs1)) (ht : w1.ownsRow w0.heap.size 2 1 v1 ts1.length (nums .i64 ts1)) (hB : Below w0.heap.size w0 w1) :
  CInv w0 w1 bf bw bl bn vc cs1 Aw cw ws v1 ts1 :=
 ⟨hf, hk _ _ 33 (by decide) h.hw, hk _ _ 25 (by decide) h.hl, hk _ _ 89 (by decide) h.hn, hc, ht, h.wants, hB, h.ge⟩
theorem CInv.left {gc c n : Nat} (h : CInv w0 w bf bw bl bn (.slice (some ⟨gc, 0, none⟩) n c) cs Aw cw ws vt ts) (hn : cs.length = n) (k : Nat) (hk : k < n) (v : Int) {cs' : List S45} (hcs : cs' = cs.set k ⟨(rd_T45 cs (k : Int)).f0, v⟩) :
  CInv w0 (w.setCell ⟨gc, k * 2 + 1, none⟩ (.int .i64 v)) bf bw bl bn (.slice (some ⟨gc, 0, none⟩) n c) cs' Aw cw ws vt ts ∧ KeepsT [66, 45, 2] w (w.setCell ⟨gc, k * 2 + 1, none⟩ (.int .i64 v)) := by
 subst hcs
 subst hn
 obtain ⟨cells, hc⟩ := own_typed h.coils gc rfl
 have hk1 : KeepsT [66, 45, 2] w (w.setCell ⟨gc, k * 2 + 1, none⟩ (.int .i64 v)) := (KeepsT.refl _ w).set hc (by decide) _ _
 have hs := h.coils.stored (k * 2 + 1) (.int .i64 v)
 rw [cellsC_set cs v k hk] at hs
 refine ⟨h.kept hk1 (blk_far h.hf (fun e => ?_) _) (by rw [List.length_set]; exact hs.1) (own_setCell h.taken ?_ _) (h.below.setCell (own_base h.coils gc rfl) _), hk1⟩
 ·have e' : bf = gc := e
  rw [← e', h.hf] at hc
  injection hc with hc
  injection hc with _ h2
  exact absurd h2 (by decide)
 ·rcases own_type_ne h.coils h.taken (by decide) with h1 | h1
  ·cases h1
  ·exact h1
theorem CInv.put {w1 : World} {v1 : Value} {ts1 : List Int} (h : CInv w0 w bf bw bl bn vc cs Aw cw ws vt ts) (ho : w1.ownsRow w0.heap.size 2 1 v1 ts1.length (nums .i64 ts1)) (hB : Below w0.heap.size w0 w1) (hg : w.grownBy w1 vt.ownBlock) :
  CInv w0 (w1.setCell ⟨bf, 0, none⟩ v1) bf bw bl bn vc cs Aw cw ws v1 ts1 ∧ KeepsT [66, 45, 2] w (w1.setCell ⟨bf, 0, none⟩ v1) ∧ w1.heap[bf]? = some (.cells #[vt] 66 (0, 0)) := by
 have hne : some bf ≠ vt.ownBlock := fun e => by
  obtain ⟨cells, hc⟩ := own_typed h.taken bf e.symm
  rw [h.hf] at hc
  injection hc with hc
  injection hc with _ h2
  exact absurd h2 (by decide)
 have hb1 : w1.heap[bf]? = _ := blk_grown h.hf hg hne
 have hne1 : some bf ≠ v1.ownBlock := fun e => by
  obtain ⟨cells, hc⟩ := own_typed ho bf e.symm
  rw [hb1] at hc
  injection hc with hc
  injection hc with _ h2
  exact absurd h2 (by decide)
 have hnc : some bf ≠ vc.ownBlock := fun e => by
  obtain ⟨cells, hc⟩ := own_typed h.coils bf e.symm
  rw [h.hf] at hc
  injection hc with hc
  injection hc with _ h2
  exact absurd h2 (by decide)
 have k1 : KeepsT [66, 45, 2] w w1 := (KeepsT.refl _ w).grown h.taken (by decide) hg
 have k2 : KeepsT [66, 45, 2] w (w1.setCell ⟨bf, 0, none⟩ v1) := k1.set hb1 (by decide) _ _
 exact ⟨h.kept k2 (blk_set hb1 0 v1) (own_setCell (own_other h.coils hg (own_type_ne h.coils h.taken (by decide))) hnc _) (own_setCell ho hne1 _) (hB.setCell h.ge _), k2, hb1⟩
theorem CInv.trunc {A : Option Addr} {n : Nat} {k : Int} (h : CInv w0 w bf bw bl bn vc cs Aw cw ws (.slice A (ts ++ [k]).length n) (ts ++ [k])) :
  CInv w0 (w.setCell ⟨bf, 0, none⟩ (.slice A ts.length n)) bf bw bl bn vc cs Aw cw ws (.slice A ts.length n) ts ∧ KeepsT [66, 45, 2] w (w.setCell ⟨bf, 0, none⟩ (.slice A ts.length n)) := by
 have ht := hand_take (m := ts.length) h.taken (by simp)
 rw [show (nums .i64 (ts ++ [k])).take (ts.length * 1) = nums .i64 ts by rw [nums_append, Nat.mul_one, List.take_left' (nums_length _ _)]] at ht
 have := h.put ht h.below (World.grownBy.refl _ _)
 exact ⟨this.1, this.2.1⟩
end
def CPost (w0 w : World) (bf bw bl bn : Nat) (vc : Value) (cs : List S45) (Aw : Option Addr) (cw : Nat) (ws : List S55) (ts : List Int) (e : Ending) (w' : World) : Prop :=
 KeepsT [66, 45, 2] w w' ∧ match wayC (ws.drop ts.length) cs with
 | none => e = .returned (.bool false) ∧ ∃ vt', CInv w0 w' bf bw bl bn vc cs Aw cw ws vt' ts
 | some r => e = .returned (.bool true) ∧ ∃ cs' vt', CInv w0 w' bf bw bl bn vc cs' Aw cw ws vt' (ts ++ r)

set_option maxHeartbeats 4000000 in
theorem fill_last (w0 w : World) (bf bw bl bn : Nat) (vc : Value) (cs : List S45) (Aw : Option Addr) (cw : Nat) (ws : List S55) (vt : Value) (ts : List Int) (h : CInv w0 w bf bw bl bn vc cs Aw cw ws vt ts) (he : ts.length = ws.length) :
  Calls Try.prog 77 #[.pointer (some ⟨bf, 0, none⟩), .pointer (some ⟨bw, 0, none⟩), .pointer (some ⟨bl, 0, none⟩), .pointer (some ⟨bn, 0, none⟩)] w (CPost w0 w bf bw bl bn vc cs Aw cw ws ts) := by
 obtain ⟨At, ct, rfl⟩ := own_slice h.taken
 have c0 := h.f0
 have c1 := h.w0'
 have hb : ((ts.length : Int) == (ws.length : Int)) = true := by simp [he]
 have HP : Aside0 (CPost w0 w bf bw bl bn vc cs Aw cw ws ts (.returned (.bool true)) w) := ⟨by
  unfold CPost
  rw [he, List.drop_length, wayC]
  exact ⟨KeepsT.refl _ _, rfl, cs, _, by simpa using h⟩⟩
 clear h he
 go_enter Try.func77, Try.ntmps77
 go_wp2_with fail
 go_ret
 exact HP.out

set_option maxRecDepth 100000 in
set_option maxHeartbeats 8000000 in
theorem fill_calls (w0 : World) (bf bw bl bn : Nat) (Aw : Option Addr) (cw : Nat) (ws : List S55) (hsw : smallW ws) (hnw : ws.length ≤ 7) (m : Nat) : ∀ (w : World) (vc : Value) (cs : List S45) (vt : Value) (ts : List Int), CInv w0 w bf bw bl bn vc cs Aw cw ws vt ts → ts.length + m = ws.length → smallC cs → cs.length ≤ 7 →
  Calls Try.prog 77 #[.pointer (some ⟨bf, 0, none⟩), .pointer (some ⟨bw, 0, none⟩), .pointer (some ⟨bl, 0, none⟩), .pointer (some ⟨bn, 0, none⟩)] w (CPost w0 w bf bw bl bn vc cs Aw cw ws ts) := by
 induction m with
 | zero => intro w vc cs vt ts h he _ _; exact fill_last w0 w bf bw bl bn vc cs Aw cw ws vt ts h (by omega)
 | succ m ih =>
  intro w vc cs vt ts h he hsc hnc
  have eg : ∀ args w, (callFunc 77 args).run Try.prog w = .ok (.enter 77 args) w := enters_of Try.func77 (by kernel_rfl) rfl
  obtain ⟨At, ct, rfl⟩ := own_slice h.taken
  obtain ⟨Ac, cc, rfl⟩ := own_slice h.coils
  have c0 := h.f0
  have c1 := h.w0'
  have c2 := h.l0
  have hb : ((ts.length : Int) == (ws.length : Int)) = false := by simp; omega
  obtain ⟨ax, rfl, _, _⟩ := h.xs ts.length (by omega)
  obtain ⟨x, ex⟩ : ∃ x, x = rd_T55 ws (ts.length : Int) := ⟨_, rfl⟩
  obtain ⟨i2, hi2, _, _, _⟩ := info_parts info2'
  have EX := Aside0.mk ex
  have HE := Aside0.mk he
  have HI := Aside0.mk h
  have HW0 : Aside0 (wayC (ws.drop ts.length) cs = wayFrom x (ws.drop (ts.length + 1)) cs 0) := ⟨by
   rw [drop_rd55 ws ts.length (by omega), ← ex, wayC_eq]⟩
  clear h he ex
  go_enter Try.func77, Try.ntmps77
  go_wp2_with fail
  clear c0 c1 c2 hb
  go_loopg [15] cs.length (fun gg v15 wr => ∃ k : Nat, v15 = .int .i64 (k : Int) ∧ Aside0 (k ≤ cs.length ∧ cs.length - k ≤ gg) ∧ Aside0 (wayC (ws.drop ts.length) cs = wayFrom x (ws.drop (ts.length + 1)) cs k) ∧ Aside0 (∃ At' ct', CInv w0 wr bf bw bl bn (.slice Ac cs.length cc) cs (some ax) cw ws (.slice At' ts.length ct') ts) ∧ Aside0 (KeepsT [66, 45, 2] w wr))
  case atStart => exact ⟨0, rfl, ⟨Nat.zero_le _, by omega⟩, HW0, ⟨_, _, HI.out⟩, ⟨KeepsT.refl _ _⟩⟩
  case round =>
   clear HI HW0
   obtain ⟨k, rfl, HJ, HW, HI', HK⟩ := hrel
   obtain ⟨At', ct', hI⟩ := HI'.out
   clear HI'
   have HI' := Aside0.mk hI
   by_cases hlt : k < cs.length
   ·obtain ⟨gc, cc', evc, hgcge, hgclt⟩ := hI.coils.form (by omega)
    simp only [Value.slice.injEq, true_and] at evc
    obtain ⟨rfl, rfl⟩ := evc
    have c0 := hI.f0
    have c1 := hI.w0'
    have c2 := hI.l0
    have k0 := hI.k0 k hlt
    have k1 := hI.k1 k hlt
    obtain ⟨ax', e, x0, x1⟩ := hI.xs ts.length (by have := HE.out; omega)
    cases e
    rw [← EX.out] at x0 x1
    obtain ⟨c, ec⟩ : ∃ c, c = rd_T45 cs (k : Int) := ⟨_, rfl⟩
    rw [← ec] at k0 k1
    have hcb := hsc _ (rd45_mem cs k hlt)
    rw [← ec] at hcb
    have EC := Aside0.mk ec
    clear ec hI
    have hxb := hsw _ (rd55_mem ws ts.length (by have := HE.out; omega))
    rw [← EX.out] at hxb
    have hwl : ts.length < ws.length := by have := HE.out; omega
    obtain ⟨hc0, hc1⟩ := hcb
    obtain ⟨hx0, hx1⟩ := hxb
    have hltb : decide (k < cs.length) = true := decide_eq_true hlt
    by_cases hq : (c.f0.toList == x.f0.toList) = true
    ·have hqn : (c.f0.toList != x.f0.toList) = false := by simp [bne, hq]
     by_cases hl : c.f1 < x.f1
     ·have hlb : decide (c.f1 < x.f1) = true := decide_eq_true hl
      have HN : Aside0 (wayC (ws.drop ts.length) cs = wayFrom x (ws.drop (ts.length + 1)) cs (k + 1)) := ⟨HW.out.trans (wayFrom_no _ _ _ _ hlt (by rw [← EC.out]; simp [fitsC]; omega))⟩
      go_wp2_with fail
      go_quiet (fail)
      go_wp2_with fail
      go_roundg (cs.length - (k + 1))
      case measure => have := HJ.out; omega
      case rel => exact ⟨k + 1, by go_num, ⟨by omega, by omega⟩, HN, ⟨_, _, HI'.out.drewN _⟩, ⟨HK.out⟩⟩
     ·have hlb : decide (c.f1 < x.f1) = false := decide_eq_false hl
      have HF : Aside0 (fitsC (rd_T45 cs (k : Int)) x = true) := ⟨by rw [← EC.out]; simp only [fitsC, Bool.and_eq_true, decide_eq_true_eq]; exact ⟨hq, by omega⟩⟩
      have HC : Aside0 (cutAt cs k x.f1 = cs.set k ⟨(rd_T45 cs (k : Int)).f0, c.f1 - x.f1⟩) := ⟨by rw [EC.out]; rfl⟩
      have hdr : ws.drop (ts ++ [(k : Int)]).length = ws.drop (ts.length + 1) := by rw [List.length_append]; rfl
      have HSC : Aside0 (smallC (cutAt cs k x.f1)) := ⟨by
       rw [HC.out]
       intro z hz
       rcases List.mem_or_eq_of_mem_set hz with hz | rfl
       ·exact hsc z hz
       ·exact ⟨by show 0 ≤ c.f1 - x.f1; omega, by show c.f1 - x.f1 ≤ 100000; omega⟩⟩
      have HLC : Aside0 ((cutAt cs k x.f1).length = cs.length) := ⟨by rw [HC.out, List.length_set]⟩
      obtain ⟨q, hway⟩ : ∃ q, q = wayC (ws.drop (ts.length + 1)) (cutAt cs k x.f1) := ⟨_, rfl⟩
      have HQ := Aside0.mk hway.symm
      have HD := Aside0.mk hdr
      clear hway hdr
      cases q with
      | none =>
       go_wp2_with fail
       go_quiet (fail)
       go_wp2_with fail
       refine hand_tail 11 (fun W => CInv w0 W bf bw bl bn (.slice (some ⟨gc, 0, none⟩) cs.length cc) cs (some ax) cw ws (.slice At' ts.length ct') ts ∧ KeepsT [66, 45, 2] w W) (by kernel_rfl) (by kernel_rfl) ⟨(HI'.out.drewN _).drew, HK.out⟩ ?_
       clear c0 c1 c2 x0 x1 k0 k1 HI' HK
       rintro W ⟨hI, hK⟩
       have c1 := hI.w0'
       have c2 := hI.l0
       have k1 := hI.k1 k hlt
       obtain ⟨ax', e, _, x1⟩ := hI.xs ts.length (by have := HE.out; omega)
       cases e
       rw [← EX.out] at x1
       rw [← EC.out] at k1
       have f1 := hI.coils.frozenAt (k * 2 + 1)
       have h2 := hI.left rfl k hlt (c.f1 - x.f1) HC.out
       have HI' := Aside0.mk (And.intro h2.1 (hK.trans h2.2))
       clear hI h2 hK
       have hw1 : IntKind.i64.wrap (c.f1 - x.f1) = c.f1 - x.f1 := IntWalk.i64_in _ (by omega)
       simp only [List.take_succ_cons, List.take_zero, List.drop_succ_cons, List.drop_zero]
       repeat still_step
       refine wpStill_nil ?_
       go_wp2_with (first
        | (refine hand_store (fun w' => CInv w0 w' bf bw bl bn (.slice (some ⟨gc, 0, none⟩) cs.length cc) (cutAt cs k x.f1) (some ax) cw ws (.slice At' ts.length ct') ts ∧ KeepsT [66, 45, 2] w w') (t := 2) (p := 54) (v := .tmp 52) (w1 := W.setCell ⟨gc, k * 2 + 1, none⟩ (.int .i64 (c.f1 - x.f1))) ?hg rfl ?hN ?hr ?hF ?_; (case hg => rfl); (case hN => rfl); (case hr => first | (go_simp; done) | (go_simp; rfl)); (case hF => exact HI'.out); clear c1 c2 x1 k1 f1 hw1 HI'; rintro W1 ⟨hI, hK⟩; have c0 := hI.f0; have HI' := Aside0.mk hI; have HK := Aside0.mk hK; clear hI hK)
        | (at_builtin; refine print_append_num (w0 := w0) w0.heap.size rfl (.tmp 55) (.tmp 57) 66 2 .i64 8 rfl Try.underlying66 info2' (by decide) (.slice At' ts.length ct') ts (k : Int) rfl rfl HI'.out.taken HI'.out.below HI'.out.below.size (by omega) ?_; intro v2 W2 hown hbel hgr _; obtain ⟨A2, n2, e2⟩ := own_slice hown; rw [e2]; rw [e2] at hown; have h3 := HI'.out.put hown hbel hgr; have HI2 := Aside0.mk (And.intro h3.1 (HK.out.trans h3.2.1)); have d2 := (blk_cell h3.2.2 0).trans rfl; have f2 := blk_frozen h3.2.2 0; clear e2 hown hbel hgr h3 c0 HI' HK)
        | (refine hand_store (fun w' => CInv w0 w' bf bw bl bn (.slice (some ⟨gc, 0, none⟩) cs.length cc) (cutAt cs k x.f1) (some ax) cw ws (.slice A2 (ts ++ [(k : Int)]).length n2) (ts ++ [(k : Int)]) ∧ KeepsT [66, 45, 2] w w') (t := 66) (p := 0) (v := .tmp 58) (w1 := W2.setCell ⟨bf, 0, none⟩ (.slice A2 (ts ++ [(k : Int)]).length n2)) ?hg2 rfl ?hN2 ?hr2 ?hF2 ?_; (case hg2 => rfl); (case hN2 => rfl); (case hr2 => first | (go_simp; done) | (go_simp; rfl)); (case hF2 => exact HI2.out); clear d2 f2 HI2; rintro W3 ⟨hI, hK⟩; have n0 := hI.n0; have HI3 := Aside0.mk hI; have HK3 := Aside0.mk hK; clear hI hK)
        | (go_at_call 77; refine (ih W3 _ (cutAt cs k x.f1) _ (ts ++ [(k : Int)]) HI3.out (by rw [List.length_append]; show ts.length + 1 + m = _; have := HE.out; omega) HSC.out (by rw [HLC.out]; exact hnc)).mono ?_; intro e W4 hp; unfold CPost at hp; rw [HD.out, HQ.out] at hp; obtain ⟨hk4, rfl, vt4, hI4⟩ := hp; obtain ⟨A4, n4, e4⟩ := own_slice hI4.taken; rw [e4] at hI4; clear e4; have hle4 := (own_cap hI4.taken); have hle5 : ts.length ≤ n4 := (by rw [List.length_append] at hle4; exact Nat.le_trans (Nat.le_add_right _ _) hle4); have c0 := hI4.f0; have f2 := hI4.ff; have HI4 := Aside0.mk hI4; have HK4 := Aside0.mk (HK3.out.trans hk4); clear hI4 hk4 hle4 HI3 HK3 n0)
        | (refine hand_store (fun w' => CInv w0 w' bf bw bl bn (.slice (some ⟨gc, 0, none⟩) cs.length cc) (cutAt cs k x.f1) (some ax) cw ws (.slice A4 ts.length n4) ts ∧ KeepsT [66, 45, 2] w w') (t := 66) (p := 0) (v := .tmp 63) (w1 := W4.setCell ⟨bf, 0, none⟩ (.slice A4 ts.length n4)) ?hg3 rfl ?hN3 ?hr3 ?hF3 ?_; (case hg3 => rfl); (case hN3 => rfl); (case hr3 => first | (go_simp; done) | (go_simp; rfl)); (case hF3 => exact ⟨HI4.out.trunc.1, HK4.out.trans HI4.out.trunc.2⟩); clear c0 f2 hle5 HI4 HK4; rintro W5 ⟨hI, hK⟩; have HI5 := Aside0.mk hI; have HK5 := Aside0.mk hK; clear hI hK))
       refine hand_tail 11 (fun W => CInv w0 W bf bw bl bn (.slice (some ⟨gc, 0, none⟩) cs.length cc) (cutAt cs k x.f1) (some ax) cw ws (.slice A4 ts.length n4) ts ∧ KeepsT [66, 45, 2] w W) (by kernel_rfl) (by kernel_rfl) ⟨HI5.out.drew, HK5.out⟩ ?_
       rintro W ⟨hI, hK⟩
       have c1 := hI.w0'
       have c2 := hI.l0
       have hlt2 : k < (cutAt cs k x.f1).length := by rw [HLC.out]; exact hlt
       obtain ⟨ax', e, _, x1⟩ := hI.xs ts.length (by have := HE.out; omega)
       cases e
       rw [← EX.out] at x1
       have k1 := hI.coils
       rw [← HLC.out] at k1
       replace k1 := (k1.cellAt (k * 2 + 1) (by omega)).trans (cellsC_get _ k hlt2).2
       have f1 := hI.coils
       rw [← HLC.out] at f1
       replace f1 := f1.frozenAt (k * 2 + 1)
       have he1 : (rd_T45 (cutAt cs k x.f1) (k : Int)).f1 = c.f1 - x.f1 := by rw [HC.out, rd45_set _ _ hlt]
       rw [he1] at k1
       have HBK : Aside0 (cs = (cutAt cs k x.f1).set k ⟨(rd_T45 (cutAt cs k x.f1) (k : Int)).f0, c.f1⟩) := ⟨by
        rw [HC.out, EC.out]; exact (cut_back cs k hlt _).symm⟩
       have h2 := hI.left HLC.out k hlt c.f1 HBK.out
       have HI' := Aside0.mk (And.intro h2.1 (hK.trans h2.2))
       clear hI he1 hlt2 hK h2
       have hw1 : IntKind.i64.wrap c.f1 = c.f1 := IntWalk.i64_in _ (by omega)
       simp only [List.take_succ_cons, List.take_zero, List.drop_succ_cons, List.drop_zero]
       repeat still_step
       refine wpStill_nil ?_
       go_wp2_with (refine hand_store (fun w' => CInv w0 w' bf bw bl bn (.slice (some ⟨gc, 0, none⟩) cs.length cc) cs (some ax) cw ws (.slice A4 ts.length n4) ts ∧ KeepsT [66, 45, 2] w w') (t := 2) (p := 76) (v := .tmp 74) (w1 := W.setCell ⟨gc, k * 2 + 1, none⟩ (.int .i64 c.f1)) ?hg5 rfl ?hN5 ?hr5 ?hF5 ?_; (case hg5 => rfl); (case hN5 => rfl); (case hr5 => first | (go_simp; done) | (go_simp; rfl)); (case hF5 => exact HI'.out); clear c1 c2 x1 k1 f1 hw1 HI'; rintro W6 ⟨hI, hK⟩; have HI6 := Aside0.mk hI; have HK6 := Aside0.mk hK; clear hI hK)
       go_roundg (cs.length - (k + 1))
       case measure => have := HJ.out; omega
       case rel => exact ⟨k + 1, by go_num, ⟨by omega, by omega⟩, ⟨HW.out.trans (wayFrom_none _ _ _ _ hlt HQ.out)⟩, ⟨_, _, HI6.out⟩, HK6⟩
      | some r =>
       go_wp2_with fail
       go_quiet (fail)
       go_wp2_with fail
       refine hand_tail 11 (fun W => CInv w0 W bf bw bl bn (.slice (some ⟨gc, 0, none⟩) cs.length cc) cs (some ax) cw ws (.slice At' ts.length ct') ts ∧ KeepsT [66, 45, 2] w W) (by kernel_rfl) (by kernel_rfl) ⟨(HI'.out.drewN _).drew, HK.out⟩ ?_
       clear c0 c1 c2 x0 x1 k0 k1 HI' HK
       rintro W ⟨hI, hK⟩
       have c1 := hI.w0'
       have c2 := hI.l0
       have k1 := hI.k1 k hlt
       obtain ⟨ax', e, _, x1⟩ := hI.xs ts.length (by have := HE.out; omega)
       cases e
       rw [← EX.out] at x1
       rw [← EC.out] at k1
       have f1 := hI.coils.frozenAt (k * 2 + 1)
       have h2 := hI.left rfl k hlt (c.f1 - x.f1) HC.out
       have HI' := Aside0.mk (And.intro h2.1 (hK.trans h2.2))
       clear hI h2 hK
       have hw1 : IntKind.i64.wrap (c.f1 - x.f1) = c.f1 - x.f1 := IntWalk.i64_in _ (by omega)
       simp only [List.take_succ_cons, List.take_zero, List.drop_succ_cons, List.drop_zero]
       repeat still_step
       refine wpStill_nil ?_
       go_wp2_with (first
        | (refine hand_store (fun w' => CInv w0 w' bf bw bl bn (.slice (some ⟨gc, 0, none⟩) cs.length cc) (cutAt cs k x.f1) (some ax) cw ws (.slice At' ts.length ct') ts ∧ KeepsT [66, 45, 2] w w') (t := 2) (p := 54) (v := .tmp 52) (w1 := W.setCell ⟨gc, k * 2 + 1, none⟩ (.int .i64 (c.f1 - x.f1))) ?hg rfl ?hN ?hr ?hF ?_; (case hg => rfl); (case hN => rfl); (case hr => first | (go_simp; done) | (go_simp; rfl)); (case hF => exact HI'.out); clear c1 c2 x1 k1 f1 hw1 HI'; rintro W1 ⟨hI, hK⟩; have c0 := hI.f0; have HI' := Aside0.mk hI; have HK := Aside0.mk hK; clear hI hK)
        | (at_builtin; refine print_append_num (w0 := w0) w0.heap.size rfl (.tmp 55) (.tmp 57) 66 2 .i64 8 rfl Try.underlying66 info2' (by decide) (.slice At' ts.length ct') ts (k : Int) rfl rfl HI'.out.taken HI'.out.below HI'.out.below.size (by omega) ?_; intro v2 W2 hown hbel hgr _; obtain ⟨A2, n2, e2⟩ := own_slice hown; rw [e2]; rw [e2] at hown; have h3 := HI'.out.put hown hbel hgr; have HI2 := Aside0.mk (And.intro h3.1 (HK.out.trans h3.2.1)); have d2 := (blk_cell h3.2.2 0).trans rfl; have f2 := blk_frozen h3.2.2 0; clear e2 hown hbel hgr h3 c0 HI' HK)
        | (refine hand_store (fun w' => CInv w0 w' bf bw bl bn (.slice (some ⟨gc, 0, none⟩) cs.length cc) (cutAt cs k x.f1) (some ax) cw ws (.slice A2 (ts ++ [(k : Int)]).length n2) (ts ++ [(k : Int)]) ∧ KeepsT [66, 45, 2] w w') (t := 66) (p := 0) (v := .tmp 58) (w1 := W2.setCell ⟨bf, 0, none⟩ (.slice A2 (ts ++ [(k : Int)]).length n2)) ?hg2 rfl ?hN2 ?hr2 ?hF2 ?_; (case hg2 => rfl); (case hN2 => rfl); (case hr2 => first | (go_simp; done) | (go_simp; rfl)); (case hF2 => exact HI2.out); clear d2 f2 HI2; rintro W3 ⟨hI, hK⟩; have n0 := hI.n0; have HI3 := Aside0.mk hI; have HK3 := Aside0.mk hK; clear hI hK)
        | (go_at_call 77; refine (ih W3 _ (cutAt cs k x.f1) _ (ts ++ [(k : Int)]) HI3.out (by rw [List.length_append]; show ts.length + 1 + m = _; have := HE.out; omega) HSC.out (by rw [HLC.out]; exact hnc)).mono ?_; intro e W4 hp; unfold CPost at hp; rw [HD.out, HQ.out] at hp; obtain ⟨hk4, rfl, cs4, vt4, hI4⟩ := hp; have HP : Aside0 (CPost w0 w bf bw bl bn (.slice (some ⟨gc, 0, none⟩) cs.length cc) cs (some ax) cw ws ts (.returned (.bool true)) W4) := ⟨by { unfold CPost; rw [HW.out, wayFrom_some _ _ _ _ hlt HF.out HQ.out]; exact ⟨HK3.out.trans hk4, rfl, cs4, vt4, by rw [List.append_assoc] at hI4; exact hI4⟩ }⟩; clear hI4 hk4 HI3 HK3 n0))
       go_ret
       exact HP.out
    ·replace hq : (c.f0.toList == x.f0.toList) = false := by simpa using hq
     have hqn : (c.f0.toList != x.f0.toList) = true := by simp [bne, hq]
     have HN : Aside0 (wayC (ws.drop ts.length) cs = wayFrom x (ws.drop (ts.length + 1)) cs (k + 1)) := ⟨HW.out.trans (wayFrom_no _ _ _ _ hlt (by rw [← EC.out]; simp [fitsC, hq]))⟩
     go_wp2_with fail
     go_quiet (fail)
     go_wp2_with fail
     go_roundg (cs.length - (k + 1))
     case measure => have := HJ.out; omega
     case rel => exact ⟨k + 1, by go_num, ⟨by omega, by omega⟩, HN, ⟨_, _, HI'.out.drewN _⟩, ⟨HK.out⟩⟩
   ·have hltb : decide (k < cs.length) = false := decide_eq_false hlt
    have HP : Aside0 (CPost w0 w bf bw bl bn (.slice Ac cs.length cc) cs (some ax) cw ws ts (.returned (.bool false)) wr) := ⟨by
     unfold CPost
     rw [HW.out, wayFrom_end _ _ _ _ (by omega)]
     exact ⟨HK.out, rfl, _, HI'.out⟩⟩
    clear hI
    go_wp2_with fail
    go_ret
    exact HP.out
def impl_CutExactly.f (k : Nat) (l0 : List S45) (l1 : List S55) : Option (List Int × Int) := (impl_ValidStockCoils.f k l0).bind fun b => if b = true then ((impl_ValidWants.f k l1).bind fun b2 => if b2 = true then (if l0.length ≤ 7 then (if l1.length ≤ 7 then (if fewC l0 l1 then some (match wayC l1 l0 with | none => ([], 3) | some r => (r, 0)) else none) else some ([], 5)) else some ([], 5)) else some ([], 1)) else some ([], 1)
theorem impl_CutExactly.mono : ∀ a0 a1 k, LeO (impl_CutExactly.f k a0 a1) (impl_CutExactly.f (k + 1) a0 a1) := by
 intro a0 a1 k
 unfold impl_CutExactly.f
 refine LeO.bind (impl_ValidStockCoils.mono _ _) (fun _ => LeO.ite (LeO.bind (impl_ValidWants.mono _ _) (fun _ => LeO.refl _)) (LeO.refl _))
set_option maxHeartbeats 8000000 in
theorem impl_CutExactly.calls (k : Nat) (A0 : Option Addr) (c0 : Nat) (l0 : List S45) (A1 : Option Addr) (c1 : Nat) (l1 : List S55) (r1 : List Int) (r2 : Int) (w : World) (hr0 : Kd.C k45 w A0 l0.length l0) (hc0 : l0.length ≤ c0) (hr1 : Kd.C k55 w A1 l1.length l1) (hc1 : l1.length ≤ c1) (h : impl_CutExactly.f k l0 l1 = some (r1, r2)) :
  Calls Try.prog 49 #[.slice A0 l0.length c0, .slice A1 l1.length c1] w fun e w' => ∃ v0_ : Value, e = .returned (.tuple #[v0_, .int .i64 r2]) ∧ Kd.R (Kd.int .i64) 2 w' w.heap.size (fun _ => True) v0_ r1 ∧ Below w.heap.size w w' := by
 have eg : ∀ args w, (callFunc 77 args).run Try.prog w = .ok (.enter 77 args) w := enters_of Try.func77 (by kernel_rfl) rfl
 have hmf : ∀ (fn : Fn) (first cap : Array Value) (w : World), (Instr.makeFunc fn first cap).run Try.prog w = .ok (.func fn first cap) w := fun _ _ _ _ => rfl
 unfold impl_CutExactly.f at h
 have HR0 := Aside0.mk hr0
 have HR1 := Aside0.mk hr1
 have HC0 := Aside0.mk hc0
 have HC1 := Aside0.mk hc1
 clear hr0 hr1 hc0 hc1
 replace h := Option.bind_eq_some_iff.mp h
 obtain ⟨b1, hv0, h⟩ := h
 have HV0 := Aside0.mk hv0
 clear hv0
 cases b1 with
 | false =>
  rw [if_neg (by decide)] at h
  simp only [Option.some.injEq, Prod.mk.injEq] at h
  obtain ⟨rfl, rfl⟩ := h
  go_enter Try.func49, Try.ntmps49
  go_wp2_with (first
    | ((with_reducible refine gate_dst (N := 3) rfl ?_); refine hand_box (fun g w1 => w1.heap[g]? = some (.cells #[.slice A1 l1.length c1] 33 (0, 0)) ∧ Below w.heap.size w w1 ∧ w.heap.size ≤ g) ?hg1 (N := 3) ?hd1 (cs := #[.slice A1 l1.length c1]) (t := 33) ?hr1 ?hF1 ?_; (case hd1 => rfl); (case hg1 => rfl); (case hr1 => first | (go_simp; done) | (go_simp; rfl)); (case hF1 => exact ⟨heap_alloc_new _ _, below_alloc (Below.refl _ _) _, Nat.le_refl _⟩); intro bw w1 ⟨hW, hb1, hge⟩; have HW := Aside0.mk hW; have HB1 := Aside0.mk hb1; have HGE := Aside0.mk hge; have d0 : w1.cell? ⟨bw, 0, none⟩ = some (.slice A1 l1.length c1) := (blk_cell hW 0).trans rfl; clear hW hb1 hge)
    | (go_at_call 20; refine (impl_ValidStockCoils.calls k A0 c0 l0 false w1 (Kd.C_below HR0.out HB1.out) HC0.out HV0.out).mono ?_; rintro e w2 ⟨rfl, hb2⟩; have d1 := pw_cell_below hb2 d0; have HW2 := Aside0.mk ((hb2.block bw (blk_lt HW.out)).trans HW.out); have HB2 := Aside0.mk (below_step HB1.out hb2); clear hb2 d0 HW HB1))
  go_ret2
  exact ⟨_, rfl, Kd.R_nil _ _ _ _ _, HB2.out⟩
 | true =>
  rw [if_pos rfl] at h
  replace h := Option.bind_eq_some_iff.mp h
  obtain ⟨b2, hv1, h⟩ := h
  have HV1 := Aside0.mk hv1
  clear hv1
  cases b2 with
  | false =>
   rw [if_neg (by decide)] at h
   simp only [Option.some.injEq, Prod.mk.injEq] at h
   obtain ⟨rfl, rfl⟩ := h
   go_enter Try.func49, Try.ntmps49
   go_wp2_with (first
    | ((with_reducible refine gate_dst (N := 3) rfl ?_); refine hand_box (fun g w1 => w1.heap[g]? = some (.cells #[.slice A1 l1.length c1] 33 (0, 0)) ∧ Below w.heap.size w w1 ∧ w.heap.size ≤ g) ?hg1 (N := 3) ?hd1 (cs := #[.slice A1 l1.length c1]) (t := 33) ?hr1 ?hF1 ?_; (case hd1 => rfl); (case hg1 => rfl); (case hr1 => first | (go_simp; done) | (go_simp; rfl)); (case hF1 => exact ⟨heap_alloc_new _ _, below_alloc (Below.refl _ _) _, Nat.le_refl _⟩); intro bw w1 ⟨hW, hb1, hge⟩; have HW := Aside0.mk hW; have HB1 := Aside0.mk hb1; have HGE := Aside0.mk hge; have d0 : w1.cell? ⟨bw, 0, none⟩ = some (.slice A1 l1.length c1) := (blk_cell hW 0).trans rfl; clear hW hb1 hge)
    | (go_at_call 20; refine (impl_ValidStockCoils.calls k A0 c0 l0 true w1 (Kd.C_below HR0.out HB1.out) HC0.out HV0.out).mono ?_; rintro e w2 ⟨rfl, hb2⟩; have d1 := pw_cell_below hb2 d0; have HW2 := Aside0.mk ((hb2.block bw (blk_lt HW.out)).trans HW.out); have HB2 := Aside0.mk (below_step HB1.out hb2); clear hb2 d0 HW HB1)
    | (go_at_call 24; refine (impl_ValidWants.calls k A1 c1 l1 false w2 (Kd.C_below HR1.out HB2.out) HC1.out HV1.out).mono ?_; rintro e w3 ⟨rfl, hb3⟩; have d2 := pw_cell_below hb3 d1; have HW3 := Aside0.mk ((hb3.block bw (blk_lt HW2.out)).trans HW2.out); have HB3 := Aside0.mk (below_step HB2.out hb3); clear hb3 d1 HW2 HB2))
   go_ret2
   exact ⟨_, rfl, Kd.R_nil _ _ _ _ _, HB3.out⟩
  | true =>
   rw [if_pos rfl] at h
   by_cases h0 : l0.length ≤ 7
   ·rw [if_pos h0] at h
    have g0 : decide (7 < (l0.length : Int)) = false := decide_eq_false (by omega)
    by_cases h1 : l1.length ≤ 7
    ·rw [if_pos h1] at h
     have g1 : decide (7 < (l1.length : Int)) = false := decide_eq_false (by omega)
     by_cases hf : fewC l0 l1
     ·rw [if_pos hf] at h
      have HF := Aside0.mk hf
      have HH := Aside0.mk h
      clear h hf
      obtain ⟨q, hq⟩ : ∃ q, wayC l1 l0 = q := ⟨_, rfl⟩
      have HQ := Aside0.mk hq
      clear hq
      cases q with
      | none =>
       go_enter Try.func49, Try.ntmps49
       go_wp2_with (first
        | ((with_reducible refine gate_dst (N := 3) rfl ?_); refine hand_box (fun g w1 => w1.heap[g]? = some (.cells #[.slice A1 l1.length c1] 33 (0, 0)) ∧ Below w.heap.size w w1 ∧ w.heap.size ≤ g) ?hg1 (N := 3) ?hd1 (cs := #[.slice A1 l1.length c1]) (t := 33) ?hr1 ?hF1 ?_; (case hd1 => rfl); (case hg1 => rfl); (case hr1 => first | (go_simp; done) | (go_simp; rfl)); (case hF1 => exact ⟨heap_alloc_new _ _, below_alloc (Below.refl _ _) _, Nat.le_refl _⟩); intro bw w1 ⟨hW, hb1, hge⟩; have HW := Aside0.mk hW; have HB1 := Aside0.mk hb1; have HGE := Aside0.mk hge; have d0 : w1.cell? ⟨bw, 0, none⟩ = some (.slice A1 l1.length c1) := (blk_cell hW 0).trans rfl; clear hW hb1 hge)
        | (go_at_call 20; refine (impl_ValidStockCoils.calls k A0 c0 l0 true w1 (Kd.C_below HR0.out HB1.out) HC0.out HV0.out).mono ?_; rintro e w2 ⟨rfl, hb2⟩; have d1 := pw_cell_below hb2 d0; have HW2 := Aside0.mk ((hb2.block bw (blk_lt HW.out)).trans HW.out); have HB2 := Aside0.mk (below_step HB1.out hb2); clear hb2 d0 HW HB1)
        | (go_at_call 24; refine (impl_ValidWants.calls k A1 c1 l1 true w2 (Kd.C_below HR1.out HB2.out) HC1.out HV1.out).mono ?_; rintro e w3 ⟨rfl, hb3⟩; have d2 := pw_cell_below hb3 d1; have HW3 := Aside0.mk ((hb3.block bw (blk_lt HW2.out)).trans HW2.out); have HB3 := Aside0.mk (below_step HB2.out hb3); clear hb3 d1 HW2 HB2)
        | ((with_reducible refine gate_dst (N := 25) rfl ?_); refine Kd.R_lit k45 w.heap.size 45 ?hg4 (w0 := w) (N := 25) ?hd4 (xs := ([] : List S45)) (inner := []) (ok := fun _ => True) (okp := fun _ => True) ?hr4 ?hp4 (fun _ hk => hk) trivial HB3.out HB3.out.size (by simp) ?_; (case hd4 => rfl); (case hg4 => rfl); (case hr4 => first | (go_simp; done) | (go_simp; rfl)); (case hp4 => exact (Reps.none _ _)); intro v4 w4 ho4 hb4 hg4 _; have HO4 := Aside0.mk ho4; have HB4 := Aside0.mk hb4; have HW4 := Aside0.mk ((hg4.block bw (blk_lt HW3.out) (by simp)).trans HW3.out); clear ho4 hb4 hg4 HB3 HW3 d2)
        | ((with_reducible refine gate_builtin (b := .append) (xs := #[.tmp 25, .tmp 26]) rfl ?_); at_builtin; refine Kd.R_append_rows k45 (w0 := w) w.heap.size rfl (.tmp 25) (.tmp 26) 25 45 (.agg #[(.string ⟨#[]⟩), (.int .i64 0)]) 24 rfl Try.underlying25 info45 rfl (by decide) (by omega) v4 [] l0 _ _ _ (fun _ => True) (fun _ => False) rfl rfl ?aO ?aR (fun _ _ h => h) (fun _ h => h.elim) ?aF ?aB ?aS ?aL ?_; (case aR => exact Kd.C_below HR0.out HB4.out); (case aB => exact HB4.out); (case aF => exact (fun _ _ => trivial)); (case aO => exact HO4.out); (case aS => exact HB4.out.size); (case aL => have := HF.out.1; rw [List.length_nil]; omega); intro v5 w5 ho5 hb5 hg5 _; rw [List.nil_append] at ho5; have ho6 := cells_of_R ho5; obtain ⟨A5, n5, e5⟩ := own_slice ho6; rw [e5] at ho6; rw [e5]; have HO5 := Aside0.mk ho6; have HB5 := Aside0.mk hb5; have HW5 := Aside0.mk (blk_grown HW4.out hg5 (own_ne (cells_of_R HO4.out) HW4.out (by decide))); clear ho5 ho6 hb5 hg5 e5 HO4 HB4 HW4)
        | ((with_reducible refine gate_dst (N := 6) rfl ?_); refine hand_box (fun g w6 => w6.heap[g]? = some (.cells #[.slice none 0 0] 25 (0, 0)) ∧ w6.ownsRow w.heap.size 45 2 (.slice A5 l0.length n5) l0.length (cellsC l0) ∧ w6.heap[bw]? = some (.cells #[.slice A1 l1.length c1] 33 (0, 0)) ∧ Below w.heap.size w w6 ∧ w.heap.size ≤ g) ?hg6 (N := 6) ?hd6 (cs := #[.slice none 0 0]) (t := 25) ?hr6 ?hF6 ?_; (case hd6 => rfl); (case hg6 => rfl); (case hr6 => first | (go_simp; done) | (go_simp; rfl)); (case hF6 => exact ⟨heap_alloc_new _ _, HO5.out.alloc _, blk_alloc HW5.out _, below_then HB5.out HB5.out.size (below_alloc (Below.refl _ _) _), HB5.out.size⟩); intro bl w6 h6; have e0 := (blk_cell h6.1 0).trans rfl; have e1 := blk_frozen h6.1 0; have H6 := Aside0.mk h6; clear h6 HO5 HB5 HW5)
        | (refine hand_store (fun w7 => w7.heap[bl]? = some (.cells #[.slice A5 l0.length n5] 25 (0, 0)) ∧ w7.ownsRow w.heap.size 45 2 (.slice A5 l0.length n5) l0.length (cellsC l0) ∧ w7.heap[bw]? = some (.cells #[.slice A1 l1.length c1] 33 (0, 0)) ∧ Below w.heap.size w w7) (t := 25) (p := 6) (v := .tmp 27) (w1 := w6.setCell ⟨bl, 0, none⟩ (.slice A5 l0.length n5)) ?hg7 rfl ?hN7 ?hr7 ?hF7 ?_; (case hg7 => rfl); (case hN7 => rfl); (case hr7 => first | (go_simp; done) | (go_simp; rfl)); (case hF7 => exact ⟨blk_set H6.out.1 0 _, own_setCell H6.out.2.1 (own_ne H6.out.2.1 H6.out.1 (by decide)) _, blk_far H6.out.2.2.1 (blk_ne H6.out.2.2.1 H6.out.1 (by decide)) _, H6.out.2.2.2.1.setCell H6.out.2.2.2.2 _⟩); clear e0 e1 H6; intro w7 h7; have H7 := Aside0.mk h7; clear h7)
        | ((with_reducible refine gate_dst (N := 28) rfl ?_); refine Kd.R_lit (Kd.int .i64) w.heap.size 2 ?hg8 (w0 := w) (N := 28) ?hd8 (xs := ([] : List Int)) (inner := []) (ok := fun _ => True) (okp := fun _ => True) ?hr8 ?hp8 (fun _ hk => hk) trivial H7.out.2.2.2 H7.out.2.2.2.size (by simp) ?_; (case hd8 => rfl); (case hg8 => rfl); (case hr8 => first | (go_simp; done) | (go_simp; rfl)); (case hp8 => exact (Reps.none _ _)); intro v8 w8 ho8 hb8 hg8 _; have ho9 := nums_of_R ho8; obtain ⟨A8, n8, e8⟩ := own_slice ho9; rw [e8] at ho9; rw [e8]; have H8 := Aside0.mk (show w8.heap[bl]? = some (.cells #[.slice A5 l0.length n5] 25 (0, 0)) ∧ w8.ownsRow w.heap.size 45 2 (.slice A5 l0.length n5) l0.length (cellsC l0) ∧ w8.heap[bw]? = some (.cells #[.slice A1 l1.length c1] 33 (0, 0)) ∧ Below w.heap.size w w8 ∧ w8.ownsRow w.heap.size 2 1 (.slice A8 ([] : List Int).length n8) ([] : List Int).length (nums .i64 []) from ⟨blk_grown H7.out.1 hg8 (by simp), H7.out.2.1.kept hg8 (by cases (Value.slice A5 l0.length n5).ownBlock <;> simp), blk_grown H7.out.2.2.1 hg8 (by simp), hb8, ho9⟩); clear ho8 ho9 hb8 hg8 e8 H7)
        | ((with_reducible refine gate_dst (N := 7) rfl ?_); refine hand_box (fun g w9 => w9.heap[g]? = some (.cells #[.slice none 0 0] 66 (0, 0)) ∧ w.heap.size ≤ g ∧ w9.heap[bl]? = some (.cells #[.slice A5 l0.length n5] 25 (0, 0)) ∧ w9.ownsRow w.heap.size 45 2 (.slice A5 l0.length n5) l0.length (cellsC l0) ∧ w9.heap[bw]? = some (.cells #[.slice A1 l1.length c1] 33 (0, 0)) ∧ Below w.heap.size w w9 ∧ w9.ownsRow w.heap.size 2 1 (.slice A8 ([] : List Int).length n8) ([] : List Int).length (nums .i64 [])) ?hg9 (N := 7) ?hd9 (cs := #[.slice none 0 0]) (t := 66) ?hr9 ?hF9 ?_; (case hd9 => rfl); (case hg9 => rfl); (case hr9 => first | (go_simp; done) | (go_simp; rfl)); (case hF9 => exact ⟨heap_alloc_new _ _, H8.out.2.2.2.1.size, blk_alloc H8.out.1 _, H8.out.2.1.alloc _, blk_alloc H8.out.2.2.1 _, below_then H8.out.2.2.2.1 H8.out.2.2.2.1.size (below_alloc (Below.refl _ _) _), H8.out.2.2.2.2.alloc _⟩); intro bf w9 h9; have e0 := (blk_cell h9.1 0).trans rfl; have e1 := blk_frozen h9.1 0; have H9 := Aside0.mk h9; clear h9 H8)
        | (refine hand_store (fun w10 => w10.heap[bf]? = some (.cells #[.slice A8 ([] : List Int).length n8] 66 (0, 0)) ∧ w.heap.size ≤ bf ∧ w10.heap[bl]? = some (.cells #[.slice A5 l0.length n5] 25 (0, 0)) ∧ w10.ownsRow w.heap.size 45 2 (.slice A5 l0.length n5) l0.length (cellsC l0) ∧ w10.heap[bw]? = some (.cells #[.slice A1 l1.length c1] 33 (0, 0)) ∧ Below w.heap.size w w10 ∧ w10.ownsRow w.heap.size 2 1 (.slice A8 ([] : List Int).length n8) ([] : List Int).length (nums .i64 [])) (t := 66) (p := 7) (v := .tmp 28) (w1 := w9.setCell ⟨bf, 0, none⟩ (.slice A8 ([] : List Int).length n8)) ?hga rfl ?hNa ?hra ?hFa ?_; (case hga => rfl); (case hNa => rfl); (case hra => first | (go_simp; done) | (go_simp; rfl)); (case hFa => exact ⟨blk_set H9.out.1 0 _, H9.out.2.1, blk_far H9.out.2.2.1 (blk_ne H9.out.2.2.1 H9.out.1 (by decide)) _, own_setCell H9.out.2.2.2.1 (own_ne H9.out.2.2.2.1 H9.out.1 (by decide)) _, blk_far H9.out.2.2.2.2.1 (blk_ne H9.out.2.2.2.2.1 H9.out.1 (by decide)) _, H9.out.2.2.2.2.2.1.setCell H9.out.2.1 _, own_setCell H9.out.2.2.2.2.2.2 (own_ne H9.out.2.2.2.2.2.2 H9.out.1 (by decide)) _⟩); clear e0 e1 H9; intro w10 ha; have HA := Aside0.mk ha; clear ha)
        | ((with_reducible refine gate_dst (N := 8) rfl ?_); refine hand_box (fun g w11 => w11.heap[g]? = some (.cells #[.nilFunc] 89 (0, 0)) ∧ w.heap.size ≤ g ∧ w11.heap[bf]? = some (.cells #[.slice A8 ([] : List Int).length n8] 66 (0, 0)) ∧ w.heap.size ≤ bf ∧ w11.heap[bl]? = some (.cells #[.slice A5 l0.length n5] 25 (0, 0)) ∧ w11.ownsRow w.heap.size 45 2 (.slice A5 l0.length n5) l0.length (cellsC l0) ∧ w11.heap[bw]? = some (.cells #[.slice A1 l1.length c1] 33 (0, 0)) ∧ Below w.heap.size w w11 ∧ w11.ownsRow w.heap.size 2 1 (.slice A8 ([] : List Int).length n8) ([] : List Int).length (nums .i64 [])) ?hgb (N := 8) ?hdb (cs := #[.nilFunc]) (t := 89) ?hrb ?hFb ?_; (case hdb => rfl); (case hgb => rfl); (case hrb => first | (go_simp; done) | (go_simp; rfl)); (case hFb => exact ⟨heap_alloc_new _ _, HA.out.2.2.2.2.2.1.size, blk_alloc HA.out.1 _, HA.out.2.1, blk_alloc HA.out.2.2.1 _, HA.out.2.2.2.1.alloc _, blk_alloc HA.out.2.2.2.2.1 _, below_then HA.out.2.2.2.2.2.1 HA.out.2.2.2.2.2.1.size (below_alloc (Below.refl _ _) _), HA.out.2.2.2.2.2.2.alloc _⟩); intro bn w11 hb; have e0 := (blk_cell hb.1 0).trans rfl; have e1 := blk_frozen hb.1 0; have HBb := Aside0.mk hb; clear hb HA)
        | (refine hand_store (fun w12 => CInv w w12 bf bw bl bn (.slice A5 l0.length n5) l0 A1 c1 l1 (.slice A8 ([] : List Int).length n8) []) (t := 89) (p := 8) (v := .tmp 29) (w1 := w11.setCell ⟨bn, 0, none⟩ (.func (.func 77) #[] #[.pointer (some ⟨bf, 0, none⟩), .pointer (some ⟨bw, 0, none⟩), .pointer (some ⟨bl, 0, none⟩), .pointer (some ⟨bn, 0, none⟩)])) ?hgc rfl ?hNc ?hrc ?hFc ?_; (case hgc => rfl); (case hNc => rfl); (case hrc => first | (go_simp; done) | (go_simp; rfl)); (case hFc => exact ⟨blk_far HBb.out.2.2.1 (blk_ne HBb.out.2.2.1 HBb.out.1 (by decide)) _, blk_far HBb.out.2.2.2.2.2.2.1 (blk_ne HBb.out.2.2.2.2.2.2.1 HBb.out.1 (by decide)) _, blk_far HBb.out.2.2.2.2.1 (blk_ne HBb.out.2.2.2.2.1 HBb.out.1 (by decide)) _, blk_set HBb.out.1 0 _, own_setCell HBb.out.2.2.2.2.2.1 (own_ne HBb.out.2.2.2.2.2.1 HBb.out.1 (by decide)) _, own_setCell HBb.out.2.2.2.2.2.2.2.2 (own_ne HBb.out.2.2.2.2.2.2.2.2 HBb.out.1 (by decide)) _, HR1.out, HBb.out.2.2.2.2.2.2.2.1.setCell HBb.out.2.1 _, HBb.out.2.2.2.1⟩); clear e0 e1 HBb; intro w12 hI; have n0 := hI.n0; have HI := Aside0.mk hI; clear hI)
        | (go_at_call 77; refine (fill_calls w bf bw bl bn A1 c1 l1 HF.out.2.2.2 HF.out.2.1 l1.length w12 _ l0 _ [] HI.out (by simp) HF.out.2.2.1 HF.out.1).mono ?_; intro e w13 hp; unfold CPost at hp; rw [show l1.drop ([] : List Int).length = l1 from rfl, HQ.out] at hp; obtain ⟨_, rfl, vt5, hI5⟩ := hp; have HI5 := Aside0.mk hI5; clear hI5 HI n0))
       have HH2 := HH.out
       rw [HQ.out] at HH2
       simp only [Option.some.injEq, Prod.mk.injEq] at HH2
       obtain ⟨rfl, rfl⟩ := HH2
       go_ret2
       exact ⟨_, rfl, Kd.R_nil _ _ _ _ _, HI5.out.below⟩
      | some r =>
       go_enter Try.func49, Try.ntmps49
       go_wp2_with (first
        | ((with_reducible refine gate_dst (N := 3) rfl ?_); refine hand_box (fun g w1 => w1.heap[g]? = some (.cells #[.slice A1 l1.length c1] 33 (0, 0)) ∧ Below w.heap.size w w1 ∧ w.heap.size ≤ g) ?hg1 (N := 3) ?hd1 (cs := #[.slice A1 l1.length c1]) (t := 33) ?hr1 ?hF1 ?_; (case hd1 => rfl); (case hg1 => rfl); (case hr1 => first | (go_simp; done) | (go_simp; rfl)); (case hF1 => exact ⟨heap_alloc_new _ _, below_alloc (Below.refl _ _) _, Nat.le_refl _⟩); intro bw w1 ⟨hW, hb1, hge⟩; have HW := Aside0.mk hW; have HB1 := Aside0.mk hb1; have HGE := Aside0.mk hge; have d0 : w1.cell? ⟨bw, 0, none⟩ = some (.slice A1 l1.length c1) := (blk_cell hW 0).trans rfl; clear hW hb1 hge)
        | (go_at_call 20; refine (impl_ValidStockCoils.calls k A0 c0 l0 true w1 (Kd.C_below HR0.out HB1.out) HC0.out HV0.out).mono ?_; rintro e w2 ⟨rfl, hb2⟩; have d1 := pw_cell_below hb2 d0; have HW2 := Aside0.mk ((hb2.block bw (blk_lt HW.out)).trans HW.out); have HB2 := Aside0.mk (below_step HB1.out hb2); clear hb2 d0 HW HB1)
        | (go_at_call 24; refine (impl_ValidWants.calls k A1 c1 l1 true w2 (Kd.C_below HR1.out HB2.out) HC1.out HV1.out).mono ?_; rintro e w3 ⟨rfl, hb3⟩; have d2 := pw_cell_below hb3 d1; have HW3 := Aside0.mk ((hb3.block bw (blk_lt HW2.out)).trans HW2.out); have HB3 := Aside0.mk (below_step HB2.out hb3); clear hb3 d1 HW2 HB2)
        | ((with_reducible refine gate_dst (N := 25) rfl ?_); refine Kd.R_lit k45 w.heap.size 45 ?hg4 (w0 := w) (N := 25) ?hd4 (xs := ([] : List S45)) (inner := []) (ok := fun _ => True) (okp := fun _ => True) ?hr4 ?hp4 (fun _ hk => hk) trivial HB3.out HB3.out.size (by simp) ?_; (case hd4 => rfl); (case hg4 => rfl); (case hr4 => first | (go_simp; done) | (go_simp; rfl)); (case hp4 => exact (Reps.none _ _)); intro v4 w4 ho4 hb4 hg4 _; have HO4 := Aside0.mk ho4; have HB4 := Aside0.mk hb4; have HW4 := Aside0.mk ((hg4.block bw (blk_lt HW3.out) (by simp)).trans HW3.out); clear ho4 hb4 hg4 HB3 HW3 d2)
        | ((with_reducible refine gate_builtin (b := .append) (xs := #[.tmp 25, .tmp 26]) rfl ?_); at_builtin; refine Kd.R_append_rows k45 (w0 := w) w.heap.size rfl (.tmp 25) (.tmp 26) 25 45 (.agg #[(.string ⟨#[]⟩), (.int .i64 0)]) 24 rfl Try.underlying25 info45 rfl (by decide) (by omega) v4 [] l0 _ _ _ (fun _ => True) (fun _ => False) rfl rfl ?aO ?aR (fun _ _ h => h) (fun _ h => h.elim) ?aF ?aB ?aS ?aL ?_; (case aR => exact Kd.C_below HR0.out HB4.out); (case aB => exact HB4.out); (case aF => exact (fun _ _ => trivial)); (case aO => exact HO4.out); (case aS => exact HB4.out.size); (case aL => have := HF.out.1; rw [List.length_nil]; omega); intro v5 w5 ho5 hb5 hg5 _; rw [List.nil_append] at ho5; have ho6 := cells_of_R ho5; obtain ⟨A5, n5, e5⟩ := own_slice ho6; rw [e5] at ho6; rw [e5]; have HO5 := Aside0.mk ho6; have HB5 := Aside0.mk hb5; have HW5 := Aside0.mk (blk_grown HW4.out hg5 (own_ne (cells_of_R HO4.out) HW4.out (by decide))); clear ho5 ho6 hb5 hg5 e5 HO4 HB4 HW4)
        | ((with_reducible refine gate_dst (N := 6) rfl ?_); refine hand_box (fun g w6 => w6.heap[g]? = some (.cells #[.slice none 0 0] 25 (0, 0)) ∧ w6.ownsRow w.heap.size 45 2 (.slice A5 l0.length n5) l0.length (cellsC l0) ∧ w6.heap[bw]? = some (.cells #[.slice A1 l1.length c1] 33 (0, 0)) ∧ Below w.heap.size w w6 ∧ w.heap.size ≤ g) ?hg6 (N := 6) ?hd6 (cs := #[.slice none 0 0]) (t := 25) ?hr6 ?hF6 ?_; (case hd6 => rfl); (case hg6 => rfl); (case hr6 => first | (go_simp; done) | (go_simp; rfl)); (case hF6 => exact ⟨heap_alloc_new _ _, HO5.out.alloc _, blk_alloc HW5.out _, below_then HB5.out HB5.out.size (below_alloc (Below.refl _ _) _), HB5.out.size⟩); intro bl w6 h6; have e0 := (blk_cell h6.1 0).trans rfl; have e1 := blk_frozen h6.1 0; have H6 := Aside0.mk h6; clear h6 HO5 HB5 HW5)
        | (refine hand_store (fun w7 => w7.heap[bl]? = some (.cells #[.slice A5 l0.length n5] 25 (0, 0)) ∧ w7.ownsRow w.heap.size 45 2 (.slice A5 l0.length n5) l0.length (cellsC l0) ∧ w7.heap[bw]? = some (.cells #[.slice A1 l1.length c1] 33 (0, 0)) ∧ Below w.heap.size w w7) (t := 25) (p := 6) (v := .tmp 27) (w1 := w6.setCell ⟨bl, 0, none⟩ (.slice A5 l0.length n5)) ?hg7 rfl ?hN7 ?hr7 ?hF7 ?_; (case hg7 => rfl); (case hN7 => rfl); (case hr7 => first | (go_simp; done) | (go_simp; rfl)); (case hF7 => exact ⟨blk_set H6.out.1 0 _, own_setCell H6.out.2.1 (own_ne H6.out.2.1 H6.out.1 (by decide)) _, blk_far H6.out.2.2.1 (blk_ne H6.out.2.2.1 H6.out.1 (by decide)) _, H6.out.2.2.2.1.setCell H6.out.2.2.2.2 _⟩); clear e0 e1 H6; intro w7 h7; have H7 := Aside0.mk h7; clear h7)
        | ((with_reducible refine gate_dst (N := 28) rfl ?_); refine Kd.R_lit (Kd.int .i64) w.heap.size 2 ?hg8 (w0 := w) (N := 28) ?hd8 (xs := ([] : List Int)) (inner := []) (ok := fun _ => True) (okp := fun _ => True) ?hr8 ?hp8 (fun _ hk => hk) trivial H7.out.2.2.2 H7.out.2.2.2.size (by simp) ?_; (case hd8 => rfl); (case hg8 => rfl); (case hr8 => first | (go_simp; done) | (go_simp; rfl)); (case hp8 => exact (Reps.none _ _)); intro v8 w8 ho8 hb8 hg8 _; have ho9 := nums_of_R ho8; obtain ⟨A8, n8, e8⟩ := own_slice ho9; rw [e8] at ho9; rw [e8]; have H8 := Aside0.mk (show w8.heap[bl]? = some (.cells #[.slice A5 l0.length n5] 25 (0, 0)) ∧ w8.ownsRow w.heap.size 45 2 (.slice A5 l0.length n5) l0.length (cellsC l0) ∧ w8.heap[bw]? = some (.cells #[.slice A1 l1.length c1] 33 (0, 0)) ∧ Below w.heap.size w w8 ∧ w8.ownsRow w.heap.size 2 1 (.slice A8 ([] : List Int).length n8) ([] : List Int).length (nums .i64 []) from ⟨blk_grown H7.out.1 hg8 (by simp), H7.out.2.1.kept hg8 (by cases (Value.slice A5 l0.length n5).ownBlock <;> simp), blk_grown H7.out.2.2.1 hg8 (by simp), hb8, ho9⟩); clear ho8 ho9 hb8 hg8 e8 H7)
        | ((with_reducible refine gate_dst (N := 7) rfl ?_); refine hand_box (fun g w9 => w9.heap[g]? = some (.cells #[.slice none 0 0] 66 (0, 0)) ∧ w.heap.size ≤ g ∧ w9.heap[bl]? = some (.cells #[.slice A5 l0.length n5] 25 (0, 0)) ∧ w9.ownsRow w.heap.size 45 2 (.slice A5 l0.length n5) l0.length (cellsC l0) ∧ w9.heap[bw]? = some (.cells #[.slice A1 l1.length c1] 33 (0, 0)) ∧ Below w.heap.size w w9 ∧ w9.ownsRow w.heap.size 2 1 (.slice A8 ([] : List Int).length n8) ([] : List Int).length (nums .i64 [])) ?hg9 (N := 7) ?hd9 (cs := #[.slice none 0 0]) (t := 66) ?hr9 ?hF9 ?_; (case hd9 => rfl); (case hg9 => rfl); (case hr9 => first | (go_simp; done) | (go_simp; rfl)); (case hF9 => exact ⟨heap_alloc_new _ _, H8.out.2.2.2.1.size, blk_alloc H8.out.1 _, H8.out.2.1.alloc _, blk_alloc H8.out.2.2.1 _, below_then H8.out.2.2.2.1 H8.out.2.2.2.1.size (below_alloc (Below.refl _ _) _), H8.out.2.2.2.2.alloc _⟩); intro bf w9 h9; have e0 := (blk_cell h9.1 0).trans rfl; have e1 := blk_frozen h9.1 0; have H9 := Aside0.mk h9; clear h9 H8)
        | (refine hand_store (fun w10 => w10.heap[bf]? = some (.cells #[.slice A8 ([] : List Int).length n8] 66 (0, 0)) ∧ w.heap.size ≤ bf ∧ w10.heap[bl]? = some (.cells #[.slice A5 l0.length n5] 25 (0, 0)) ∧ w10.ownsRow w.heap.size 45 2 (.slice A5 l0.length n5) l0.length (cellsC l0) ∧ w10.heap[bw]? = some (.cells #[.slice A1 l1.length c1] 33 (0, 0)) ∧ Below w.heap.size w w10 ∧ w10.ownsRow w.heap.size 2 1 (.slice A8 ([] : List Int).length n8) ([] : List Int).length (nums .i64 [])) (t := 66) (p := 7) (v := .tmp 28) (w1 := w9.setCell ⟨bf, 0, none⟩ (.slice A8 ([] : List Int).length n8)) ?hga rfl ?hNa ?hra ?hFa ?_; (case hga => rfl); (case hNa => rfl); (case hra => first | (go_simp; done) | (go_simp; rfl)); (case hFa => exact ⟨blk_set H9.out.1 0 _, H9.out.2.1, blk_far H9.out.2.2.1 (blk_ne H9.out.2.2.1 H9.out.1 (by decide)) _, own_setCell H9.out.2.2.2.1 (own_ne H9.out.2.2.2.1 H9.out.1 (by decide)) _, blk_far H9.out.2.2.2.2.1 (blk_ne H9.out.2.2.2.2.1 H9.out.1 (by decide)) _, H9.out.2.2.2.2.2.1.setCell H9.out.2.1 _, own_setCell H9.out.2.2.2.2.2.2 (own_ne H9.out.2.2.2.2.2.2 H9.out.1 (by decide)) _⟩); clear e0 e1 H9; intro w10 ha; have HA := Aside0.mk ha; clear ha)
        | ((with_reducible refine gate_dst (N := 8) rfl ?_); refine hand_box (fun g w11 => w11.heap[g]? = some (.cells #[.nilFunc] 89 (0, 0)) ∧ w.heap.size ≤ g ∧ w11.heap[bf]? = some (.cells #[.slice A8 ([] : List Int).length n8] 66 (0, 0)) ∧ w.heap.size ≤ bf ∧ w11.heap[bl]? = some (.cells #[.slice A5 l0.length n5] 25 (0, 0)) ∧ w11.ownsRow w.heap.size 45 2 (.slice A5 l0.length n5) l0.length (cellsC l0) ∧ w11.heap[bw]? = some (.cells #[.slice A1 l1.length c1] 33 (0, 0)) ∧ Below w.heap.size w w11 ∧ w11.ownsRow w.heap.size 2 1 (.slice A8 ([] : List Int).length n8) ([] : List Int).length (nums .i64 [])) ?hgb (N := 8) ?hdb (cs := #[.nilFunc]) (t := 89) ?hrb ?hFb ?_; (case hdb => rfl); (case hgb => rfl); (case hrb => first | (go_simp; done) | (go_simp; rfl)); (case hFb => exact ⟨heap_alloc_new _ _, HA.out.2.2.2.2.2.1.size, blk_alloc HA.out.1 _, HA.out.2.1, blk_alloc HA.out.2.2.1 _, HA.out.2.2.2.1.alloc _, blk_alloc HA.out.2.2.2.2.1 _, below_then HA.out.2.2.2.2.2.1 HA.out.2.2.2.2.2.1.size (below_alloc (Below.refl _ _) _), HA.out.2.2.2.2.2.2.alloc _⟩); intro bn w11 hb; have e0 := (blk_cell hb.1 0).trans rfl; have e1 := blk_frozen hb.1 0; have HBb := Aside0.mk hb; clear hb HA)
        | (refine hand_store (fun w12 => CInv w w12 bf bw bl bn (.slice A5 l0.length n5) l0 A1 c1 l1 (.slice A8 ([] : List Int).length n8) []) (t := 89) (p := 8) (v := .tmp 29) (w1 := w11.setCell ⟨bn, 0, none⟩ (.func (.func 77) #[] #[.pointer (some ⟨bf, 0, none⟩), .pointer (some ⟨bw, 0, none⟩), .pointer (some ⟨bl, 0, none⟩), .pointer (some ⟨bn, 0, none⟩)])) ?hgc rfl ?hNc ?hrc ?hFc ?_; (case hgc => rfl); (case hNc => rfl); (case hrc => first | (go_simp; done) | (go_simp; rfl)); (case hFc => exact ⟨blk_far HBb.out.2.2.1 (blk_ne HBb.out.2.2.1 HBb.out.1 (by decide)) _, blk_far HBb.out.2.2.2.2.2.2.1 (blk_ne HBb.out.2.2.2.2.2.2.1 HBb.out.1 (by decide)) _, blk_far HBb.out.2.2.2.2.1 (blk_ne HBb.out.2.2.2.2.1 HBb.out.1 (by decide)) _, blk_set HBb.out.1 0 _, own_setCell HBb.out.2.2.2.2.2.1 (own_ne HBb.out.2.2.2.2.2.1 HBb.out.1 (by decide)) _, own_setCell HBb.out.2.2.2.2.2.2.2.2 (own_ne HBb.out.2.2.2.2.2.2.2.2 HBb.out.1 (by decide)) _, HR1.out, HBb.out.2.2.2.2.2.2.2.1.setCell HBb.out.2.1 _, HBb.out.2.2.2.1⟩); clear e0 e1 HBb; intro w12 hI; have n0 := hI.n0; have HI := Aside0.mk hI; clear hI)
        | (go_at_call 77; refine (fill_calls w bf bw bl bn A1 c1 l1 HF.out.2.2.2 HF.out.2.1 l1.length w12 _ l0 _ [] HI.out (by simp) HF.out.2.2.1 HF.out.1).mono ?_; intro e w13 hp; unfold CPost at hp; rw [show l1.drop ([] : List Int).length = l1 from rfl, HQ.out] at hp; obtain ⟨_, rfl, cs5, vt5, hI5⟩ := hp; rw [List.nil_append] at hI5; obtain ⟨Az, nz, ez⟩ := own_slice hI5.taken; rw [ez] at hI5; clear ez; have d0 := hI5.f0; have HI5 := Aside0.mk hI5; clear hI5 HI n0))
       have HH2 := HH.out
       rw [HQ.out] at HH2
       simp only [Option.some.injEq, Prod.mk.injEq] at HH2
       obtain ⟨rfl, rfl⟩ := HH2
       go_ret2
       exact ⟨_, rfl, R_of_nums HI5.out.taken, HI5.out.below⟩
     ·rw [if_neg hf] at h
      exact absurd h (by simp)
    ·rw [if_neg h1] at h
     have g1 : decide (7 < (l1.length : Int)) = true := decide_eq_true (by omega)
     simp only [Option.some.injEq, Prod.mk.injEq] at h
     obtain ⟨rfl, rfl⟩ := h
     go_enter Try.func49, Try.ntmps49
     go_wp2_with (first
    | ((with_reducible refine gate_dst (N := 3) rfl ?_); refine hand_box (fun g w1 => w1.heap[g]? = some (.cells #[.slice A1 l1.length c1] 33 (0, 0)) ∧ Below w.heap.size w w1 ∧ w.heap.size ≤ g) ?hg1 (N := 3) ?hd1 (cs := #[.slice A1 l1.length c1]) (t := 33) ?hr1 ?hF1 ?_; (case hd1 => rfl); (case hg1 => rfl); (case hr1 => first | (go_simp; done) | (go_simp; rfl)); (case hF1 => exact ⟨heap_alloc_new _ _, below_alloc (Below.refl _ _) _, Nat.le_refl _⟩); intro bw w1 ⟨hW, hb1, hge⟩; have HW := Aside0.mk hW; have HB1 := Aside0.mk hb1; have HGE := Aside0.mk hge; have d0 : w1.cell? ⟨bw, 0, none⟩ = some (.slice A1 l1.length c1) := (blk_cell hW 0).trans rfl; clear hW hb1 hge)
    | (go_at_call 20; refine (impl_ValidStockCoils.calls k A0 c0 l0 true w1 (Kd.C_below HR0.out HB1.out) HC0.out HV0.out).mono ?_; rintro e w2 ⟨rfl, hb2⟩; have d1 := pw_cell_below hb2 d0; have HW2 := Aside0.mk ((hb2.block bw (blk_lt HW.out)).trans HW.out); have HB2 := Aside0.mk (below_step HB1.out hb2); clear hb2 d0 HW HB1)
    | (go_at_call 24; refine (impl_ValidWants.calls k A1 c1 l1 true w2 (Kd.C_below HR1.out HB2.out) HC1.out HV1.out).mono ?_; rintro e w3 ⟨rfl, hb3⟩; have d2 := pw_cell_below hb3 d1; have HW3 := Aside0.mk ((hb3.block bw (blk_lt HW2.out)).trans HW2.out); have HB3 := Aside0.mk (below_step HB2.out hb3); clear hb3 d1 HW2 HB2))
     go_ret2
     exact ⟨_, rfl, Kd.R_nil _ _ _ _ _, HB3.out⟩
   ·rw [if_neg h0] at h
    have g0 : decide (7 < (l0.length : Int)) = true := decide_eq_true (by omega)
    simp only [Option.some.injEq, Prod.mk.injEq] at h
    obtain ⟨rfl, rfl⟩ := h
    go_enter Try.func49, Try.ntmps49
    go_wp2_with (first
    | ((with_reducible refine gate_dst (N := 3) rfl ?_); refine hand_box (fun g w1 => w1.heap[g]? = some (.cells #[.slice A1 l1.length c1] 33 (0, 0)) ∧ Below w.heap.size w w1 ∧ w.heap.size ≤ g) ?hg1 (N := 3) ?hd1 (cs := #[.slice A1 l1.length c1]) (t := 33) ?hr1 ?hF1 ?_; (case hd1 => rfl); (case hg1 => rfl); (case hr1 => first | (go_simp; done) | (go_simp; rfl)); (case hF1 => exact ⟨heap_alloc_new _ _, below_alloc (Below.refl _ _) _, Nat.le_refl _⟩); intro bw w1 ⟨hW, hb1, hge⟩; have HW := Aside0.mk hW; have HB1 := Aside0.mk hb1; have HGE := Aside0.mk hge; have d0 : w1.cell? ⟨bw, 0, none⟩ = some (.slice A1 l1.length c1) := (blk_cell hW 0).trans rfl; clear hW hb1 hge)
    | (go_at_call 20; refine (impl_ValidStockCoils.calls k A0 c0 l0 true w1 (Kd.C_below HR0.out HB1.out) HC0.out HV0.out).mono ?_; rintro e w2 ⟨rfl, hb2⟩; have d1 := pw_cell_below hb2 d0; have HW2 := Aside0.mk ((hb2.block bw (blk_lt HW.out)).trans HW.out); have HB2 := Aside0.mk (below_step HB1.out hb2); clear hb2 d0 HW HB1)
    | (go_at_call 24; refine (impl_ValidWants.calls k A1 c1 l1 true w2 (Kd.C_below HR1.out HB2.out) HC1.out HV1.out).mono ?_; rintro e w3 ⟨rfl, hb3⟩; have d2 := pw_cell_below hb3 d1; have HW3 := Aside0.mk ((hb3.block bw (blk_lt HW2.out)).trans HW2.out); have HB3 := Aside0.mk (below_step HB2.out hb3); clear hb3 d1 HW2 HB2))
    go_ret2
    exact ⟨_, rfl, Kd.R_nil _ _ _ _ _, HB3.out⟩


end Go.Proofs.Ytbglfbmnibhgeaa.P
