/- Texts of this claim, packed: Px0, Px11, H2, H3. -/
import Derived.Test.YtfkiamccipoioaaProg
import Derived.Below
import Derived.Deep.Draws
import Derived.Deep.AppendLies
import Derived.Maps.AppendAt
import Derived.OwnWalk
import Derived.Laws.BytesArg
import Derived.Laws.MakeOwn
import Derived.Laws.OwnMore
import Derived.Deep.OwnRows
import Derived.Tactics
import Derived.Lib.ConvBytes
import Derived.Laws.Slices
import Derived.WalkKit
import Derived.KernelRfl
import Derived.RowKit3
import Derived.Deep.LoopGhost
import Derived.Deep.QuietTactic
import Derived.BigQuiet
import Derived.WideLaws
import Derived.Deep.DeepCutAuto
import Derived.Deep.CutBlock
import Derived.Deep.RegionHeld3
import Derived.Laws.Rows
import Derived.Lib.AppendStr
import Derived.ArgAppend
import Derived.Laws.IdiomCopy
import Derived.OrdersHeld
import Derived.Laws.BitsLemmas
import Derived.RowKit
import Derived.Shelf.Abstract
import Derived.Test.YtfkiamccipoioaaZFnExactStuckLines2
section
-- Written by gprint.py (own program, over the printer of the kit) out of the translation. Lean checks it.
namespace Go.Proofs.Ytfkiamccipoioaa.P
open Go.RowKit Go.Proofs.YtfkiamccipoioaaW.PrintWords Go.Proofs.YtfkiamccipoioaaW.PrintLast Go.Proofs.YtfkiamccipoioaaW.PrintMore Go.Proofs.YtfkiamccipoioaaW.Pk
open Bool renaming true → T_, false → F_
open List renaming setIfInBounds_toArray → sT_, set_cons_zero → s0_, set_cons_succ → sS_
attribute [local go_sem] max2_int min2_int max_two min_two max_three min_three max_four min_four   -- for this text's walks alone
set_option linter.unusedVariables false
set_option linter.unusedSimpArgs false



def errW : Option Int → Value
 | none => .nilIface
 | some c => .iface 0 (.int .i64 c)
theorem errW_none : errW none = .nilIface := rfl
theorem errW_some (c : Int) : errW (some c) = .iface 0 (.int .i64 c) := rfl

theorem info2 : (Try.prog.info? 2).map (fun i => (i.zero, i.size, i.bytes)) = some (some (.int .i64 0), 1, 8) := by kernel_rfl
theorem info3 : (Try.prog.info? 3).map (fun i => (i.zero, i.size, i.bytes)) = some (some (.int .i64 0), 1, 8) := by kernel_rfl
theorem info4 : (Try.prog.info? 4).map (fun i => (i.zero, i.size, i.bytes)) = some (some (.bool false), 1, 1) := by kernel_rfl
theorem info9 : (Try.prog.info? 9).map (fun i => (i.zero, i.size, i.bytes)) = some (some (.string ⟨#[]⟩), 1, 16) := by kernel_rfl
theorem info22 : (Try.prog.info? 22).map (fun i => (i.zero, i.size, i.bytes)) = some (some (.slice none 0 0), 1, 24) := by kernel_rfl
-- the values' own types
def rd_L1 (xs : List (List Int)) (i : Int) : (List Int) := xs.getD i.toNat ([] : List Int)
theorem at_L1 {w : World} {A : Option Addr} {n : Nat} {xs : List (List Int)} (h : Kd.C (Kd.slice 2 (Kd.int .i64)) w A n xs) (i : Int) (h0 : 0 ≤ i) (h1 : i < n) : ∃ ad A0 c0, A = some ad ∧ w.cell? (ad.add i.toNat) = some (.slice A0 (rd_L1 xs i).length c0) ∧ (rd_L1 xs i).length ≤ c0 ∧ (Kd.int .i64).C w A0 (rd_L1 xs i).length (rd_L1 xs i) := by
 obtain ⟨ad, c, e, _, hK, hc0⟩ := Kd.C_get h ([] : List Int) i h0 h1
 have hc : ∀ j u, c[j]? = some u → w.cell? (ad.add (i.toNat * 1 + j)) = some u := hc0
 obtain ⟨A0, c0, rfl, l0, g0⟩ := hK
 exact ⟨ad, A0, c0, e, by have hq := hc 0 _ rfl; rwa [Nat.mul_one, Nat.add_zero] at hq, l0, g0⟩

/-- A state of type 28 at block g of W; what its slices lead to came in by w0. -/
def IsS28 (w0 W : World) (g : Nat) (f0 : List Int) (f1 : List (List Int)) : Prop := ∃ A0 c0, ∃ A1 c1, W.heap[g]? = some (.cells #[.slice A0 f0.length c0, .slice A1 f1.length c1] 28 (0, 0)) ∧ w0.heap.size ≤ g ∧ Kd.C (Kd.int .i64) w0 A0 f0.length f0 ∧ Kd.C (Kd.slice 2 (Kd.int .i64)) w0 A1 f1.length f1
theorem IsS28.grown {w0 W : World} {g : Nat} {f0 : List Int} {f1 : List (List Int)} {W1 : World} {row : Option Nat} (h : IsS28 w0 W g f0 f1) (hw : W.grownBy W1 row) (hne : some g ≠ row) : IsS28 w0 W1 g f0 f1 := by
 obtain ⟨A0, c0, A1, c1, hb, hg, hr0, hr1⟩ := h
 exact ⟨A0, c0, A1, c1, blk_grown hb hw hne, hg, hr0, hr1⟩
theorem IsS28.fresh {w0 W : World} {g : Nat} {f0 : List Int} {f1 : List (List Int)} (h : IsS28 w0 W g f0 f1) : ∀ k, W.heap.size ≤ k → k ≠ g := by
 obtain ⟨A0, c0, A1, c1, hb, hg, hr0, hr1⟩ := h
 exact Kd.freshB hb
theorem IsS28.kept {w0 W : World} {g : Nat} {f0 : List Int} {f1 : List (List Int)} {W1 : World} {S : Nat → Prop} (h : IsS28 w0 W g f0 f1) (hk : Kept W W1 S) (hne : ¬ S g) : IsS28 w0 W1 g f0 f1 := by
 obtain ⟨A0, c0, A1, c1, hb, hg, hr0, hr1⟩ := h
 exact ⟨A0, c0, A1, c1, blk_kept hb hk hne, hg, hr0, hr1⟩
theorem IsS28.below {w0 W : World} {g : Nat} {f0 : List Int} {f1 : List (List Int)} {W1 : World} (h : IsS28 w0 W g f0 f1) (hw : Below W.heap.size W W1) : IsS28 w0 W1 g f0 f1 := h.grown (grown_of_below hw none) (by simp)
theorem IsS28.alloc {w0 W : World} {g : Nat} {f0 : List Int} {f1 : List (List Int)} (h : IsS28 w0 W g f0 f1) (o : Obj) : IsS28 w0 (W.alloc o) g f0 f1 := h.below (below_alloc (Below.refl _ _) o)
theorem IsS28.drewN {w0 W : World} {g : Nat} {f0 : List Int} {f1 : List (List Int)} (h : IsS28 w0 W g f0 f1) (m : Nat) : IsS28 w0 (W.drewN m) g f0 f1 := h
theorem IsS28.drew {w0 W : World} {g : Nat} {f0 : List Int} {f1 : List (List Int)} (h : IsS28 w0 W g f0 f1) : IsS28 w0 W.drew g f0 f1 := h
theorem IsS28.at_ {w0 W : World} {g : Nat} {f0 : List Int} {f1 : List (List Int)} {w' : World} {m : Nat} (hq : W.drewN m = w') (h : IsS28 w0 W g f0 f1) : IsS28 w0 w' g f0 f1 := by subst hq; exact IsS28.drewN h m
theorem IsS28.apart {w0 W : World} {g : Nat} {f0 : List Int} {f1 : List (List Int)} {α : Type} {d : Kd α} {e : Nat} {base : Nat} {ok : Nat → Prop} {v : Value} {xs : List α} (h : IsS28 w0 W g f0 f1) (ho : d.R e W base ok v xs) (ht : ∀ q, q ∈ e :: d.E → q ≠ 28) : d.R e W base (fun k => ok k ∧ k ≠ g) v xs := by
 obtain ⟨A0, c0, A1, c1, hb, hg, hr0, hr1⟩ := h
 exact Kd.R_types ho hb ht
theorem IsS28.own_ne {w0 W : World} {g : Nat} {f0 : List Int} {f1 : List (List Int)} {α : Type} {d : Kd α} {e : Nat} {base : Nat} {ok : Nat → Prop} {v : Value} {xs : List α} (h : IsS28 w0 W g f0 f1) (ho : d.R e W base ok v xs) (ht : e ≠ 28) : some g ≠ v.ownBlock := by
 obtain ⟨A0, c0, A1, c1, hb, hg, hr0, hr1⟩ := h
 exact Kd.R_ne ho hb ht
theorem IsS28.lt {w0 W : World} {g : Nat} {f0 : List Int} {f1 : List (List Int)} (h : IsS28 w0 W g f0 f1) : g < W.heap.size := by
 obtain ⟨A0, c0, A1, c1, hb, hg, hr0, hr1⟩ := h
 exact blk_lt hb
theorem IsS28.ge {w0 W : World} {g : Nat} {f0 : List Int} {f1 : List (List Int)} (h : IsS28 w0 W g f0 f1) : w0.heap.size ≤ g := by
 obtain ⟨A0, c0, A1, c1, hb, hg, hr0, hr1⟩ := h
 exact hg
theorem IsS28.far {w0 W : World} {g : Nat} {f0 : List Int} {f1 : List (List Int)} {p : Addr} (h : IsS28 w0 W g f0 f1) (hne : g ≠ p.block) (u : Value) : IsS28 w0 (W.setCell p u) g f0 f1 := by
 obtain ⟨A0, c0, A1, c1, hb, hg, hr0, hr1⟩ := h
 exact ⟨A0, c0, A1, c1, blk_far hb hne u, hg, hr0, hr1⟩
theorem cellS28_0 {W : World} {g : Nat} {A0 : Option Addr} {c0 : Nat} {A1 : Option Addr} {c1 : Nat} {f0 : List Int} {f1 : List (List Int)} (h : W.heap[g]? = some (.cells #[.slice A0 f0.length c0, .slice A1 f1.length c1] 28 (0, 0))) : W.cell? ⟨g, 0, none⟩ = some (.slice A0 f0.length c0) := (blk_cell h 0).trans rfl
theorem cellS28_1 {W : World} {g : Nat} {A0 : Option Addr} {c0 : Nat} {A1 : Option Addr} {c1 : Nat} {f0 : List Int} {f1 : List (List Int)} (h : W.heap[g]? = some (.cells #[.slice A0 f0.length c0, .slice A1 f1.length c1] 28 (0, 0))) : W.cell? ⟨g, 1, none⟩ = some (.slice A1 f1.length c1) := (blk_cell h 1).trans rfl
theorem IsS28.new (w0 W : World) (A0 : Option Addr) (c0 : Nat) (A1 : Option Addr) (c1 : Nat) (f0 : List Int) (f1 : List (List Int)) (hB : Below w0.heap.size w0 W) (hr0 : Kd.C (Kd.int .i64) w0 A0 f0.length f0) (hr1 : Kd.C (Kd.slice 2 (Kd.int .i64)) w0 A1 f1.length f1) : IsS28 w0 (W.alloc (.cells #[.slice A0 f0.length c0, .slice A1 f1.length c1] 28)) W.heap.size f0 f1 := ⟨A0, c0, A1, c1, by simpa using heap_alloc_new W _, hB.size, hr0, hr1⟩

/-- A state of type 92 at block g of W; what its slices lead to came in by w0. -/
def IsS92 (w0 W : World) (g : Nat) (f0 : List Int) (f1 : Int) (f2 : Int) : Prop := ∃ A0 c0, W.heap[g]? = some (.cells #[.slice A0 f0.length c0, .int .i64 f1, .int .u64 f2] 92 (0, 0)) ∧ w0.heap.size ≤ g ∧ Kd.C (Kd.int .u8) w0 A0 f0.length f0
theorem IsS92.grown {w0 W : World} {g : Nat} {f0 : List Int} {f1 : Int} {f2 : Int} {W1 : World} {row : Option Nat} (h : IsS92 w0 W g f0 f1 f2) (hw : W.grownBy W1 row) (hne : some g ≠ row) : IsS92 w0 W1 g f0 f1 f2 := by
 obtain ⟨A0, c0, hb, hg, hr0⟩ := h
 exact ⟨A0, c0, blk_grown hb hw hne, hg, hr0⟩
theorem IsS92.fresh {w0 W : World} {g : Nat} {f0 : List Int} {f1 : Int} {f2 : Int} (h : IsS92 w0 W g f0 f1 f2) : ∀ k, W.heap.size ≤ k → k ≠ g := by
 obtain ⟨A0, c0, hb, hg, hr0⟩ := h
 exact Kd.freshB hb
theorem IsS92.kept {w0 W : World} {g : Nat} {f0 : List Int} {f1 : Int} {f2 : Int} {W1 : World} {S : Nat → Prop} (h : IsS92 w0 W g f0 f1 f2) (hk : Kept W W1 S) (hne : ¬ S g) : IsS92 w0 W1 g f0 f1 f2 := by
 obtain ⟨A0, c0, hb, hg, hr0⟩ := h
 exact ⟨A0, c0, blk_kept hb hk hne, hg, hr0⟩
theorem IsS92.below {w0 W : World} {g : Nat} {f0 : List Int} {f1 : Int} {f2 : Int} {W1 : World} (h : IsS92 w0 W g f0 f1 f2) (hw : Below W.heap.size W W1) : IsS92 w0 W1 g f0 f1 f2 := h.grown (grown_of_below hw none) (by simp)
theorem IsS92.alloc {w0 W : World} {g : Nat} {f0 : List Int} {f1 : Int} {f2 : Int} (h : IsS92 w0 W g f0 f1 f2) (o : Obj) : IsS92 w0 (W.alloc o) g f0 f1 f2 := h.below (below_alloc (Below.refl _ _) o)
theorem IsS92.drewN {w0 W : World} {g : Nat} {f0 : List Int} {f1 : Int} {f2 : Int} (h : IsS92 w0 W g f0 f1 f2) (m : Nat) : IsS92 w0 (W.drewN m) g f0 f1 f2 := h
theorem IsS92.drew {w0 W : World} {g : Nat} {f0 : List Int} {f1 : Int} {f2 : Int} (h : IsS92 w0 W g f0 f1 f2) : IsS92 w0 W.drew g f0 f1 f2 := h
theorem IsS92.at_ {w0 W : World} {g : Nat} {f0 : List Int} {f1 : Int} {f2 : Int} {w' : World} {m : Nat} (hq : W.drewN m = w') (h : IsS92 w0 W g f0 f1 f2) : IsS92 w0 w' g f0 f1 f2 := by subst hq; exact IsS92.drewN h m
theorem IsS92.apart {w0 W : World} {g : Nat} {f0 : List Int} {f1 : Int} {f2 : Int} {α : Type} {d : Kd α} {e : Nat} {base : Nat} {ok : Nat → Prop} {v : Value} {xs : List α} (h : IsS92 w0 W g f0 f1 f2) (ho : d.R e W base ok v xs) (ht : ∀ q, q ∈ e :: d.E → q ≠ 92) : d.R e W base (fun k => ok k ∧ k ≠ g) v xs := by
 obtain ⟨A0, c0, hb, hg, hr0⟩ := h
 exact Kd.R_types ho hb ht
theorem IsS92.own_ne {w0 W : World} {g : Nat} {f0 : List Int} {f1 : Int} {f2 : Int} {α : Type} {d : Kd α} {e : Nat} {base : Nat} {ok : Nat → Prop} {v : Value} {xs : List α} (h : IsS92 w0 W g f0 f1 f2) (ho : d.R e W base ok v xs) (ht : e ≠ 92) : some g ≠ v.ownBlock := by
 obtain ⟨A0, c0, hb, hg, hr0⟩ := h
 exact Kd.R_ne ho hb ht
theorem IsS92.lt {w0 W : World} {g : Nat} {f0 : List Int} {f1 : Int} {f2 : Int} (h : IsS92 w0 W g f0 f1 f2) : g < W.heap.size := by
 obtain ⟨A0, c0, hb, hg, hr0⟩ := h
 exact blk_lt hb
theorem IsS92.ge {w0 W : World} {g : Nat} {f0 : List Int} {f1 : Int} {f2 : Int} (h : IsS92 w0 W g f0 f1 f2) : w0.heap.size ≤ g := by
 obtain ⟨A0, c0, hb, hg, hr0⟩ := h
 exact hg
theorem IsS92.far {w0 W : World} {g : Nat} {f0 : List Int} {f1 : Int} {f2 : Int} {p : Addr} (h : IsS92 w0 W g f0 f1 f2) (hne : g ≠ p.block) (u : Value) : IsS92 w0 (W.setCell p u) g f0 f1 f2 := by
 obtain ⟨A0, c0, hb, hg, hr0⟩ := h
 exact ⟨A0, c0, blk_far hb hne u, hg, hr0⟩
theorem IsS92.new (w0 W : World) (A0 : Option Addr) (c0 : Nat) (f0 : List Int) (f1 : Int) (f2 : Int) (hB : Below w0.heap.size w0 W) (hr0 : Kd.C (Kd.int .u8) w0 A0 f0.length f0) : IsS92 w0 (W.alloc (.cells #[.slice A0 f0.length c0, .int .i64 f1, .int .u64 f2] 92)) W.heap.size f0 f1 f2 := ⟨A0, c0, by simpa using heap_alloc_new W _, hB.size, hr0⟩

end Go.Proofs.Ytfkiamccipoioaa.P
end

section
-- Written by gprint.py (own program, over the printer of the kit) out of the translation. Lean checks it.
namespace Go.Proofs.Ytfkiamccipoioaa.P
open Go.RowKit Go.Proofs.YtfkiamccipoioaaW.PrintWords Go.Proofs.YtfkiamccipoioaaW.PrintLast Go.Proofs.YtfkiamccipoioaaW.PrintMore Go.Proofs.YtfkiamccipoioaaW.Pk
open Bool renaming true → T_, false → F_
open List renaming setIfInBounds_toArray → sT_, set_cons_zero → s0_, set_cons_succ → sS_
attribute [local go_sem] max2_int min2_int max_two min_two max_three min_three max_four min_four   -- for this text's walks alone
set_option linter.unusedVariables false
set_option linter.unusedSimpArgs false

/-! ### laws_markInt64S: function 26 -/
def laws_markInt64S.l0 : Nat → List Int → Int → Int → Option (Int × List Int)
 | 0, _, _, _ => none
 | k + 1, x0, x1, x5 => if x5 < (x0.length : Int) then (if 0 ≤ x5 then (laws_markInt64S.l0 k (x0.set (x5 : Int).toNat x1) (wrap64 (x1 + 1)) (wrap64 (x5 + 1))) else (none)) else (some (x1, x0))
def laws_markInt64S.f (k : Nat) (l0 : List Int) (a1 : Int) : Option (Int × List Int) := laws_markInt64S.l0 k l0 a1 0
set_option maxHeartbeats 8000000 in
set_option maxRecDepth 100000 in
theorem laws_markInt64S.calls (k : Nat) (P0_ : Nat → Prop) (u9000_ : Value) (l0 : List Int) (a1 : Int) (r1 : Int) (r2 : List Int) (w0 w : World) (hB : Below w0.heap.size w0 w) (ho0 : Kd.R (Kd.int .i64) 2 w w0.heap.size P0_ u9000_ l0) (h : laws_markInt64S.f k l0 a1 = some (r1, r2)) :
  Calls Try.prog 26 #[u9000_, .int .i64 a1] w fun e w' => e = .returned (.int .i64 r1) ∧ Kd.R (Kd.int .i64) 2 w' w0.heap.size (fun k_ => (P0_ k_ ∨ w.heap.size ≤ k_)) u9000_ r2 ∧ Below w0.heap.size w0 w' ∧ Kept w w' (fun k_ => P0_ k_) := by
 have HO0 := Aside0.mk (show Kd.R (Kd.int .i64) 2 w w0.heap.size (fun k_ => (P0_ k_ ∨ w.heap.size ≤ k_)) u9000_ l0 from Kd.R_mono ho0 (fun k_ hk => (.inl hk)))
 have HK := Aside0.mk (Kept.refl w (fun k_ => P0_ k_))
 have HW0 := Aside0.mk hB.size
 have HB := Aside0.mk hB
 clear hB
 have H : (laws_markInt64S.l0 k l0 a1 0) = some (r1, r2) := h
 clear h
 have H' := Aside0.mk H
 clear H
 go_enter Try.func26, Try.ntmps26
 go_wp2
 go_loopg [1, 5] k (fun kq v1 v5 w' => ∃ (x0_1 : List Int) (x1_1 : Int) (x5_1 : Int), v1 = .int .i64 x1_1 ∧ v5 = .int .i64 x5_1 ∧ Aside0 (laws_markInt64S.l0 kq x0_1 x1_1 x5_1 = some (r1, r2)) ∧ Aside0 (kq ≤ k) ∧ Aside0 (Kd.R (Kd.int .i64) 2 w' w0.heap.size (fun k_ => (P0_ k_ ∨ w.heap.size ≤ k_)) u9000_ x0_1) ∧ Aside0 (Kept w w' (fun k_ => P0_ k_)) ∧ Aside0 (Below w0.heap.size w0 w'))
 case atStart => exact ⟨(l0), (a1), (0), (by first | rfl | (simp; done) | (simp [*]; done)), (by first | rfl | (simp; done) | (simp [*]; done)), H', ⟨Nat.le_refl _⟩, ⟨by (with_reducible repeat (first | apply Kd.R_alloc | apply Kd.R_drewN | apply Kd.R_drew)); exact HO0.out⟩, ⟨by repeat (first | (with_reducible first | exact HK.out | apply Kept.alloc | apply Kept.drewN | apply Kept.drew) | exact HK.out)⟩, ⟨hb_⟩⟩
 case round =>
  clear H'
  try clear c2
  try clear p2
  obtain ⟨x0_1, x1_1, x5_1, rfl, rfl, HA, HK1, HO_0, HK, HB⟩ := hrel
  cases gk with
  | zero => exact absurd HA.out (by simp [laws_markInt64S.l0])
  | succ k1 =>
   have H := HA.out
   clear HA
   simp only [laws_markInt64S.l0] at H
   by_cases c3 : x5_1 < (x0_1.length : Int)
   ·rw [if_pos c3] at H
    have c3b0 : decide (x5_1 < (x0_1.length : Int)) = true := decide_eq_true c3
    clear c3
    by_cases c4 : 0 ≤ x5_1
    ·rw [if_pos c4] at H
     have c4b0 : decide (0 ≤ x5_1) = true := decide_eq_true c4
     clear c4
     obtain ⟨y250, hy250⟩ : ∃ y_ : List Int, y_ = (x0_1.set (x5_1 : Int).toNat x1_1) := ⟨_, rfl⟩
     replace H : (laws_markInt64S.l0 k1 y250 (wrap64 (x1_1 + 1)) (wrap64 (x5_1 + 1))) = some (r1, r2) := by first | (rw [hy250]; with_reducible exact H) | (have H2_ := (Option.bind_some _ _).symm.trans H; rw [hy250]; with_reducible exact H2_) | (have H2_ := (Option.bind_some _ _).symm.trans H; with_reducible exact H2_) | with_reducible exact H | (rw [hy250]; exact H) | exact H
     have Ny250 := Aside0.mk hy250
     clear hy250
     have H' := Aside0.mk H
     clear H
     obtain ⟨Ao6, co6, eo6⟩ := Kd.R_slice HO_0.out
     subst eo6
     have p5 : 0 ≤ (x5_1 : Int) := od_
     have q5 : (x5_1 : Int) < ((x0_1.length : Int) : Int) := od_
     obtain ⟨go5, co5, eo5, gb5, gl5, cl5, HG5⟩ := Kd.R_form HO_0.out (by omega)
     (first | cases eo5 | (injection eo5 with ea_ en_ ec_; (first | subst ea_ | (injection ea_ with ea_; subst ea_)); subst ec_; clear en_))
     have GB5 := Aside0.mk gb5
     have GG5 := Aside0.mk HG5
     clear gb5 gl5 HG5
     have HMgo5 := Aside0.mk (show (P0_ go5 ∨ w.heap.size ≤ go5) from (HO_0.out.1 _ rfl))
     obtain ⟨hx5_0, hf5_0⟩ := Kd.R_celln 0 HO_0.out (x5_1 : Int) p5 q5
     replace p5 := eq_true p5
     replace q5 := eq_true q5
     have HP7 := Kd.R_putg HO_0.out (x5_1 : Int) x1_1
     go_wp2_with (first | ((with_reducible refine gate_store (t := 2) (p := 15) rfl ?_); refine store_event (t := 2) (p := 15) (v := ?vo_w8) (w1 := (wr.setCell ⟨go5, (x5_1 : Int).toNat, none⟩ (.int .i64 x1_1))) ?hg ?ho ?hn ?hr ?_; (case ho => rfl); (case hg => rfl); (case hn => rfl); (case hr => first | (go_simp; done) | (go_simp; rfl)); intro w8 hw; have hg : wr.grownBy w8 (some go5) := (by rw [hw]; exact HP7.2); have hp_ : Kd.R (Kd.int .i64) 2 w8 w0.heap.size (fun k_ => (P0_ k_ ∨ w.heap.size ≤ k_)) (.slice (some ⟨go5, 0, none⟩) x0_1.length co6) y250 := (by rw [hw, Ny250.out]; exact HP7.1); clear HP7; have n0_ := Aside0.mk (hp_); have n1_ := Aside0.mk ((by rw [hw]; exact below_set (HB.out) GB5.out : Below w0.heap.size w0 w8)); have n2_ := Aside0.mk (Kept.of_grown (S := (fun k_ => P0_ k_)) hg (by repeat (first | (with_reducible first | exact HK.out | apply Kept.alloc | apply Kept.drewN | apply Kept.drew) | exact HK.out)) (fun k_ e_ => (HO_0.out.1 k_ e_))); clear HO_0; clear HB; clear HK; have HO_0 := n0_; have HB := n1_; have HK := n2_; clear n0_ n1_ n2_; clear hg hw hp_))
     go_roundg k1
     case measure => have := HK1.out; omega
     case rel => exact ⟨(y250), (wrap64 (x1_1 + 1)), (wrap64 (x5_1 + 1)), (by first | rfl | (simp; done) | (simp [*]; done)), (by first | rfl | (simp; done) | (simp [*]; done)), H', ⟨by have := HK1.out; omega⟩, ⟨by (with_reducible repeat (first | apply Kd.R_alloc | apply Kd.R_drewN | apply Kd.R_drew)); exact HO_0.out⟩, ⟨by repeat (first | (with_reducible first | exact HK.out | apply Kept.alloc | apply Kept.drewN | apply Kept.drew) | exact HK.out)⟩, ⟨hb_⟩⟩
    ·rw [if_neg c4] at H
     exact absurd H (by simp)
   ·rw [if_neg c3] at H
    have c3b0 : decide (x5_1 < (x0_1.length : Int)) = false := decide_eq_false c3
    clear c3
    simp only [Option.some.injEq, Prod.mk.injEq] at H
    obtain ⟨rfl, rfl⟩ := H
    obtain ⟨Ao9, co9, eo9⟩ := Kd.R_slice HO_0.out
    subst eo9
    go_wp2
    go_ret
    exact ⟨ew_, by (with_reducible repeat (first | apply Kd.R_alloc | apply Kd.R_drewN | apply Kd.R_drew)); exact HO_0.out, hb_, by repeat (first | (with_reducible first | exact HK.out | apply Kept.alloc | apply Kept.drewN | apply Kept.drew) | exact HK.out)⟩

/-! ### laws_heldInt64S: function 27 -/
def laws_heldInt64S.l0 : Nat → List Int → Int → Int → Option (Int)
 | 0, _, _, _ => none
 | k + 1, x0, x1, x5 => if x5 < (x0.length : Int) then (if 0 ≤ x5 then (if (rd x0 x5) = x1 then (laws_heldInt64S.l0 k x0 (wrap64 (x1 + 1)) (wrap64 (x5 + 1))) else (some (-1))) else (none)) else (some x1)
def laws_heldInt64S.f (k : Nat) (l0 : List Int) (a1 : Int) : Option (Int) := laws_heldInt64S.l0 k l0 a1 0
set_option maxHeartbeats 8000000 in
set_option maxRecDepth 100000 in
theorem laws_heldInt64S.calls (k : Nat) (A0 : Option Addr) (c0 : Nat) (l0 : List Int) (a1 : Int) (r : Int) (w : World) (hr0 : Kd.C (Kd.int .i64) w A0 l0.length l0) (hc0 : l0.length ≤ c0) (h : laws_heldInt64S.f k l0 a1 = some r) :
  Calls Try.prog 27 #[.slice A0 l0.length c0, .int .i64 a1] w fun e w' => e = .returned (.int .i64 r) ∧ Drawn0 w w' := by
 have HR0 := Aside0.mk hr0
 have HC0 := Aside0.mk hc0
 clear hr0 hc0
 have H : (laws_heldInt64S.l0 k l0 a1 0) = some r := h
 clear h
 have H' := Aside0.mk H
 clear H
 go_enter Try.func27, Try.ntmps27
 go_wp2
 go_loopg [1, 5] k (fun kq v1 v5 w' => ∃ (x1_1 : Int) (x5_1 : Int), v1 = .int .i64 x1_1 ∧ v5 = .int .i64 x5_1 ∧ Aside0 (laws_heldInt64S.l0 kq l0 x1_1 x5_1 = some r) ∧ Aside0 (kq ≤ k) ∧ Drawn0 w w')
 case atStart => exact ⟨(a1), (0), (by first | rfl | (simp; done) | (simp [*]; done)), (by first | rfl | (simp; done) | (simp [*]; done)), H', ⟨Nat.le_refl _⟩, by repeat (first | exact Drawn0.refl _ | apply Drawn0.step)⟩
 case round =>
  clear H'
  try clear c2
  try clear p2
  obtain ⟨x1_1, x5_1, rfl, rfl, HA, HK1, ⟨m1, rfl⟩⟩ := hrel
  cases gk with
  | zero => exact absurd HA.out (by simp [laws_heldInt64S.l0])
  | succ k1 =>
   have H := HA.out
   clear HA
   simp only [laws_heldInt64S.l0] at H
   by_cases c3 : x5_1 < (l0.length : Int)
   ·rw [if_pos c3] at H
    have c3b0 : decide (x5_1 < (l0.length : Int)) = true := decide_eq_true c3
    clear c3
    by_cases c4 : 0 ≤ x5_1
    ·rw [if_pos c4] at H
     have c4b0 : decide (0 ≤ x5_1) = true := decide_eq_true c4
     clear c4
     by_cases c5 : (rd l0 x5_1) = x1_1
     ·rw [if_pos c5] at H
      have c5b0 : ((rd l0 x5_1) == x1_1) = true := beq_iff_eq.mpr c5
      have c5b1 : ((rd l0 x5_1) != x1_1) = false := bne_eq_false_iff_eq.mpr c5
      clear c5
      have H' := Aside0.mk H
      clear H
      have p255 : 0 ≤ (x5_1 : Int) := od_
      have q255 : x5_1 < (l0.length : Int) := od_
      obtain ⟨ad255, e255, hx255_0⟩ := Kd.at_int HR0.out x5_1 p255 q255
      cases e255
      replace p255 := eq_true p255
      replace q255 := eq_true q255
      go_wp2
      go_roundg k1
      case measure => have := HK1.out; omega
      case rel => exact ⟨(wrap64 (x1_1 + 1)), (wrap64 (x5_1 + 1)), (by first | rfl | (simp; done) | (simp [*]; done)), (by first | rfl | (simp; done) | (simp [*]; done)), H', ⟨by have := HK1.out; omega⟩, by repeat (first | exact Drawn0.refl _ | apply Drawn0.step)⟩
     ·rw [if_neg c5] at H
      have c5b0 : ((rd l0 x5_1) == x1_1) = false := beq_eq_false_iff_ne.mpr c5
      have c5b1 : ((rd l0 x5_1) != x1_1) = true := bne_iff_ne.mpr c5
      obtain rfl := Option.some.inj H
      have p255 : 0 ≤ (x5_1 : Int) := od_
      have q255 : x5_1 < (l0.length : Int) := od_
      obtain ⟨ad255, e255, hx255_0⟩ := Kd.at_int HR0.out x5_1 p255 q255
      cases e255
      replace p255 := eq_true p255
      replace q255 := eq_true q255
      go_wp2
      go_ret
      exact ⟨by first | rfl | (simp; done) | (simp [*]; done), by repeat (first | exact Drawn0.refl _ | apply Drawn0.step)⟩
    ·rw [if_neg c4] at H
     exact absurd H (by simp)
   ·rw [if_neg c3] at H
    have c3b0 : decide (x5_1 < (l0.length : Int)) = false := decide_eq_false c3
    clear c3
    obtain rfl := Option.some.inj H
    go_wp2
    go_ret
    exact ⟨by first | rfl | (simp; done) | (simp [*]; done), by repeat (first | exact Drawn0.refl _ | apply Drawn0.step)⟩

end Go.Proofs.Ytfkiamccipoioaa.P
end

section
namespace Go.Proofs.Ytfkiamccipoioaa.P
open Go.RowKit Go.Proofs.YtfkiamccipoioaaW.Hand Go.Proofs.YtfkiamccipoioaaW.PrintWords Go.Proofs.YtfkiamccipoioaaW.PrintLast Go.Proofs.YtfkiamccipoioaaW.PrintMore Go.Proofs.YtfkiamccipoioaaW.Pk
set_option linter.unusedVariables false
set_option linter.unusedSimpArgs false


theorem own_some {w : World} {base n size : Nat} {e : TypeId} {v : Value} {xs : List Value} (h : w.ownsRow base e size v n xs) (hn : 0 < n) : ∃ g c, v = .slice (some ⟨g, 0, none⟩) n c := by
  rcases h.2 with ⟨_, h0⟩ | ⟨g, cap, cur, e, _⟩
  · omega
  · exact ⟨g, cap, e⟩
/-- Rows of whole numbers stay such rows: their numbers may be others. -/
def IntsKept (w w' : World) : Prop := ∀ (base : Nat) (v : Value) (xs : List Int), w.ownsRow base 2 1 v xs.length (nums .i64 xs) → ∃ ys : List Int, ys.length = xs.length ∧ w'.ownsRow base 2 1 v ys.length (nums .i64 ys)
theorem IntsKept.refl (w : World) : IntsKept w w := fun _ _ xs h => ⟨xs, rfl, h⟩
theorem IntsKept.trans {w w1 w2 : World} (h : IntsKept w w1) (k : IntsKept w1 w2) : IntsKept w w2 := fun base v xs hx => by
  obtain ⟨ys, hy, h1⟩ := h base v xs hx
  obtain ⟨zs, hz, h2⟩ := k base v ys h1
  exact ⟨zs, hz.trans hy, h2⟩
theorem IntsKept.below {w w1 : World} (h : Below w.heap.size w w1) : IntsKept w w1 := fun _ _ xs hx => ⟨xs, rfl, pw_own_below hx h⟩
theorem IntsKept.set (w : World) (g i : Nat) (n : Int) : IntsKept w (w.setCell ⟨g, i, none⟩ (.int .i64 n)) := fun base v xs hx => by
  by_cases hv : v.ownBlock = some g
  · rcases hx.2 with ⟨hv0, _⟩ | ⟨g', cap, cur, hv0, _⟩
    · rw [hv0] at hv; simp [Value.ownBlock] at hv
    · have hg : g' = g := by rw [hv0] at hv; simpa [Value.ownBlock] using hv
      subst hg
      subst hv0
      have h2 := (own_store hx (i : Int) n).1
      rw [Int.toNat_natCast] at h2
      exact ⟨xs.set i n, List.length_set .., by rw [List.length_set]; exact h2⟩
  · exact ⟨xs, rfl, own_setCell hx (fun e => hv e.symm) _⟩
/-- What a row's marks count up to. -/
def markCnt : Nat → Int → Int
  | 0, a => a
  | n + 1, a => markCnt n (wrap64 (a + 1))
theorem markCnt_succ : ∀ (n : Nat) (a : Int), markCnt (n + 1) a = wrap64 (markCnt n a + 1) := by
  intro n
  induction n with
  | zero => intro a; rfl
  | succ n ih => intro a; rw [markCnt, ih, markCnt]
set_option maxRecDepth 100000 in
set_option maxHeartbeats 4000000 in
theorem markRow_calls (w0 w : World) (v : Value) (xs : List Int) (a : Int) (hB : Below w0.heap.size w0 w) (ho : w.ownsRow w0.heap.size 2 1 v xs.length (nums .i64 xs)) (hl : xs.length ≤ 1048576) :
    Calls Try.prog 26 #[v, .int .i64 a] w fun e w' => e = .returned (.int .i64 (markCnt xs.length a)) ∧ Below w0.heap.size w0 w' ∧ IntsKept w w' ∧ Kept w w' (fun k => some k = v.ownBlock) := by
  obtain ⟨A, c, rfl⟩ := own_slice ho
  have HO := Aside0.mk ho
  have HB := Aside0.mk hB
  clear ho hB
  obtain ⟨n, hn⟩ : ∃ n, n = xs.length := ⟨_, rfl⟩
  rw [← hn] at hl
  have HN := Aside0.mk hn
  rw [← hn] at HO ⊢
  clear hn
  go_enter Try.func26, Try.ntmps26
  go_wp2_with fail
  go_loopg [1, 5] n (fun gg v1 v5 wr => ∃ i : Nat, v5 = .int .i64 (i : Int) ∧ v1 = .int .i64 (markCnt i a) ∧ Aside0 (i ≤ n ∧ n - i ≤ gg) ∧ Aside0 (∃ ys : List Int, ys.length = n ∧ wr.ownsRow w0.heap.size 2 1 (.slice A n c) n (nums .i64 ys)) ∧ Aside0 (Below w0.heap.size w0 wr) ∧ Aside0 (IntsKept w wr) ∧ Aside0 (Kept w wr (fun k => some k = (Value.slice A n c).ownBlock)))
  case atStart => exact ⟨0, rfl, rfl, ⟨Nat.zero_le _, Nat.le_refl _⟩, ⟨xs, HN.out.symm, HO.out⟩, HB, ⟨IntsKept.refl _⟩, ⟨Kept.refl _ _⟩⟩
  case round =>
  obtain ⟨i, rfl, rfl, HJ, HY, HB1, HIK, HK⟩ := hrel
  clear HO HB
  obtain ⟨ys, hyl, hy⟩ := HY.out
  clear HY
  by_cases hlt : i < n
  · obtain ⟨g, c', e⟩ := own_some hy (by omega)
    injection e with e _ ec
    subst e
    subst ec
    have hltb : decide (i < n) = true := decide_eq_true hlt
    have x1 := (own_at hy (i : Int) (by omega) (by omega)).1
    have f1 := (own_at hy (i : Int) (by omega) (by omega)).2
    rw [Int.toNat_natCast] at x1 f1
    obtain ⟨m, hm⟩ : ∃ m, m = markCnt i a := ⟨_, rfl⟩
    have HM := Aside0.mk hm
    rw [← hm]
    have hs := (own_store hy (i : Int) m).1
    rw [Int.toNat_natCast] at hs
    have HS := Aside0.mk hs
    have HYL : Aside0 ((ys.set i m).length = n) := ⟨by rw [List.length_set]; exact hyl⟩
    have HGE := Aside0.mk (own_base hy g rfl)
    clear hs hy hyl hm
    go_wp2_with fail
    go_roundg (n - (i + 1))
    case measure => have := HJ.out; omega
    case rel => exact ⟨i + 1, by go_num, by rw [markCnt_succ, HM.out], ⟨by omega, by omega⟩, ⟨_, HYL.out, HS.out⟩, ⟨HB1.out.setCell HGE.out _⟩, ⟨HIK.out.trans (IntsKept.set _ _ _ _)⟩, ⟨by have := HK.out; exact this.setCell (p := ⟨g, i, none⟩) (.inl rfl) _⟩⟩
  · have hltb : decide (i < n) = false := decide_eq_false hlt
    have hi : i = n := by have := HJ.out; omega
    subst hi
    clear hlt
    go_wp2_with fail
    go_ret
    exact ⟨rfl, HB1.out, HIK.out, HK.out⟩
/-- What all rows' marks count up to. -/
def marksCnt : List (List Int) → Int → Int
  | [], a => a
  | r :: rs, a => marksCnt rs (markCnt r.length a)
def laws_markInt64SS.f (l0 : List (List Int)) (a1 : Int) : Option Int := if l0.length ≤ 1048576 ∧ ∀ r ∈ l0, r.length ≤ 1048576 then some (marksCnt l0 a1) else none
/-- The rows inside are rows of whole numbers of these lengths, in blocks that may be marked. -/
def InRows (w : World) (base : Nat) (P : Nat → Prop) (vs : List Value) (ls : List (List Int)) : Prop := vs.length = ls.length ∧ ∀ (i : Nat) (v : Value) (r : List Int), vs[i]? = some v → ls[i]? = some r → ∃ ys : List Int, ys.length = r.length ∧ w.ownsRow base 2 1 v ys.length (nums .i64 ys) ∧ ∀ k, v.ownBlock = some k → P k
theorem InRows.kept {w w1 : World} {base : Nat} {P : Nat → Prop} {vs : List Value} {ls : List (List Int)} (h : InRows w base P vs ls) (hk : IntsKept w w1) : InRows w1 base P vs ls :=
  ⟨h.1, fun i v r hv hr => by
    obtain ⟨ys, hy, h1, h2⟩ := h.2 i v r hv hr
    obtain ⟨zs, hz, h3⟩ := hk base v ys h1
    exact ⟨zs, hz.trans hy, h3, h2⟩⟩
theorem inRows_of {w : World} {base : Nat} {P : Nat → Prop} {u : Value} {ls : List (List Int)} (h : Kd.R (Kd.slice 2 (Kd.int .i64)) 22 w base P u ls) : ∃ vs : List Value, w.ownsRow base 22 1 u ls.length vs ∧ InRows w base P vs ls ∧ (∀ k, u.ownBlock = some k → P k) := by
  obtain ⟨h0, inner, ho, hr⟩ := h
  refine ⟨inner, ho, ⟨by have := hr.1; simpa [Kd.slice] using this, fun i v r hv hrr => ?_⟩, h0⟩
  have := hr.2 i r hrr
  obtain ⟨v', hv', hR⟩ := this
  have hl : i < inner.length := (List.getElem?_eq_some_iff.1 hv).1
  have e : v' = v := by
    have h3 : (inner.drop (i * 1)).take 1 = [v'] := hv'
    rw [Nat.mul_one, List.drop_eq_getElem_cons hl, List.take_succ_cons, List.take_zero] at h3
    injection h3 with h3 _
    rw [List.getElem?_eq_getElem hl] at hv
    injection hv with hv
    rw [← h3, hv]
  subst e
  exact ⟨r, rfl, nums_of_R hR, fun k hk => (hR.1 k hk).1⟩
theorem marksCnt_take (ls : List (List Int)) : ∀ (a : Int) (i : Nat) (r : List Int), ls[i]? = some r → marksCnt (ls.take (i + 1)) a = markCnt r.length (marksCnt (ls.take i) a) := by
  induction ls with
  | nil => intro a i r h; simp at h
  | cons x ls ih =>
    intro a i r h
    cases i with
    | zero =>
      have : x = r := by simpa using h
      subst this
      rfl
    | succ i => rw [List.take_succ_cons, List.take_succ_cons, marksCnt, marksCnt]; exact ih _ i r (by simpa using h)
set_option maxRecDepth 100000 in
set_option maxHeartbeats 4000000 in
theorem laws_markInt64SS.calls (P0_ : Nat → Prop) (u9000_ : Value) (l0 : List (List Int)) (a1 : Int) (r1 : Int) (w0 w : World) (hB : Below w0.heap.size w0 w) (ho0 : Kd.R (Kd.slice 2 (Kd.int .i64)) 22 w w0.heap.size P0_ u9000_ l0) (h : laws_markInt64SS.f l0 a1 = some r1) :
    Calls Try.prog 61 #[u9000_, .int .i64 a1] w fun e w' => e = .returned (.int .i64 r1) ∧ Below w0.heap.size w0 w' ∧ Kept w w' (fun k_ => P0_ k_) := by
  unfold laws_markInt64SS.f at h
  by_cases hc : l0.length ≤ 1048576 ∧ ∀ r ∈ l0, r.length ≤ 1048576
  rotate_left
  · rw [if_neg hc] at h
    exact absurd h (by simp)
  rw [if_pos hc] at h
  injection h with h
  obtain ⟨hl, hrl⟩ := hc
  obtain ⟨vs, hown, hin, hP⟩ := inRows_of ho0
  obtain ⟨A, c, rfl⟩ := own_slice hown
  have HIN := Aside0.mk hin
  have HP := Aside0.mk hP
  have HO := Aside0.mk hown
  have HB := Aside0.mk hB
  have HR := Aside0.mk h
  have HRL := Aside0.mk hrl
  clear ho0 hown hin hP hB h hrl
  go_enter Try.func61, Try.ntmps61
  go_wp2_with fail
  go_loopg [1, 5] l0.length (fun gg v1 v5 wr => ∃ i : Nat, v5 = .int .i64 (i : Int) ∧ v1 = .int .i64 (marksCnt (l0.take i) a1) ∧ Aside0 (i ≤ l0.length ∧ l0.length - i ≤ gg) ∧ Aside0 (wr.ownsRow w0.heap.size 22 1 (.slice A l0.length c) l0.length vs) ∧ Aside0 (InRows wr w0.heap.size P0_ vs l0) ∧ Aside0 (Below w0.heap.size w0 wr) ∧ Aside0 (Kept w wr P0_))
  case atStart => exact ⟨0, rfl, rfl, ⟨Nat.zero_le _, Nat.le_refl _⟩, HO, HIN, HB, ⟨Kept.refl _ _⟩⟩
  case round =>
  obtain ⟨i, rfl, rfl, HJ, HO1, HIN1, HB1, HK⟩ := hrel
  clear HO HB HIN
  by_cases hlt : i < l0.length
  · obtain ⟨g, c', e⟩ := own_some HO1.out (by omega)
    injection e with e _ ec
    subst e
    subst ec
    have hltb : decide (i < l0.length) = true := decide_eq_true hlt
    obtain ⟨r, hr⟩ : ∃ r, l0[i]? = some r := ⟨_, List.getElem?_eq_getElem hlt⟩
    obtain ⟨v, hv⟩ : ∃ v, vs[i]? = some v := ⟨_, List.getElem?_eq_getElem (by rw [HIN1.out.1]; exact hlt)⟩
    obtain ⟨ys, hyl, hy, hyP⟩ := HIN1.out.2 i v r hv hr
    obtain ⟨Av, cv, rfl⟩ := own_slice hy
    have x1 := HO1.out.cells (g := g) rfl i _ hv
    rw [add_plain] at x1
    have hrl2 := HRL.out r (List.mem_of_getElem? hr)
    have HM := Aside0.mk (marksCnt_take l0 a1 i r hr)
    obtain ⟨m, hm⟩ : ∃ m, m = marksCnt (l0.take i) a1 := ⟨_, rfl⟩
    rw [← hm] at HM ⊢
    have HY := Aside0.mk hy
    have HYP := Aside0.mk hyP
    have HYL := Aside0.mk (show markCnt ys.length m = markCnt r.length m by rw [hyl])
    have hysl : ys.length ≤ 1048576 := by omega
    clear hy hyP hv hr hyl hm
    go_wp2_with (go_at_call 26; refine (markRow_calls w0 wr (.slice Av ys.length cv) ys m HB1.out HY.out hysl).mono ?_; rintro e w2 ⟨rfl, hb2, hi2, hk2⟩; rw [HYL.out, ← HM.out]; have H2 := Aside0.mk (⟨hb2, hi2, hk2⟩ : Below w0.heap.size w0 w2 ∧ IntsKept wr w2 ∧ Kept wr w2 (fun k => some k = (Value.slice Av ys.length cv).ownBlock)); clear hb2 hi2 hk2 x1)
    go_roundg (l0.length - (i + 1))
    case measure => have := HJ.out; omega
    case rel =>
      have hne : ∀ k, some k = (Value.slice Av ys.length cv).ownBlock → k ≠ g := fun k hk e => by
        rcases own_type_ne HO1.out HY.out (by decide) with h | h
        · simp [Value.ownBlock] at h
        · exact h (by rw [← hk, e]; rfl)
      exact ⟨i + 1, by go_num, rfl, ⟨by omega, by omega⟩, ⟨own_move HO1.out (fun k hk => H2.out.2.2.2 k (own_lt HO1.out k hk) (fun h => hne k h (by have : some g = some k := hk; injection this with this; exact this.symm)))⟩, ⟨HIN1.out.kept H2.out.2.1⟩, ⟨H2.out.1⟩, ⟨HK.out.then_ H2.out.2.2 (fun k hk => .inl (HYP.out k hk.symm))⟩⟩
  · have hltb : decide (i < l0.length) = false := decide_eq_false hlt
    have hi : i = l0.length := by have := HJ.out; omega
    subst hi
    have he : marksCnt (l0.take l0.length) a1 = r1 := by rw [List.take_length]; exact HR.out
    rw [he]
    clear hlt he
    go_wp2_with fail
    go_ret
    exact ⟨rfl, HB1.out, HK.out⟩
def laws_markDeck.f (l0_0 : List Int) (l0_1 : List (List Int)) (a1 : Int) : Option Int := if l0_0.length ≤ 1048576 then laws_markInt64SS.f l0_1 (markCnt l0_0.length a1) else none
set_option maxRecDepth 100000 in
set_option maxHeartbeats 4000000 in
theorem laws_markDeck.calls (P0_0_ P0_1_ : Nat → Prop) (u9000_ u9001_ : Value) (l0_0 : List Int) (l0_1 : List (List Int)) (a1 : Int) (r1 : Int) (w0 w : World) (hB : Below w0.heap.size w0 w) (ho0_0 : Kd.R (Kd.int .i64) 2 w w0.heap.size P0_0_ u9000_ l0_0) (ho0_1 : Kd.R (Kd.slice 2 (Kd.int .i64)) 22 w w0.heap.size P0_1_ u9001_ l0_1) (hd : ∀ k, P0_0_ k → ¬ P0_1_ k) (h : laws_markDeck.f l0_0 l0_1 a1 = some r1) :
    Calls Try.prog 25 #[.agg #[u9000_, u9001_], .int .i64 a1] w fun e w' => e = .returned (.int .i64 r1) ∧ Below w0.heap.size w0 w' ∧ Kept w w' (fun k_ => P0_0_ k_ ∨ P0_1_ k_) := by
  unfold laws_markDeck.f at h
  by_cases hc : l0_0.length ≤ 1048576
  rotate_left
  · rw [if_neg hc] at h
    exact absurd h (by simp)
  rw [if_pos hc] at h
  obtain ⟨A0, c0, rfl⟩ := Kd.R_slice ho0_0
  obtain ⟨A1, c1, rfl⟩ := Kd.R_slice ho0_1
  have HO0 := Aside0.mk ho0_0
  have HO1 := Aside0.mk ho0_1
  have HD := Aside0.mk hd
  have HB := Aside0.mk hB
  have HH := Aside0.mk h
  clear ho0_0 ho0_1 hB h hd
  go_enter Try.func25, Try.ntmps25
  go_wp2_with (first
    | ((with_reducible refine gate_dst (N := 2) rfl ?_); refine hand_box (fun g_ W_ => Below w.heap.size w W_ ∧ W_.heap[g_]? = some (.cells #[.slice A0 l0_0.length c0, .slice A1 l0_1.length c1] 28 (0, 0)) ∧ w.heap.size ≤ g_) ?hg (N := 2) ?hd (cs := #[.slice A0 l0_0.length c0, .slice A1 l0_1.length c1]) (t := 28) ?hr ?hF ?_; (case hd => rfl); (case hg => rfl); (case hr => first | (go_simp; done) | (go_simp; rfl)); (case hF => exact ⟨below_alloc (Below.refl _ _) _, heap_alloc_new _ _, Nat.le_refl _⟩); intro gb w1 hh; have d0 : w1.cell? ⟨gb, 0, none⟩ = some (.slice A0 l0_0.length c0) := (blk_cell hh.2.1 0).trans rfl; have H1 := Aside0.mk hh; clear hh)
    | (go_at_call 26; refine (markRow_calls w0 w1 (.slice A0 l0_0.length c0) l0_0 a1 (below_then HB.out HB.out.size H1.out.1) (pw_own_below (nums_of_R HO0.out) H1.out.1) hc).mono ?_; rintro e w2 ⟨rfl, hb2, hi2, hk2⟩; have hgb : w2.heap[gb]? = some (.cells #[.slice A0 l0_0.length c0, .slice A1 l0_1.length c1] 28 (0, 0)) := (hk2.2 gb (blk_lt H1.out.2.1) (own_ne (pw_own_below (nums_of_R HO0.out) H1.out.1) H1.out.2.1 (by decide))).trans H1.out.2.1; have H2 := Aside0.mk (⟨hb2, hk2⟩ : Below w0.heap.size w0 w2 ∧ Kept w1 w2 (fun k => some k = (Value.slice A0 l0_0.length c0).ownBlock)); have d1 : w2.cell? ⟨gb, 1, none⟩ = some (.slice A1 l0_1.length c1) := (blk_cell hgb 1).trans rfl; clear hb2 hi2 hk2 hgb d0)
    | (go_at_call 61; refine (laws_markInt64SS.calls P0_1_ (.slice A1 l0_1.length c1) l0_1 (markCnt l0_0.length a1) r1 w0 w2 H2.out.1 (Kd.R_step (Kd.R_below HO1.out H1.out.1) (fun k hk hlt => H2.out.2.2 k hlt (fun e => HD.out k (HO0.out.1 k e.symm) hk))) HH.out).mono ?_; rintro e w3 ⟨rfl, hb3, hk3⟩; have H3 := Aside0.mk (⟨hb3, hk3⟩ : Below w0.heap.size w0 w3 ∧ Kept w2 w3 P0_1_); clear hb3 hk3 d1))
  go_ret
  refine ⟨rfl, H3.out.1, ?_⟩
  have k1 : Kept w w2 (fun k_ => P0_0_ k_ ∨ P0_1_ k_) := (Kept.of_below H1.out.1 _).then_ H2.out.2 (fun k hk => .inl (.inl (HO0.out.1 k hk.symm)))
  exact k1.then_ H3.out.2 (fun k hk => .inl (.inr hk))
end Go.Proofs.Ytfkiamccipoioaa.P
end

section
namespace Go.Proofs.Ytfkiamccipoioaa.P
open Go.RowKit Go.Proofs.YtfkiamccipoioaaW.Hand Go.Proofs.YtfkiamccipoioaaW.PrintWords Go.Proofs.YtfkiamccipoioaaW.PrintLast Go.Proofs.YtfkiamccipoioaaW.PrintMore Go.Proofs.YtfkiamccipoioaaW.Pk
set_option linter.unusedVariables false
set_option linter.unusedSimpArgs false


/-- The box of the deck that came in. -/
structure MI (w W : World) (gb : Nat) (cs : Array Value) : Prop where
  below : Below w.heap.size w W
  box : W.heap[gb]? = some (.cells cs 25 (0, 0))
  ge : w.heap.size ≤ gb
theorem MI.lt {w W : World} {gb : Nat} {cs : Array Value} (h : MI w W gb cs) : gb < W.heap.size := blk_lt h.box
theorem MI.step {w W W' : World} {gb : Nat} {cs : Array Value} (h : MI w W gb cs) (hb : Below W.heap.size W W') : MI w W' gb cs :=
  ⟨below_then h.below h.below.size hb, blk_below h.box hb, h.ge⟩
theorem MI.kept {w W W' : World} {gb : Nat} {cs : Array Value} {P : Nat → Prop} (h : MI w W gb cs) (hb : Below w.heap.size w W') (hk : Kept W W' P) (hp : ¬ P gb) : MI w W' gb cs :=
  ⟨hb, (hk.2 gb h.lt hp).trans h.box, h.ge⟩
theorem R_self {w : World} {base : Nat} {ok : Nat → Prop} {v : Value} {xs : List Int} (h : Kd.R (Kd.int .i64) 2 w base ok v xs) : Kd.R (Kd.int .i64) 2 w base (fun k => some k = v.ownBlock ∧ base ≤ k ∧ k < w.heap.size) v xs :=
  ⟨fun k hk => ⟨hk.symm, Kd.R_base h k hk, Kd.R_lt h k hk⟩, by
    obtain ⟨_, inner, ho, hr⟩ := h
    exact ⟨inner, ho, hr.imp_ (fun _ _ hp => hp)⟩⟩
theorem R_lt_of {w : World} {base : Nat} {ok : Nat → Prop} {v : Value} {xs : List Int} (h : Kd.R (Kd.int .i64) 2 w base ok v xs) : Kd.R (Kd.int .i64) 2 w base (fun k => k < w.heap.size) v xs := Kd.R_mono (R_self h) (fun _ hk => hk.2.2)
theorem R_ge_of {w : World} {base : Nat} {ok : Nat → Prop} {v : Value} {xs : List Int} (h : Kd.R (Kd.int .i64) 2 w base ok v xs) : Kd.R (Kd.int .i64) 2 w base (fun k => base ≤ k) v xs := Kd.R_mono (R_self h) (fun _ hk => hk.2.1)
end Go.Proofs.Ytfkiamccipoioaa.P
end
