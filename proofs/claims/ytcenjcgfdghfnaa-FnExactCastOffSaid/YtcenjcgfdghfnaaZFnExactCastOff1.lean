/- Texts of this claim, packed: WPk, Px0, Px1. -/
import Derived.Test.YtcenjcgfdghfnaaProg
import Derived.Below
import Derived.Deep.Draws
import Derived.Deep.AppendLies
import Derived.Maps.AppendAt
import Derived.OwnWalk
import Derived.Laws.BytesArg
import Derived.Laws.MakeOwn
import Derived.Laws.OwnMore
import Derived.Deep.OwnRows
import Derived.Tactics
import Derived.Lib.ConvBytes
import Derived.Laws.Slices
import Derived.WalkKit
import Derived.KernelRfl
import Derived.RowKit3
import Derived.Deep.LoopGhost
import Derived.Deep.QuietTactic
import Derived.BigQuiet
import Derived.WideLaws
import Derived.Deep.DeepCutAuto
import Derived.Deep.CutBlock
import Derived.Deep.RegionHeld3
import Derived.Laws.Rows
import Derived.Lib.AppendStr
import Derived.ArgAppend
import Derived.Laws.IdiomCopy
import Derived.OrdersHeld
import Derived.Laws.BitsLemmas
import Derived.RowKit
import Derived.Shelf.Abstract
import Derived.Test.YtcenjcgfdghfnaaZFnExactCastOff0
section
/- Short names and defaults for the printed walks: what stands a hundred times in a text is said once here. -/
namespace Go.Proofs.YtcenjcgfdghfnaaW.Pk
open Go.RowKit Go.Proofs.YtcenjcgfdghfnaaW.PrintWords Go.Proofs.YtcenjcgfdghfnaaW.PrintLast Go.Proofs.YtcenjcgfdghfnaaW.PrintMore

theorem hb_ {b : Nat} {w W : World} (h : Below b w W := by repeat (first | (with_reducible first | exact HB.out | apply below_alloc | apply pw_below_drewN | apply below_drew1) | exact HB.out)) : Below b w W := h
theorem od_ {p : Prop} [Decidable p] (h : decide p = true := by first | (with_reducible assumption) | assumption) : p := of_decide_eq_true h
theorem ln_ {α : Sort _} {a b : α} (h : a = b := by (try simp only [List.map_toArray, List.map_cons, List.map_nil]); first | done | rfl | (simp only [List.length_drop, List.length_take]; rfl)) : a = b := h
theorem ew_ {α : Sort _} {a b : α} (h : a = b := by first | rfl | (simp [errW_none, errW_some] <;> rfl) | (simp [*, errW_none, errW_some] <;> rfl)) : a = b := h
theorem cq_ {w W : World} {x : Addr} {v : Value} (HB : Aside0 (Below w.heap.size w W)) (h : w.cell? x = some v) : W.cell? x = some v := (HB.out.cell (World.block_lt_of_cell? w _ h)).trans h
section
variable {P : Program} {ops : Array Oper} {Q : Exit → Act → World → Prop} {md : Region.Mode} {S : World → Prop} {ds : List Nat} {T : Bool × List (List Nat × List Nat)}
theorem pv {i : Nat} {N : Option Tmp} {oi : Oper} {v : Value} {fuel : Nat} {l : Array Bool} {a a' : Act} {w : World} (HT : Aside0 (rtab md ops = T)) (h : wpAnyLast P md ops Q S ds fuel (l.setIfInBounds i true) a' w)
    (hi : ops[i]? = some oi := by exact rfl) (hN : oi.dst = N := by exact rfl) (hc : anyT T l.toList (l.setIfInBounds i true).toList i = true := by kernel_rfl) (hQ : ∀ c a w, Q (.panic c) (a.put oi.dst v) w → Q (.panic c) a w := by exact fun _ _ _ h => h)
    (hw : Region.wanted oi (yielded ops a.tmps) = true := by rfl) (hy : ∀ w, (execOp a.eval oi).run P w = .ok (.value v) w := by intro w'; go_simp; first | with_reducible rfl | (rw [if_neg (by simp only [ByteArray.size_append, ByteArray.size_extract, eq_iff_iff, iff_true] at *; omega)]))
    (ha : a.put N v = a' := by simp only [Act.put, List.setIfInBounds_toArray, List.set_cons_zero, List.set_cons_succ, i64_w, i32_w]; rfl) : wpAnyLast P md ops Q S ds (fuel + 1) l a w :=
  pure_ (l.setIfInBounds i true) hi hN (any_of HT.out hc) hQ (Or.inl ⟨hw, hy⟩) ha h
theorem pw {i : Nat} {N : Option Tmp} {oi : Oper} {fuel : Nat} {l : Array Bool} {a a' : Act} {w : World} (HT : Aside0 (rtab md ops = T)) (h : wpAnyLast P md ops Q S ds fuel (l.setIfInBounds i true) a' w)
    (hi : ops[i]? = some oi := by exact rfl) (hN : oi.dst = N := by exact rfl) (hc : anyT T l.toList (l.setIfInBounds i true).toList i = true := by kernel_rfl) (hQ : ∀ c a w, Q (.panic c) (a.put oi.dst undef) w → Q (.panic c) a w := by exact fun _ _ _ h => h)
    (hw : Region.wanted oi (yielded ops a.tmps) = false := by rfl)
    (ha : a.put N undef = a' := by simp only [Act.put, List.setIfInBounds_toArray, List.set_cons_zero, List.set_cons_succ, i64_w, i32_w]; rfl) : wpAnyLast P md ops Q S ds (fuel + 1) l a w :=
  pure_ (l.setIfInBounds i true) hi hN (any_of HT.out hc) hQ (Or.inr ⟨hw, rfl⟩) ha h
end
theorem kr_ {p q : Prop} (x : Aside0 p) (h : p → q := by intro x; (with_reducible repeat (first | apply Kd.R_alloc | apply Kd.R_drewN | apply Kd.R_drew)); exact x) : q := h x.out
theorem bk_ {p q : Prop} (x : Aside0 p) (h : p → q := by intro x; (with_reducible repeat (first | refine blk_drewN ?_ _ | refine blk_drew ?_ | refine blk_alloc ?_ _)); exact x) : q := h x.out
theorem kc_ {p q : Prop} (x : p) (h : p → q := by intro x; repeat (first | exact x | (with_reducible refine Kd.C_alloc ?_ _) | (with_reducible refine Kd.C_drewN ?_ _) | (with_reducible refine Kd.C_drew ?_))) : q := h x
theorem hg_ {p : Prop} {b : Nat} {w W : World} (x : Aside0 p) (h : p → Below b w W := by intro x; repeat (first | (with_reducible first | exact HB.out | apply below_alloc | apply pw_below_drewN | apply below_drew1 | refine below_set ?_ x) | exact HB.out)) : Below b w W := h x.out
theorem hg2_ {p p2 : Prop} {b : Nat} {w W : World} (x : Aside0 p) (y : Aside0 p2) (h : p → p2 → Below b w W := by intro x y; repeat (first | (with_reducible first | exact HB.out | apply below_alloc | apply pw_below_drewN | apply below_drew1 | refine below_set ?_ x | refine below_set ?_ y) | exact HB.out)) : Below b w W := h x.out y.out
theorem ak_ {p : Prop} (h : p) : Aside0 p := ⟨h⟩
theorem ob_ {α β : Type _} {o : Option α} {f : α → Option β} {b : β} (h : (o.bind f) = some b) : ∃ a, o = some a ∧ f a = some b := Option.bind_eq_some_iff.mp h
theorem lt_ (w : World) {v : Value} (x : Addr) (h : w.cell? x = some v) : x.block < w.heap.size := World.block_lt_of_cell? w x h
theorem dt_ {p : Prop} [Decidable p] (h : p) : decide p = true := decide_eq_true h
theorem fr_ {p : Prop} (h : p := by first | rfl | (simp; done) | (simp [*]; done)) : p := h
end Go.Proofs.YtcenjcgfdghfnaaW.Pk
end

section
-- Written by gprint.py (own program, over the printer of the kit) out of the translation. Lean checks it.
namespace Go.Proofs.Ytcenjcgfdghfnaa.P
open Go.RowKit Go.Proofs.YtcenjcgfdghfnaaW.PrintWords Go.Proofs.YtcenjcgfdghfnaaW.PrintLast Go.Proofs.YtcenjcgfdghfnaaW.PrintMore Go.Proofs.YtcenjcgfdghfnaaW.Pk
open Bool renaming true → T_, false → F_
open List renaming setIfInBounds_toArray → sT_, set_cons_zero → s0_, set_cons_succ → sS_
attribute [local go_sem] max2_int min2_int max_two min_two max_three min_three max_four min_four   -- for this text's walks alone
set_option linter.unusedVariables false
set_option linter.unusedSimpArgs false



def errW : Option Int → Value
 | none => .nilIface
 | some c => .iface 0 (.int .i64 c)
theorem errW_none : errW none = .nilIface := rfl
theorem errW_some (c : Int) : errW (some c) = .iface 0 (.int .i64 c) := rfl

theorem info9 : (Try.prog.info? 9).map (fun i => (i.zero, i.size, i.bytes)) = some (some (.string ⟨#[]⟩), 1, 16) := by kernel_rfl
theorem info41 : (Try.prog.info? 41).map (fun i => (i.zero, i.size, i.bytes)) = some (some (.agg #[(.string ⟨#[]⟩), (.string ⟨#[]⟩), (.int .i64 0)]), 3, 40) := by kernel_rfl
theorem info91 : (Try.prog.info? 91).map (fun i => (i.zero, i.size, i.bytes)) = some (some (.agg #[(.string ⟨#[]⟩), (.string ⟨#[]⟩), (.int .i64 0)]), 3, 40) := by kernel_rfl
-- the values' own types
/-! #### struct type 99 -/
structure S99 where
 f0 : ByteArray
 f1 : ByteArray
 f2 : Int
def z99 : S99 := ⟨(⟨#[]⟩ : ByteArray), (⟨#[]⟩ : ByteArray), (0 : Int)⟩
def k99 : Kd S99 := Kd.iso (Kd.pair Kd.string (Kd.pair Kd.string (Kd.int .i64))) (fun x : S99 => (x.f0, x.f1, x.f2))
theorem k99_open {w : World} {x : S99} {cs : List Value} (h : k99.K w x cs) : cs = [.string x.f0, .string x.f1, .int .i64 x.f2] := by
 obtain ⟨_, _, rfl, rfl, ⟨_, _, rfl, rfl, rfl⟩⟩ := h
 exact rfl
def rd_T99 (xs : List S99) (i : Int) : S99 := xs.getD i.toNat z99
theorem at_T99 {w : World} {A : Option Addr} {n : Nat} {xs : List S99} (h : Kd.C k99 w A n xs) (i : Int) (h0 : 0 ≤ i) (h1 : i < n) : ∃ ad , A = some ad ∧ w.cell? (ad.add (i.toNat * 3)) = some (.string (rd_T99 xs i).f0) ∧ w.cell? ⟨(ad.add (i.toNat * 3)).block, (ad.add (i.toNat * 3)).off + 1, none⟩ = some (.string (rd_T99 xs i).f1) ∧ w.cell? ⟨(ad.add (i.toNat * 3)).block, (ad.add (i.toNat * 3)).off + 2, none⟩ = some (.int .i64 (rd_T99 xs i).f2) := by
 obtain ⟨ad, c, e, _, hK, hc0⟩ := Kd.C_get h z99 i h0 h1
 have hc : ∀ j u, c[j]? = some u → w.cell? (ad.add (i.toNat * 3 + j)) = some u := hc0
 obtain rfl := k99_open hK
 exact ⟨ad, e, hc 0 _ rfl, by rw [← add_field _ _ 1 (by omega)]; exact hc 1 _ rfl, by rw [← add_field _ _ 2 (by omega)]; exact hc 2 _ rfl⟩

/-! #### struct type 101 -/
structure S101 where
 f0 : ByteArray
 f1 : ByteArray
 f2 : Int
def z101 : S101 := ⟨(⟨#[]⟩ : ByteArray), (⟨#[]⟩ : ByteArray), (0 : Int)⟩
def k101 : Kd S101 := Kd.iso (Kd.pair Kd.string (Kd.pair Kd.string (Kd.int .i64))) (fun x : S101 => (x.f0, x.f1, x.f2))
theorem k101_open {w : World} {x : S101} {cs : List Value} (h : k101.K w x cs) : cs = [.string x.f0, .string x.f1, .int .i64 x.f2] := by
 obtain ⟨_, _, rfl, rfl, ⟨_, _, rfl, rfl, rfl⟩⟩ := h
 exact rfl
def rd_T101 (xs : List S101) (i : Int) : S101 := xs.getD i.toNat z101
theorem at_T101 {w : World} {A : Option Addr} {n : Nat} {xs : List S101} (h : Kd.C k101 w A n xs) (i : Int) (h0 : 0 ≤ i) (h1 : i < n) : ∃ ad , A = some ad ∧ w.cell? (ad.add (i.toNat * 3)) = some (.string (rd_T101 xs i).f0) ∧ w.cell? ⟨(ad.add (i.toNat * 3)).block, (ad.add (i.toNat * 3)).off + 1, none⟩ = some (.string (rd_T101 xs i).f1) ∧ w.cell? ⟨(ad.add (i.toNat * 3)).block, (ad.add (i.toNat * 3)).off + 2, none⟩ = some (.int .i64 (rd_T101 xs i).f2) := by
 obtain ⟨ad, c, e, _, hK, hc0⟩ := Kd.C_get h z101 i h0 h1
 have hc : ∀ j u, c[j]? = some u → w.cell? (ad.add (i.toNat * 3 + j)) = some u := hc0
 obtain rfl := k101_open hK
 exact ⟨ad, e, hc 0 _ rfl, by rw [← add_field _ _ 1 (by omega)]; exact hc 1 _ rfl, by rw [← add_field _ _ 2 (by omega)]; exact hc 2 _ rfl⟩

/-! #### struct type 91 -/
structure S91 where
 f0 : ByteArray
 f1 : ByteArray
 f2 : Int
def z91 : S91 := ⟨(⟨#[]⟩ : ByteArray), (⟨#[]⟩ : ByteArray), (0 : Int)⟩
def k91 : Kd S91 := Kd.iso (Kd.pair Kd.string (Kd.pair Kd.string (Kd.int .i64))) (fun x : S91 => (x.f0, x.f1, x.f2))
theorem k91_open {w : World} {x : S91} {cs : List Value} (h : k91.K w x cs) : cs = [.string x.f0, .string x.f1, .int .i64 x.f2] := by
 obtain ⟨_, _, rfl, rfl, ⟨_, _, rfl, rfl, rfl⟩⟩ := h
 exact rfl
theorem k91_openM {w : World} {base : Nat} {ok : Nat → Prop} {x : S91} {cs : List Value} (h : k91.M w base ok x cs) : cs = [.string x.f0, .string x.f1, .int .i64 x.f2] := by
 obtain ⟨_, _, rfl, rfl, ⟨_, _, rfl, rfl, rfl⟩⟩ := h
 exact rfl
theorem k91_mkM (w : World) (base : Nat) (ok : Nat → Prop) (x : S91)  : k91.M w base ok x [.string x.f0, .string x.f1, .int .i64 x.f2] := ⟨[.string x.f0], [.string x.f1, .int .i64 x.f2], rfl, rfl, ⟨[.string x.f1], [.int .i64 x.f2], rfl, rfl, rfl⟩⟩
def rd_T91 (xs : List S91) (i : Int) : S91 := xs.getD i.toNat z91
theorem at_T91 {w : World} {A : Option Addr} {n : Nat} {xs : List S91} (h : Kd.C k91 w A n xs) (i : Int) (h0 : 0 ≤ i) (h1 : i < n) : ∃ ad , A = some ad ∧ w.cell? (ad.add (i.toNat * 3)) = some (.string (rd_T91 xs i).f0) ∧ w.cell? ⟨(ad.add (i.toNat * 3)).block, (ad.add (i.toNat * 3)).off + 1, none⟩ = some (.string (rd_T91 xs i).f1) ∧ w.cell? ⟨(ad.add (i.toNat * 3)).block, (ad.add (i.toNat * 3)).off + 2, none⟩ = some (.int .i64 (rd_T91 xs i).f2) := by
 obtain ⟨ad, c, e, _, hK, hc0⟩ := Kd.C_get h z91 i h0 h1
 have hc : ∀ j u, c[j]? = some u → w.cell? (ad.add (i.toNat * 3 + j)) = some u := hc0
 obtain rfl := k91_open hK
 exact ⟨ad, e, hc 0 _ rfl, by rw [← add_field _ _ 1 (by omega)]; exact hc 1 _ rfl, by rw [← add_field _ _ 2 (by omega)]; exact hc 2 _ rfl⟩

/-! #### struct type 41 -/
structure S41 where
 f0 : ByteArray
 f1 : ByteArray
 f2 : Int
def z41 : S41 := ⟨(⟨#[]⟩ : ByteArray), (⟨#[]⟩ : ByteArray), (0 : Int)⟩
def k41 : Kd S41 := Kd.iso (Kd.pair Kd.string (Kd.pair Kd.string (Kd.int .i64))) (fun x : S41 => (x.f0, x.f1, x.f2))
theorem k41_open {w : World} {x : S41} {cs : List Value} (h : k41.K w x cs) : cs = [.string x.f0, .string x.f1, .int .i64 x.f2] := by
 obtain ⟨_, _, rfl, rfl, ⟨_, _, rfl, rfl, rfl⟩⟩ := h
 exact rfl
theorem k41_openM {w : World} {base : Nat} {ok : Nat → Prop} {x : S41} {cs : List Value} (h : k41.M w base ok x cs) : cs = [.string x.f0, .string x.f1, .int .i64 x.f2] := by
 obtain ⟨_, _, rfl, rfl, ⟨_, _, rfl, rfl, rfl⟩⟩ := h
 exact rfl
theorem k41_mkM (w : World) (base : Nat) (ok : Nat → Prop) (x : S41)  : k41.M w base ok x [.string x.f0, .string x.f1, .int .i64 x.f2] := ⟨[.string x.f0], [.string x.f1, .int .i64 x.f2], rfl, rfl, ⟨[.string x.f1], [.int .i64 x.f2], rfl, rfl, rfl⟩⟩
def rd_T41 (xs : List S41) (i : Int) : S41 := xs.getD i.toNat z41
theorem at_T41 {w : World} {A : Option Addr} {n : Nat} {xs : List S41} (h : Kd.C k41 w A n xs) (i : Int) (h0 : 0 ≤ i) (h1 : i < n) : ∃ ad , A = some ad ∧ w.cell? (ad.add (i.toNat * 3)) = some (.string (rd_T41 xs i).f0) ∧ w.cell? ⟨(ad.add (i.toNat * 3)).block, (ad.add (i.toNat * 3)).off + 1, none⟩ = some (.string (rd_T41 xs i).f1) ∧ w.cell? ⟨(ad.add (i.toNat * 3)).block, (ad.add (i.toNat * 3)).off + 2, none⟩ = some (.int .i64 (rd_T41 xs i).f2) := by
 obtain ⟨ad, c, e, _, hK, hc0⟩ := Kd.C_get h z41 i h0 h1
 have hc : ∀ j u, c[j]? = some u → w.cell? (ad.add (i.toNat * 3 + j)) = some u := hc0
 obtain rfl := k41_open hK
 exact ⟨ad, e, hc 0 _ rfl, by rw [← add_field _ _ 1 (by omega)]; exact hc 1 _ rfl, by rw [← add_field _ _ 2 (by omega)]; exact hc 2 _ rfl⟩

/-! #### struct type 31 -/
structure S31 where
 f0 : (List S91)
 f1 : (List ByteArray)
 f2 : (List S41)
/-- A state of type 31 at block g of W; what its slices lead to came in by w0. -/
def IsS31 (w0 W : World) (g : Nat) (f0 : List (S91)) (f1 : List ByteArray) (f2 : List (S41)) : Prop := ∃ A0 c0, ∃ A1 c1, ∃ A2 c2, W.heap[g]? = some (.cells #[.slice A0 f0.length c0, .slice A1 f1.length c1, .slice A2 f2.length c2] 31 (0, 0)) ∧ w0.heap.size ≤ g ∧ Kd.C k91 w0 A0 f0.length f0 ∧ Kd.C Kd.string w0 A1 f1.length f1 ∧ Kd.C k41 w0 A2 f2.length f2
theorem IsS31.grown {w0 W : World} {g : Nat} {f0 : List (S91)} {f1 : List ByteArray} {f2 : List (S41)} {W1 : World} {row : Option Nat} (h : IsS31 w0 W g f0 f1 f2) (hw : W.grownBy W1 row) (hne : some g ≠ row) : IsS31 w0 W1 g f0 f1 f2 := by
 obtain ⟨A0, c0, A1, c1, A2, c2, hb, hg, hr0, hr1, hr2⟩ := h
 exact ⟨A0, c0, A1, c1, A2, c2, blk_grown hb hw hne, hg, hr0, hr1, hr2⟩
theorem IsS31.kept {w0 W : World} {g : Nat} {f0 : List (S91)} {f1 : List ByteArray} {f2 : List (S41)} {W1 : World} {S : Nat → Prop} (h : IsS31 w0 W g f0 f1 f2) (hk : Kept W W1 S) (hne : ¬ S g) : IsS31 w0 W1 g f0 f1 f2 := by
 obtain ⟨A0, c0, A1, c1, A2, c2, hb, hg, hr0, hr1, hr2⟩ := h
 exact ⟨A0, c0, A1, c1, A2, c2, blk_kept hb hk hne, hg, hr0, hr1, hr2⟩
theorem IsS31.below {w0 W : World} {g : Nat} {f0 : List (S91)} {f1 : List ByteArray} {f2 : List (S41)} {W1 : World} (h : IsS31 w0 W g f0 f1 f2) (hw : Below W.heap.size W W1) : IsS31 w0 W1 g f0 f1 f2 := h.grown (grown_of_below hw none) (by simp)
theorem IsS31.alloc {w0 W : World} {g : Nat} {f0 : List (S91)} {f1 : List ByteArray} {f2 : List (S41)} (h : IsS31 w0 W g f0 f1 f2) (o : Obj) : IsS31 w0 (W.alloc o) g f0 f1 f2 := h.below (below_alloc (Below.refl _ _) o)
theorem IsS31.drewN {w0 W : World} {g : Nat} {f0 : List (S91)} {f1 : List ByteArray} {f2 : List (S41)} (h : IsS31 w0 W g f0 f1 f2) (m : Nat) : IsS31 w0 (W.drewN m) g f0 f1 f2 := h
theorem IsS31.drew {w0 W : World} {g : Nat} {f0 : List (S91)} {f1 : List ByteArray} {f2 : List (S41)} (h : IsS31 w0 W g f0 f1 f2) : IsS31 w0 W.drew g f0 f1 f2 := h
theorem IsS31.at_ {w0 W : World} {g : Nat} {f0 : List (S91)} {f1 : List ByteArray} {f2 : List (S41)} {w' : World} {m : Nat} (hq : W.drewN m = w') (h : IsS31 w0 W g f0 f1 f2) : IsS31 w0 w' g f0 f1 f2 := by subst hq; exact IsS31.drewN h m
theorem IsS31.apart {w0 W : World} {g : Nat} {f0 : List (S91)} {f1 : List ByteArray} {f2 : List (S41)} {α : Type} {d : Kd α} {e : Nat} {base : Nat} {ok : Nat → Prop} {v : Value} {xs : List α} (h : IsS31 w0 W g f0 f1 f2) (ho : d.R e W base ok v xs) (ht : ∀ q, q ∈ e :: d.E → q ≠ 31) : d.R e W base (fun k => ok k ∧ k ≠ g) v xs := by
 obtain ⟨A0, c0, A1, c1, A2, c2, hb, hg, hr0, hr1, hr2⟩ := h
 exact Kd.R_types ho hb ht
theorem IsS31.own_ne {w0 W : World} {g : Nat} {f0 : List (S91)} {f1 : List ByteArray} {f2 : List (S41)} {α : Type} {d : Kd α} {e : Nat} {base : Nat} {ok : Nat → Prop} {v : Value} {xs : List α} (h : IsS31 w0 W g f0 f1 f2) (ho : d.R e W base ok v xs) (ht : e ≠ 31) : some g ≠ v.ownBlock := by
 obtain ⟨A0, c0, A1, c1, A2, c2, hb, hg, hr0, hr1, hr2⟩ := h
 exact Kd.R_ne ho hb ht
theorem IsS31.lt {w0 W : World} {g : Nat} {f0 : List (S91)} {f1 : List ByteArray} {f2 : List (S41)} (h : IsS31 w0 W g f0 f1 f2) : g < W.heap.size := by
 obtain ⟨A0, c0, A1, c1, A2, c2, hb, hg, hr0, hr1, hr2⟩ := h
 exact blk_lt hb
theorem IsS31.ge {w0 W : World} {g : Nat} {f0 : List (S91)} {f1 : List ByteArray} {f2 : List (S41)} (h : IsS31 w0 W g f0 f1 f2) : w0.heap.size ≤ g := by
 obtain ⟨A0, c0, A1, c1, A2, c2, hb, hg, hr0, hr1, hr2⟩ := h
 exact hg
theorem IsS31.far {w0 W : World} {g : Nat} {f0 : List (S91)} {f1 : List ByteArray} {f2 : List (S41)} {p : Addr} (h : IsS31 w0 W g f0 f1 f2) (hne : g ≠ p.block) (u : Value) : IsS31 w0 (W.setCell p u) g f0 f1 f2 := by
 obtain ⟨A0, c0, A1, c1, A2, c2, hb, hg, hr0, hr1, hr2⟩ := h
 exact ⟨A0, c0, A1, c1, A2, c2, blk_far hb hne u, hg, hr0, hr1, hr2⟩
theorem IsS31.new (w0 W : World) (A0 : Option Addr) (c0 : Nat) (A1 : Option Addr) (c1 : Nat) (A2 : Option Addr) (c2 : Nat) (f0 : List (S91)) (f1 : List ByteArray) (f2 : List (S41)) (hB : Below w0.heap.size w0 W) (hr0 : Kd.C k91 w0 A0 f0.length f0) (hr1 : Kd.C Kd.string w0 A1 f1.length f1) (hr2 : Kd.C k41 w0 A2 f2.length f2) : IsS31 w0 (W.alloc (.cells #[.slice A0 f0.length c0, .slice A1 f1.length c1, .slice A2 f2.length c2] 31)) W.heap.size f0 f1 f2 := ⟨A0, c0, A1, c1, A2, c2, by simpa using heap_alloc_new W _, hB.size, hr0, hr1, hr2⟩

/-- The cells at an address hold a value of type 31. -/
def IsE31 (w0 W : World) (g o : Nat) (z : Option Nat) (f0 : List (S91)) (f1 : List ByteArray) (f2 : List (S41)) : Prop := ∃ A0 c0, ∃ A1 c1, ∃ A2 c2, (W.cell? ⟨g, o, z⟩ = some (.slice A0 f0.length c0) ∧ W.cell? ⟨g, o + 1, none⟩ = some (.slice A1 f1.length c1) ∧ W.cell? ⟨g, o + 2, none⟩ = some (.slice A2 f2.length c2)) ∧ True ∧ Kd.C k91 w0 A0 f0.length f0 ∧ Kd.C Kd.string w0 A1 f1.length f1 ∧ Kd.C k41 w0 A2 f2.length f2
theorem IsE31.below {w0 W : World} {g o : Nat} {z : Option Nat} {f0 : List (S91)} {f1 : List ByteArray} {f2 : List (S41)} {W1 : World} (h : IsE31 w0 W g o z f0 f1 f2) (hw : Below W.heap.size W W1) : IsE31 w0 W1 g o z f0 f1 f2 := by
 obtain ⟨A0, c0, A1, c1, A2, c2, ⟨h0, h1, h2⟩, _, r0, r1, r2⟩ := h
 exact ⟨A0, c0, A1, c1, A2, c2, ⟨(hw.cell (lt_ W _ h0)).trans h0, (hw.cell (lt_ W _ h1)).trans h1, (hw.cell (lt_ W _ h2)).trans h2⟩, trivial, r0, r1, r2⟩
theorem IsE31.alloc {w0 W : World} {g o : Nat} {z : Option Nat} {f0 : List (S91)} {f1 : List ByteArray} {f2 : List (S41)} (h : IsE31 w0 W g o z f0 f1 f2) (o_ : Obj) : IsE31 w0 (W.alloc o_) g o z f0 f1 f2 := h.below (below_alloc (Below.refl _ _) o_)
theorem IsE31.drewN {w0 W : World} {g o : Nat} {z : Option Nat} {f0 : List (S91)} {f1 : List ByteArray} {f2 : List (S41)} (h : IsE31 w0 W g o z f0 f1 f2) (m : Nat) : IsE31 w0 (W.drewN m) g o z f0 f1 f2 := h
theorem IsE31.drew {w0 W : World} {g o : Nat} {z : Option Nat} {f0 : List (S91)} {f1 : List ByteArray} {f2 : List (S41)} (h : IsE31 w0 W g o z f0 f1 f2) : IsE31 w0 W.drew g o z f0 f1 f2 := h
theorem isE31_a {p q : Prop} (x : Aside0 p) (h : p → q := by intro x; repeat (first | (with_reducible first | exact x | apply IsE31.alloc | apply IsE31.drewN | apply IsE31.drew) | exact x)) : q := h x.out
theorem IsE31.at_ {w0 W : World} {g o : Nat} {z : Option Nat} {f0 : List (S91)} {f1 : List ByteArray} {f2 : List (S41)} {w' : World} {m : Nat} (hq : W.drewN m = w') (h : IsE31 w0 W g o z f0 f1 f2) : IsE31 w0 w' g o z f0 f1 f2 := by subst hq; exact IsE31.drewN h m
theorem IsE31.lt {w0 W : World} {g o : Nat} {z : Option Nat} {f0 : List (S91)} {f1 : List ByteArray} {f2 : List (S41)} (h : IsE31 w0 W g o z f0 f1 f2) : g < W.heap.size := by
 obtain ⟨A0, c0, A1, c1, A2, c2, ⟨h0, h1, h2⟩, _, r0, r1, r2⟩ := h
 exact lt_ W _ h0
theorem IsE31.far {w0 W : World} {g o : Nat} {z : Option Nat} {f0 : List (S91)} {f1 : List ByteArray} {f2 : List (S41)} {p : Addr} (h : IsE31 w0 W g o z f0 f1 f2) (hne : g ≠ p.block) (u : Value) : IsE31 w0 (W.setCell p u) g o z f0 f1 f2 := by
 obtain ⟨A0, c0, A1, c1, A2, c2, ⟨h0, h1, h2⟩, _, r0, r1, r2⟩ := h
 exact ⟨A0, c0, A1, c1, A2, c2, ⟨(World.cell?_setCell_other W p _ u (fun e => hne (by rw [e]))).trans h0, (World.cell?_setCell_other W p _ u (fun e => hne (by rw [e]))).trans h1, (World.cell?_setCell_other W p _ u (fun e => hne (by rw [e]))).trans h2⟩, trivial, r0, r1, r2⟩
theorem cellE31_0 {W : World} {g o : Nat} {z : Option Nat} {f0 : List (S91)} {f1 : List ByteArray} {f2 : List (S41)} {A0 : Option Addr} {c0 : Nat} {A1 : Option Addr} {c1 : Nat} {A2 : Option Addr} {c2 : Nat} (h : W.cell? ⟨g, o, z⟩ = some (.slice A0 f0.length c0) ∧ W.cell? ⟨g, o + 1, none⟩ = some (.slice A1 f1.length c1) ∧ W.cell? ⟨g, o + 2, none⟩ = some (.slice A2 f2.length c2)) : W.cell? ⟨g, o, z⟩ = some (.slice A0 f0.length c0) := h.1
theorem cellE31_1 {W : World} {g o : Nat} {z : Option Nat} {f0 : List (S91)} {f1 : List ByteArray} {f2 : List (S41)} {A0 : Option Addr} {c0 : Nat} {A1 : Option Addr} {c1 : Nat} {A2 : Option Addr} {c2 : Nat} (h : W.cell? ⟨g, o, z⟩ = some (.slice A0 f0.length c0) ∧ W.cell? ⟨g, o + 1, none⟩ = some (.slice A1 f1.length c1) ∧ W.cell? ⟨g, o + 2, none⟩ = some (.slice A2 f2.length c2)) : W.cell? ⟨g, o + 1, none⟩ = some (.slice A1 f1.length c1) := h.2.1
theorem cellE31_2 {W : World} {g o : Nat} {z : Option Nat} {f0 : List (S91)} {f1 : List ByteArray} {f2 : List (S41)} {A0 : Option Addr} {c0 : Nat} {A1 : Option Addr} {c1 : Nat} {A2 : Option Addr} {c2 : Nat} (h : W.cell? ⟨g, o, z⟩ = some (.slice A0 f0.length c0) ∧ W.cell? ⟨g, o + 1, none⟩ = some (.slice A1 f1.length c1) ∧ W.cell? ⟨g, o + 2, none⟩ = some (.slice A2 f2.length c2)) : W.cell? ⟨g, o + 2, none⟩ = some (.slice A2 f2.length c2) := h.2.2

/-- A row stays where another row, of another type, grows. -/
theorem R_apart {α β : Type} {d : Kd α} {d' : Kd β} {e e' base base' : Nat} {ok ok' : Nat → Prop} {w w1 : World} {v v' : Value} {xs : List α} {ys : List β} (h : d.R e w base ok v xs) (h' : d'.R e' w base' ok' v' ys)
  (hne : ∀ q ∈ e :: d.E, ∀ q' ∈ e' :: d'.E, q ≠ q') (hg : w.grownBy w1 v'.ownBlock) : d.R e w1 base ok v xs := by
 refine Kd.R_mono (Kd.R_step (Kd.R_bound h) (fun k hk hlt => hg.block k hlt (fun e1 => ?_))) (fun k hk => hk.1)
 obtain ⟨_, _, _, q, hq, cells, hc⟩ := hk
 obtain ⟨_, _, _, q', hq', cells', hc'⟩ := (Kd.R_bound h').1 k e1.symm
 rw [hc] at hc'
 injection hc' with hc'
 injection hc' with _ h2
 exact hne q hq q' hq' h2
theorem blk_apart {β : Type} {d' : Kd β} {e' base' : Nat} {ok' : Nat → Prop} {w w1 : World} {v' : Value} {ys : List β} {g t : Nat} {cs : Array Value} (hb : w.heap[g]? = some (.cells cs t (0, 0))) (h' : d'.R e' w base' ok' v' ys)
  (hne : ∀ q' ∈ e' :: d'.E, t ≠ q') (hg : w.grownBy w1 v'.ownBlock) : w1.heap[g]? = some (.cells cs t (0, 0)) := by
 refine blk_grown hb hg (fun e1 => ?_)
 obtain ⟨_, _, _, q', hq', cells', hc'⟩ := (Kd.R_bound h').1 g e1.symm
 rw [hb] at hc'
 injection hc' with hc'
 injection hc' with _ h2
 exact hne q' hq' h2
/-- A rig that is being built at block g: its rows are one's own. -/
structure RigInv (base : Nat) (w : World) (g : Nat) (v0 v1 v2 : Value) (f0 : List S91) (f1 : List ByteArray) (f2 : List S41) : Prop where
 blk : w.heap[g]? = some (.cells #[v0, v1, v2] 31 (0, 0))
 ge : base ≤ g
 r0 : Kd.R k91 91 w base (fun _ => True) v0 f0
 r1 : Kd.R Kd.string 9 w base (fun _ => True) v1 f1
 r2 : Kd.R k41 41 w base (fun _ => True) v2 f2
/-- The same, whatever its rows' places are. -/
def RigOwn (base : Nat) (w : World) (g : Nat) (f0 : List S91) (f1 : List ByteArray) (f2 : List S41) : Prop := ∃ A0 c0, ∃ A1 c1, ∃ A2 c2, RigInv base w g (.slice A0 f0.length c0) (.slice A1 f1.length c1) (.slice A2 f2.length c2) f0 f1 f2
section
variable {base : Nat} {w w1 : World} {g : Nat} {v0 v1 v2 u : Value} {f0 : List S91} {f1 : List ByteArray} {f2 : List S41}
theorem RigInv.own (h : RigInv base w g v0 v1 v2 f0 f1 f2) : RigOwn base w g f0 f1 f2 := by
 obtain ⟨A0, c0, e0⟩ := Kd.R_slice h.r0
 obtain ⟨A1, c1, e1⟩ := Kd.R_slice h.r1
 obtain ⟨A2, c2, e2⟩ := Kd.R_slice h.r2
 subst e0 e1 e2
 exact ⟨A0, c0, A1, c1, A2, c2, h⟩
theorem RigInv.step (h : RigInv base w g v0 v1 v2 f0 f1 f2) (hb : Below w.heap.size w w1) : RigInv base w1 g v0 v1 v2 f0 f1 f2 :=
 ⟨(hb.block g (blk_lt h.blk)).trans h.blk, h.ge, Kd.R_below h.r0 hb, Kd.R_below h.r1 hb, Kd.R_below h.r2 hb⟩
theorem RigOwn.step (h : RigOwn base w g f0 f1 f2) (hb : Below w.heap.size w w1) : RigOwn base w1 g f0 f1 f2 := by
 obtain ⟨A0, c0, A1, c1, A2, c2, h⟩ := h
 exact (h.step hb).own
theorem RigInv.lt (h : RigInv base w g v0 v1 v2 f0 f1 f2) : base ≤ w.heap.size := Nat.le_trans h.ge (Nat.le_of_lt (blk_lt h.blk))
theorem RigInv.c0 (h : RigInv base w g v0 v1 v2 f0 f1 f2) : w.cell? ⟨g, 0, none⟩ = some v0 := (blk_cell h.blk 0).trans rfl
theorem RigInv.c1 (h : RigInv base w g v0 v1 v2 f0 f1 f2) : w.cell? ⟨g, 1, none⟩ = some v1 := (blk_cell h.blk 1).trans rfl
theorem RigInv.c2 (h : RigInv base w g v0 v1 v2 f0 f1 f2) : w.cell? ⟨g, 2, none⟩ = some v2 := (blk_cell h.blk 2).trans rfl
theorem RigInv.fr (h : RigInv base w g v0 v1 v2 f0 f1 f2) (j : Nat) : w.frozen? ⟨g, j, none⟩ = false := blk_frozen h.blk j
/-- A row has grown; its place is stored. -/
theorem RigInv.put0 {y : List S91} (h : RigInv base w g v0 v1 v2 f0 f1 f2) (hg : w.grownBy w1 v0.ownBlock) (hr : Kd.R k91 91 w1 base (fun _ => True) u y) : (w1.frozen? ⟨g, 0, none⟩ = false ∧ w1.cell? ⟨g, 0, none⟩ = some v0) ∧ RigInv base (w1.setCell ⟨g, 0, none⟩ u) g u v1 v2 y f1 f2 :=
 have hb := blk_apart h.blk h.r0 (by decide) hg
 ⟨⟨blk_frozen hb 0, (blk_cell hb 0).trans rfl⟩, blk_set hb 0 u, h.ge, Kd.R_set hr hb (by decide) 0 u, Kd.R_set (R_apart h.r1 h.r0 (by decide) hg) hb (by decide) 0 u, Kd.R_set (R_apart h.r2 h.r0 (by decide) hg) hb (by decide) 0 u⟩
theorem RigInv.put1 {y : List ByteArray} (h : RigInv base w g v0 v1 v2 f0 f1 f2) (hg : w.grownBy w1 v1.ownBlock) (hr : Kd.R Kd.string 9 w1 base (fun _ => True) u y) : (w1.frozen? ⟨g, 1, none⟩ = false ∧ w1.cell? ⟨g, 1, none⟩ = some v1) ∧ RigInv base (w1.setCell ⟨g, 1, none⟩ u) g v0 u v2 f0 y f2 :=
 have hb := blk_apart h.blk h.r1 (by decide) hg
 ⟨⟨blk_frozen hb 1, (blk_cell hb 1).trans rfl⟩, blk_set hb 1 u, h.ge, Kd.R_set (R_apart h.r0 h.r1 (by decide) hg) hb (by decide) 1 u, Kd.R_set hr hb (by decide) 1 u, Kd.R_set (R_apart h.r2 h.r1 (by decide) hg) hb (by decide) 1 u⟩
theorem RigInv.put2 {y : List S41} (h : RigInv base w g v0 v1 v2 f0 f1 f2) (hg : w.grownBy w1 v2.ownBlock) (hr : Kd.R k41 41 w1 base (fun _ => True) u y) : (w1.frozen? ⟨g, 2, none⟩ = false ∧ w1.cell? ⟨g, 2, none⟩ = some v2) ∧ RigInv base (w1.setCell ⟨g, 2, none⟩ u) g v0 v1 u f0 f1 y :=
 have hb := blk_apart h.blk h.r2 (by decide) hg
 ⟨⟨blk_frozen hb 2, (blk_cell hb 2).trans rfl⟩, blk_set hb 2 u, h.ge, Kd.R_set (R_apart h.r0 h.r2 (by decide) hg) hb (by decide) 2 u, Kd.R_set (R_apart h.r1 h.r2 (by decide) hg) hb (by decide) 2 u, Kd.R_set hr hb (by decide) 2 u⟩
theorem RigInv.c (h : RigInv base w g v0 v1 v2 f0 f1 f2) : True := trivial
end
theorem below_mono {B C : Nat} {w w1 : World} (h : Below C w w1) (hb : B ≤ C) : Below B w w1 := ⟨h.os, h.tape, h.output, h.size, fun k hk => h.block k (by omega)⟩
theorem below_trans {B : Nat} {w w1 w2 : World} (h : Below B w w1) (k : Below B w1 w2) : Below B w w2 := ⟨k.os.trans h.os, k.tape.trans h.tape, k.output.trans h.output, Nat.le_trans h.size k.size, fun j hj => (k.block j hj).trans (h.block j hj)⟩
/-- The side of a rail is p, s or m. -/
def sideB (a : ByteArray) : Bool := (a.toList == [112]) || ((a.toList == [115]) || (a.toList == [109]))
theorem sideB_yes {a : ByteArray} (h : sideB a = true) : (a.toList == [112]) = true ∨ ((a.toList == [112]) = false ∧ (a.toList == [115]) = true) ∨ ((a.toList == [112]) = false ∧ (a.toList == [115]) = false ∧ (a.toList == [109]) = true) := by
 unfold sideB at h
 cases h1 : (a.toList == [112]) with
 | true => exact .inl rfl
 | false =>
  cases h2 : (a.toList == [115]) with
  | true => exact .inr (.inl ⟨rfl, rfl⟩)
  | false => rw [h1, h2] at h; exact .inr (.inr ⟨rfl, rfl, h⟩)
theorem sideB_no {a : ByteArray} (h : ¬ sideB a = true) : (a.toList == [112]) = false ∧ (a.toList == [115]) = false ∧ (a.toList == [109]) = false := by
 unfold sideB at h
 simp only [Bool.or_eq_true, not_or, Bool.not_eq_true] at h
 exact ⟨h.1, h.2.1, h.2.2⟩
theorem ne_of_beq {a b : List UInt8} {c : Bool} (h : (a == b) = c) : (a != b) = !c := by rw [← h]; rfl
/-- What is carried while a rail or a belay is added: the rig, and the variable that holds it. -/
structure RailSt (base : Nat) (w w' : World) (g bl : Nat) (A0 : Option Addr) (c0 : Nat) (A1 : Option Addr) (c1 : Nat) (A2 : Option Addr) (c2 : Nat) (f0 : List S91) (f1 : List ByteArray) (f2 : List S41) (cs : Array Value) (bt : Nat) : Prop where
 rig : RigInv base w' g (.slice A0 f0.length c0) (.slice A1 f1.length c1) (.slice A2 f2.length c2) f0 f1 f2
 box : w'.heap[bl]? = some (.cells cs bt (0, 0))
 below : Below base w w'
theorem RailSt.step {base : Nat} {w w' w2 : World} {g bl : Nat} {A0 : Option Addr} {c0 : Nat} {A1 : Option Addr} {c1 : Nat} {A2 : Option Addr} {c2 : Nat} {f0 : List S91} {f1 : List ByteArray} {f2 : List S41} {cs : Array Value} {bt : Nat} (h : RailSt base w w' g bl A0 c0 A1 c1 A2 c2 f0 f1 f2 cs bt) (hb : Below w'.heap.size w' w2) : RailSt base w w2 g bl A0 c0 A1 c1 A2 c2 f0 f1 f2 cs bt :=
 ⟨h.rig.step hb, (hb.block bl (blk_lt h.box)).trans h.box, below_trans h.below (below_mono hb h.rig.lt)⟩
theorem RailSt.s0 {base : Nat} {w w' : World} {g bl : Nat} {A0 : Option Addr} {c0 : Nat} {A1 : Option Addr} {c1 : Nat} {A2 : Option Addr} {c2 : Nat} {f0 : List S91} {f1 : List ByteArray} {f2 : List S41} {x y z : Value} {bt : Nat} (h : RailSt base w w' g bl A0 c0 A1 c1 A2 c2 f0 f1 f2 #[x, y, z] bt) : w'.cell? ⟨bl, 0, none⟩ = some x ∧ w'.cell? ⟨bl, 1, none⟩ = some y ∧ w'.cell? ⟨bl, 2, none⟩ = some z :=
 ⟨(blk_cell h.box 0).trans rfl, (blk_cell h.box 1).trans rfl, (blk_cell h.box 2).trans rfl⟩
/-- A rig stored into a variable that was made for it. -/
theorem rig_new {base : Nat} {W : World} {bl : Nat} {z0 z1 z2 v0 v1 v2 : Value} {f0 : List S91} {f1 : List ByteArray} {f2 : List S41} (hb : W.heap[bl]? = some (.cells #[z0, z1, z2] 31 (0, 0))) (hge : base ≤ bl)
  (h0 : Kd.R k91 91 W base (fun _ => True) v0 f0) (h1 : Kd.R Kd.string 9 W base (fun _ => True) v1 f1) (h2 : Kd.R k41 41 W base (fun _ => True) v2 f2) :
  RigInv base (((W.setCell ⟨bl, 0, none⟩ v0).setCell ⟨bl, 1, none⟩ v1).setCell ⟨bl, 2, none⟩ v2) bl v0 v1 v2 f0 f1 f2 := by
 have b1 := blk_set hb 0 v0
 have b2 := blk_set b1 1 v1
 have b3 := blk_set b2 2 v2
 exact ⟨b3, hge, Kd.R_set (Kd.R_set (Kd.R_set h0 hb (by decide) 0 v0) b1 (by decide) 1 v1) b2 (by decide) 2 v2, Kd.R_set (Kd.R_set (Kd.R_set h1 hb (by decide) 0 v0) b1 (by decide) 1 v1) b2 (by decide) 2 v2, Kd.R_set (Kd.R_set (Kd.R_set h2 hb (by decide) 0 v0) b1 (by decide) 1 v1) b2 (by decide) 2 v2⟩
theorem set3_below {base : Nat} {w W : World} {bl : Nat} {u v x : Value} (h : Below base w W) (hge : base ≤ bl) : Below base w (((W.setCell ⟨bl, 0, none⟩ u).setCell ⟨bl, 1, none⟩ v).setCell ⟨bl, 2, none⟩ x) := ((h.setCell hge _).setCell hge _).setCell hge _
/-- What is carried while the rig is built anew: its rows so far; nothing that was there is touched. -/
def Built (B : Nat) (w wr : World) (bl : Nat) (f0 : List S91) (f1 : List ByteArray) (f2 : List S41) : Prop := RigOwn B wr bl f0 f1 f2 ∧ Below B w wr
theorem RigOwn.lt {base : Nat} {w : World} {g : Nat} {f0 : List S91} {f1 : List ByteArray} {f2 : List S41} (h : RigOwn base w g f0 f1 f2) : base ≤ w.heap.size := by
 obtain ⟨_, _, _, _, _, _, h⟩ := h
 exact h.lt
theorem built_step {B : Nat} {w wr w5 : World} {bl : Nat} {f0 : List S91} {f1 : List ByteArray} {f2 : List S41} (h : Built B w wr bl f0 f1 f2) (hb : Below wr.heap.size wr w5) : Built B w w5 bl f0 f1 f2 := ⟨h.1.step hb, below_trans h.2 (below_mono hb h.1.lt)⟩

end Go.Proofs.Ytcenjcgfdghfnaa.P
end

section
-- Written by gprint.py (own program, over the printer of the kit) out of the translation. Lean checks it.
namespace Go.Proofs.Ytcenjcgfdghfnaa.P
open Go.RowKit Go.Proofs.YtcenjcgfdghfnaaW.PrintWords Go.Proofs.YtcenjcgfdghfnaaW.PrintLast Go.Proofs.YtcenjcgfdghfnaaW.PrintMore Go.Proofs.YtcenjcgfdghfnaaW.Pk
open Bool renaming true → T_, false → F_
open List renaming setIfInBounds_toArray → sT_, set_cons_zero → s0_, set_cons_succ → sS_
attribute [local go_sem] max2_int min2_int max_two min_two max_three min_three max_four min_four   -- for this text's walks alone
set_option linter.unusedVariables false
set_option linter.unusedSimpArgs false

/-! ### laws_szRail: function 73 -/
def laws_szRail.f (a0_0 : ByteArray) (a0_1 : ByteArray) (a0_2 : Int) (a1 : Int) : Option (Int) := if (wrap64 (a1 - (a0_0.size : Int))) < 0 then (some (-1)) else (if (wrap64 ((wrap64 (a1 - (a0_0.size : Int))) - (a0_1.size : Int))) < 0 then (some (-1)) else (some (wrap64 ((wrap64 (a1 - (a0_0.size : Int))) - (a0_1.size : Int)))))
set_option maxHeartbeats 8000000 in
set_option maxRecDepth 100000 in
theorem laws_szRail.calls (a0_0 : ByteArray) (a0_1 : ByteArray) (a0_2 : Int) (a1 : Int) (r : Int) (w : World) (h : laws_szRail.f a0_0 a0_1 a0_2 a1 = some r) :
  Calls Try.prog 73 #[.agg #[.string a0_0, .string a0_1, .int .i64 a0_2], .int .i64 a1] w fun e w' => e = .returned (.int .i64 r) ∧ Below w.heap.size w w' := by
 have hu99 := Try.underlying99
 have HB := ak_ (Below.refl w.heap.size w)
 have H : (if (wrap64 (a1 - (a0_0.size : Int))) < 0 then (some (-1)) else (if (wrap64 ((wrap64 (a1 - (a0_0.size : Int))) - (a0_1.size : Int))) < 0 then (some (-1)) else (some (wrap64 ((wrap64 (a1 - (a0_0.size : Int))) - (a0_1.size : Int)))))) = some r := h
 clear h
 by_cases c3 : (wrap64 (a1 - (a0_0.size : Int))) < 0
 ·rw [if_pos c3] at H
  have c3b0 : decide ((wrap64 (a1 - (a0_0.size : Int))) < 0) = true := dt_ c3
  clear c3
  obtain rfl := Option.some.inj H
  go_enter Try.func73, Try.ntmps73
  go_wp2_with (first | ((with_reducible refine gate_dst (N := 2) rfl ?_); refine box_event ?hg (N := 2) ?hd (cs := #[.string a0_0, .string a0_1, .int .i64 a0_2]) (t := 99) ?hr ?_; (case hd => rfl); (case hg => rfl); (case hr => first | (go_simp; done) | (go_simp; rfl)); intro gb101 hg w4 hbox hb; have BK101 := ak_ (hbox); have GW101 := ak_ ((by rw [hg]; exact (below_size hb_) : w.heap.size ≤ gb101)); have GE101 := ak_ ((by rw [hg]; exact (below_size hb_) : w.heap.size ≤ gb101)); replace HB := ak_ (below_step hb_ hb); skip; clear hb hbox hg; have hcz5_0 : w4.cell? ⟨gb101, 0, none⟩ = some (.string a0_0) := (blk_cell BK101.out 0).trans rfl; have hcz5_1 : w4.cell? ⟨gb101, 1, none⟩ = some (.string a0_1) := (blk_cell BK101.out 1).trans rfl; have hcz5_2 : w4.cell? ⟨gb101, 2, none⟩ = some (.int .i64 a0_2) := (blk_cell BK101.out 2).trans rfl; have hfz5_0 := blk_frozen BK101.out 0; have hfz5_1 := blk_frozen BK101.out 1; have hfz5_2 := blk_frozen BK101.out 2))
  go_ret
  exact ⟨ew_, (hg_ GE101)⟩
 ·rw [if_neg c3] at H
  have c3b0 : decide ((wrap64 (a1 - (a0_0.size : Int))) < 0) = false := decide_eq_false c3
  clear c3
  by_cases c6 : (wrap64 ((wrap64 (a1 - (a0_0.size : Int))) - (a0_1.size : Int))) < 0
  ·rw [if_pos c6] at H
   have c6b0 : decide ((wrap64 ((wrap64 (a1 - (a0_0.size : Int))) - (a0_1.size : Int))) < 0) = true := dt_ c6
   clear c6
   obtain rfl := Option.some.inj H
   go_enter Try.func73, Try.ntmps73
   go_wp2_with (first | ((with_reducible refine gate_dst (N := 2) rfl ?_); refine box_event ?hg (N := 2) ?hd (cs := #[.string a0_0, .string a0_1, .int .i64 a0_2]) (t := 99) ?hr ?_; (case hd => rfl); (case hg => rfl); (case hr => first | (go_simp; done) | (go_simp; rfl)); intro gb101 hg w7 hbox hb; have BK101 := ak_ (hbox); have GW101 := ak_ ((by rw [hg]; exact (below_size hb_) : w.heap.size ≤ gb101)); have GE101 := ak_ ((by rw [hg]; exact (below_size hb_) : w.heap.size ≤ gb101)); replace HB := ak_ (below_step hb_ hb); skip; clear hb hbox hg; have hcz8_0 : w7.cell? ⟨gb101, 0, none⟩ = some (.string a0_0) := (blk_cell BK101.out 0).trans rfl; have hcz8_1 : w7.cell? ⟨gb101, 1, none⟩ = some (.string a0_1) := (blk_cell BK101.out 1).trans rfl; have hcz8_2 : w7.cell? ⟨gb101, 2, none⟩ = some (.int .i64 a0_2) := (blk_cell BK101.out 2).trans rfl; have hfz8_0 := blk_frozen BK101.out 0; have hfz8_1 := blk_frozen BK101.out 1; have hfz8_2 := blk_frozen BK101.out 2))
   go_ret
   exact ⟨ew_, (hg_ GE101)⟩
  ·rw [if_neg c6] at H
   have c6b0 : decide ((wrap64 ((wrap64 (a1 - (a0_0.size : Int))) - (a0_1.size : Int))) < 0) = false := decide_eq_false c6
   clear c6
   obtain rfl := Option.some.inj H
   go_enter Try.func73, Try.ntmps73
   go_wp2_with (first | ((with_reducible refine gate_dst (N := 2) rfl ?_); refine box_event ?hg (N := 2) ?hd (cs := #[.string a0_0, .string a0_1, .int .i64 a0_2]) (t := 99) ?hr ?_; (case hd => rfl); (case hg => rfl); (case hr => first | (go_simp; done) | (go_simp; rfl)); intro gb101 hg w9 hbox hb; have BK101 := ak_ (hbox); have GW101 := ak_ ((by rw [hg]; exact (below_size hb_) : w.heap.size ≤ gb101)); have GE101 := ak_ ((by rw [hg]; exact (below_size hb_) : w.heap.size ≤ gb101)); replace HB := ak_ (below_step hb_ hb); skip; clear hb hbox hg; have hcz10_0 : w9.cell? ⟨gb101, 0, none⟩ = some (.string a0_0) := (blk_cell BK101.out 0).trans rfl; have hcz10_1 : w9.cell? ⟨gb101, 1, none⟩ = some (.string a0_1) := (blk_cell BK101.out 1).trans rfl; have hcz10_2 : w9.cell? ⟨gb101, 2, none⟩ = some (.int .i64 a0_2) := (blk_cell BK101.out 2).trans rfl; have hfz10_0 := blk_frozen BK101.out 0; have hfz10_1 := blk_frozen BK101.out 1; have hfz10_2 := blk_frozen BK101.out 2))
   go_ret
   exact ⟨ew_, (hg_ GE101)⟩

/-! ### laws_szRailS: function 35 -/
def laws_szRailS.l0 : Nat → List (S99) → Int → Int → Option (Int)
 | 0, _, _, _ => none
 | k + 1, x0, x1, x5 => if x5 < (x0.length : Int) then (if 0 ≤ x5 then ((laws_szRail.f ((rd_T99 x0 x5).f0) ((rd_T99 x0 x5).f1) ((rd_T99 x0 x5).f2) x1).bind fun t103 => (if t103 < 0 then (some (-1)) else (laws_szRailS.l0 k x0 t103 (wrap64 (x5 + 1))))) else (none)) else (some x1)
def laws_szRailS.f (k : Nat) (l0 : List (S99)) (a1 : Int) : Option (Int) := if (wrap64 (a1 - (l0.length : Int))) < 0 then (some (-1)) else (laws_szRailS.l0 k l0 (wrap64 (a1 - (l0.length : Int))) 0)
set_option maxHeartbeats 8000000 in
set_option maxRecDepth 100000 in
theorem laws_szRailS.calls (k : Nat) (A0 : Option Addr) (c0 : Nat) (l0 : List (S99)) (a1 : Int) (r : Int) (w : World) (hr0 : Kd.C k99 w A0 l0.length l0) (hc0 : l0.length ≤ c0) (h : laws_szRailS.f k l0 a1 = some r) :
  Calls Try.prog 35 #[.slice A0 l0.length c0, .int .i64 a1] w fun e w' => e = .returned (.int .i64 r) ∧ Below w.heap.size w w' := by
 have hu99 := Try.underlying99
 have HR0 := ak_ hr0
 have HC0 := ak_ hc0
 clear hr0 hc0
 have HB := ak_ (Below.refl w.heap.size w)
 have H : (if (wrap64 (a1 - (l0.length : Int))) < 0 then (some (-1)) else (laws_szRailS.l0 k l0 (wrap64 (a1 - (l0.length : Int))) 0)) = some r := h
 clear h
 by_cases c3 : (wrap64 (a1 - (l0.length : Int))) < 0
 ·rw [if_pos c3] at H
  have c3b0 : decide ((wrap64 (a1 - (l0.length : Int))) < 0) = true := dt_ c3
  clear c3
  obtain rfl := Option.some.inj H
  go_enter Try.func35, Try.ntmps35
  go_wp2
  go_ret
  exact ⟨ew_, hb_⟩
 ·rw [if_neg c3] at H
  have c3b0 : decide ((wrap64 (a1 - (l0.length : Int))) < 0) = false := decide_eq_false c3
  clear c3
  have H' := ak_ H
  clear H
  go_enter Try.func35, Try.ntmps35
  go_wp2
  go_loopg [1, 5] k (fun kq v1 v5 w' => ∃ (x1_1 : Int) (x5_1 : Int), v1 = .int .i64 x1_1 ∧ v5 = .int .i64 x5_1 ∧ Aside0 (laws_szRailS.l0 kq l0 x1_1 x5_1 = some r) ∧ Aside0 (kq ≤ k) ∧ Aside0 (Below w.heap.size w w'))
  case atStart => exact ⟨(wrap64 (a1 - (l0.length : Int))), (0), fr_, fr_, H', ⟨Nat.le_refl _⟩, ⟨hb_⟩⟩
  case round =>
   clear H'
   try clear p2
   try clear c3
   try clear c3b0
   obtain ⟨x1_1, x5_1, rfl, rfl, HA, HK1, HB⟩ := hrel
   cases gk with
   | zero => exact absurd HA.out (by simp [laws_szRailS.l0])
   | succ k1 =>
    have H := HA.out
    clear HA
    simp only [laws_szRailS.l0] at H
    by_cases c4 : x5_1 < (l0.length : Int)
    ·rw [if_pos c4] at H
     have c4b0 : decide (x5_1 < (l0.length : Int)) = true := dt_ c4
     clear c4
     by_cases c5 : 0 ≤ x5_1
     ·rw [if_pos c5] at H
      have c5b0 : decide (0 ≤ x5_1) = true := dt_ c5
      clear c5
      replace H := ob_ H
      obtain ⟨t103, A60, H⟩ := H
      (try dsimp only at H)
      have A6 := ak_ A60
      clear A60
      by_cases c7 : t103 < 0
      ·rw [if_pos c7] at H
       have c7b0 : decide (t103 < 0) = true := dt_ c7
       clear c7
       obtain rfl := Option.some.inj H
       have p102 : 0 ≤ (x5_1 : Int) := od_
       have q102 : x5_1 < (l0.length : Int) := od_
       obtain ⟨ad102, e102, hx102_0, hx102_1, hx102_2⟩ := at_T99 HR0.out x5_1 p102 q102
       cases e102
       replace hx102_0 := cq_ HB hx102_0
       replace hx102_1 := cq_ HB hx102_1
       replace hx102_2 := cq_ HB hx102_2
       replace p102 := eq_true p102
       replace q102 := eq_true q102
       go_wp2_with (first | ((with_reducible refine gate_callee (f := 73) rfl ?_); refine goesL_ (some 23) rfl rfl Try.func73 (by kernel_rfl) rfl #[.agg #[.string ((rd_T99 l0 x5_1).f0), .string ((rd_T99 l0 x5_1).f1), .int .i64 ((rd_T99 l0 x5_1).f2)], .int .i64 x1_1] rfl ln_ ?_; (with_reducible refine (laws_szRail.calls ((rd_T99 l0 x5_1).f0) ((rd_T99 l0 x5_1).f1) ((rd_T99 l0 x5_1).f2) x1_1 t103 _ A6.out).mono ?_); rintro e w8 ⟨rfl, hb⟩; refine ⟨_, rfl, ?_⟩; replace HB := ak_ (below_step hb_ hb); skip; clear hb))
       go_ret
       exact ⟨ew_, hb_⟩
      ·rw [if_neg c7] at H
       have c7b0 : decide (t103 < 0) = false := decide_eq_false c7
       clear c7
       have H' := ak_ H
       clear H
       have p102 : 0 ≤ (x5_1 : Int) := od_
       have q102 : x5_1 < (l0.length : Int) := od_
       obtain ⟨ad102, e102, hx102_0, hx102_1, hx102_2⟩ := at_T99 HR0.out x5_1 p102 q102
       cases e102
       replace hx102_0 := cq_ HB hx102_0
       replace hx102_1 := cq_ HB hx102_1
       replace hx102_2 := cq_ HB hx102_2
       replace p102 := eq_true p102
       replace q102 := eq_true q102
       go_wp2_with (first | ((with_reducible refine gate_callee (f := 73) rfl ?_); refine goesL_ (some 23) rfl rfl Try.func73 (by kernel_rfl) rfl #[.agg #[.string ((rd_T99 l0 x5_1).f0), .string ((rd_T99 l0 x5_1).f1), .int .i64 ((rd_T99 l0 x5_1).f2)], .int .i64 x1_1] rfl ln_ ?_; (with_reducible refine (laws_szRail.calls ((rd_T99 l0 x5_1).f0) ((rd_T99 l0 x5_1).f1) ((rd_T99 l0 x5_1).f2) x1_1 t103 _ A6.out).mono ?_); rintro e w9 ⟨rfl, hb⟩; refine ⟨_, rfl, ?_⟩; replace HB := ak_ (below_step hb_ hb); skip; clear hb))
       go_roundg k1
       case measure => have := HK1.out; omega
       case rel => exact ⟨(t103), (wrap64 (x5_1 + 1)), fr_, fr_, H', ⟨by have := HK1.out; omega⟩, ⟨hb_⟩⟩
     ·rw [if_neg c5] at H
      exact absurd H (by simp)
    ·rw [if_neg c4] at H
     have c4b0 : decide (x5_1 < (l0.length : Int)) = false := decide_eq_false c4
     clear c4
     obtain rfl := Option.some.inj H
     go_wp2
     go_ret
     exact ⟨ew_, hb_⟩

/-! ### laws_szStringS: function 36 -/
def laws_szStringS.l0 : Nat → List ByteArray → Int → Int → Option (Int)
 | 0, _, _, _ => none
 | k + 1, x0, x1, x5 => if x5 < (x0.length : Int) then (if 0 ≤ x5 then (if (wrap64 (x1 - ((rdOf ByteArray.empty x0 x5).size : Int))) < 0 then (some (-1)) else (laws_szStringS.l0 k x0 (wrap64 (x1 - ((rdOf ByteArray.empty x0 x5).size : Int))) (wrap64 (x5 + 1)))) else (none)) else (some x1)
def laws_szStringS.f (k : Nat) (l0 : List ByteArray) (a1 : Int) : Option (Int) := if (wrap64 (a1 - (l0.length : Int))) < 0 then (some (-1)) else (laws_szStringS.l0 k l0 (wrap64 (a1 - (l0.length : Int))) 0)
set_option maxHeartbeats 8000000 in
set_option maxRecDepth 100000 in
theorem laws_szStringS.calls (k : Nat) (A0 : Option Addr) (c0 : Nat) (l0 : List ByteArray) (a1 : Int) (r : Int) (w : World) (hr0 : Kd.C Kd.string w A0 l0.length l0) (hc0 : l0.length ≤ c0) (h : laws_szStringS.f k l0 a1 = some r) :
  Calls Try.prog 36 #[.slice A0 l0.length c0, .int .i64 a1] w fun e w' => e = .returned (.int .i64 r) ∧ Drawn0 w w' := by
 have HR0 := ak_ hr0
 have HC0 := ak_ hc0
 clear hr0 hc0
 have H : (if (wrap64 (a1 - (l0.length : Int))) < 0 then (some (-1)) else (laws_szStringS.l0 k l0 (wrap64 (a1 - (l0.length : Int))) 0)) = some r := h
 clear h
 by_cases c3 : (wrap64 (a1 - (l0.length : Int))) < 0
 ·rw [if_pos c3] at H
  have c3b0 : decide ((wrap64 (a1 - (l0.length : Int))) < 0) = true := dt_ c3
  clear c3
  obtain rfl := Option.some.inj H
  go_enter Try.func36, Try.ntmps36
  go_wp2
  go_ret
  exact ⟨by first | rfl | (simp; done) | (simp [*]; done), by repeat (first | exact Drawn0.refl _ | apply Drawn0.step)⟩
 ·rw [if_neg c3] at H
  have c3b0 : decide ((wrap64 (a1 - (l0.length : Int))) < 0) = false := decide_eq_false c3
  clear c3
  have H' := ak_ H
  clear H
  go_enter Try.func36, Try.ntmps36
  go_wp2
  go_loopg [1, 5] k (fun kq v1 v5 w' => ∃ (x1_1 : Int) (x5_1 : Int), v1 = .int .i64 x1_1 ∧ v5 = .int .i64 x5_1 ∧ Aside0 (laws_szStringS.l0 kq l0 x1_1 x5_1 = some r) ∧ Aside0 (kq ≤ k) ∧ Drawn0 w w')
  case atStart => exact ⟨(wrap64 (a1 - (l0.length : Int))), (0), fr_, fr_, H', ⟨Nat.le_refl _⟩, by repeat (first | exact Drawn0.refl _ | apply Drawn0.step)⟩
  case round =>
   clear H'
   try clear p2
   try clear c3
   try clear c3b0
   obtain ⟨x1_1, x5_1, rfl, rfl, HA, HK1, ⟨m1, rfl⟩⟩ := hrel
   cases gk with
   | zero => exact absurd HA.out (by simp [laws_szStringS.l0])
   | succ k1 =>
    have H := HA.out
    clear HA
    simp only [laws_szStringS.l0] at H
    by_cases c4 : x5_1 < (l0.length : Int)
    ·rw [if_pos c4] at H
     have c4b0 : decide (x5_1 < (l0.length : Int)) = true := dt_ c4
     clear c4
     by_cases c5 : 0 ≤ x5_1
     ·rw [if_pos c5] at H
      have c5b0 : decide (0 ≤ x5_1) = true := dt_ c5
      clear c5
      by_cases c6 : (wrap64 (x1_1 - ((rdOf ByteArray.empty l0 x5_1).size : Int))) < 0
      ·rw [if_pos c6] at H
       have c6b0 : decide ((wrap64 (x1_1 - ((rdOf ByteArray.empty l0 x5_1).size : Int))) < 0) = true := dt_ c6
       clear c6
       obtain rfl := Option.some.inj H
       have p104 : 0 ≤ (x5_1 : Int) := od_
       have q104 : x5_1 < (l0.length : Int) := od_
       obtain ⟨ad104, e104, hx104_0⟩ := Kd.at_string HR0.out x5_1 p104 q104
       cases e104
       replace p104 := eq_true p104
       replace q104 := eq_true q104
       go_wp2
       go_ret
       exact ⟨by first | rfl | (simp; done) | (simp [*]; done), by repeat (first | exact Drawn0.refl _ | apply Drawn0.step)⟩
      ·rw [if_neg c6] at H
       have c6b0 : decide ((wrap64 (x1_1 - ((rdOf ByteArray.empty l0 x5_1).size : Int))) < 0) = false := decide_eq_false c6
       clear c6
       have H' := ak_ H
       clear H
       have p104 : 0 ≤ (x5_1 : Int) := od_
       have q104 : x5_1 < (l0.length : Int) := od_
       obtain ⟨ad104, e104, hx104_0⟩ := Kd.at_string HR0.out x5_1 p104 q104
       cases e104
       replace p104 := eq_true p104
       replace q104 := eq_true q104
       go_wp2
       go_roundg k1
       case measure => have := HK1.out; omega
       case rel => exact ⟨(wrap64 (x1_1 - ((rdOf ByteArray.empty l0 x5_1).size : Int))), (wrap64 (x5_1 + 1)), fr_, fr_, H', ⟨by have := HK1.out; omega⟩, by repeat (first | exact Drawn0.refl _ | apply Drawn0.step)⟩
     ·rw [if_neg c5] at H
      exact absurd H (by simp)
    ·rw [if_neg c4] at H
     have c4b0 : decide (x5_1 < (l0.length : Int)) = false := decide_eq_false c4
     clear c4
     obtain rfl := Option.some.inj H
     go_wp2
     go_ret
     exact ⟨by first | rfl | (simp; done) | (simp [*]; done), by repeat (first | exact Drawn0.refl _ | apply Drawn0.step)⟩

/-! ### laws_szBelay: function 74 -/
def laws_szBelay.f (a0_0 : ByteArray) (a0_1 : ByteArray) (a0_2 : Int) (a1 : Int) : Option (Int) := if (wrap64 (a1 - (a0_0.size : Int))) < 0 then (some (-1)) else (if (wrap64 ((wrap64 (a1 - (a0_0.size : Int))) - (a0_1.size : Int))) < 0 then (some (-1)) else (some (wrap64 ((wrap64 (a1 - (a0_0.size : Int))) - (a0_1.size : Int)))))
set_option maxHeartbeats 8000000 in
set_option maxRecDepth 100000 in
theorem laws_szBelay.calls (a0_0 : ByteArray) (a0_1 : ByteArray) (a0_2 : Int) (a1 : Int) (r : Int) (w : World) (h : laws_szBelay.f a0_0 a0_1 a0_2 a1 = some r) :
  Calls Try.prog 74 #[.agg #[.string a0_0, .string a0_1, .int .i64 a0_2], .int .i64 a1] w fun e w' => e = .returned (.int .i64 r) ∧ Below w.heap.size w w' := by
 have hu101 := Try.underlying101
 have HB := ak_ (Below.refl w.heap.size w)
 have H : (if (wrap64 (a1 - (a0_0.size : Int))) < 0 then (some (-1)) else (if (wrap64 ((wrap64 (a1 - (a0_0.size : Int))) - (a0_1.size : Int))) < 0 then (some (-1)) else (some (wrap64 ((wrap64 (a1 - (a0_0.size : Int))) - (a0_1.size : Int)))))) = some r := h
 clear h
 by_cases c3 : (wrap64 (a1 - (a0_0.size : Int))) < 0
 ·rw [if_pos c3] at H
  have c3b0 : decide ((wrap64 (a1 - (a0_0.size : Int))) < 0) = true := dt_ c3
  clear c3
  obtain rfl := Option.some.inj H
  go_enter Try.func74, Try.ntmps74
  go_wp2_with (first | ((with_reducible refine gate_dst (N := 2) rfl ?_); refine box_event ?hg (N := 2) ?hd (cs := #[.string a0_0, .string a0_1, .int .i64 a0_2]) (t := 101) ?hr ?_; (case hd => rfl); (case hg => rfl); (case hr => first | (go_simp; done) | (go_simp; rfl)); intro gb105 hg w4 hbox hb; have BK105 := ak_ (hbox); have GW105 := ak_ ((by rw [hg]; exact (below_size hb_) : w.heap.size ≤ gb105)); have GE105 := ak_ ((by rw [hg]; exact (below_size hb_) : w.heap.size ≤ gb105)); replace HB := ak_ (below_step hb_ hb); skip; clear hb hbox hg; have hcz5_0 : w4.cell? ⟨gb105, 0, none⟩ = some (.string a0_0) := (blk_cell BK105.out 0).trans rfl; have hcz5_1 : w4.cell? ⟨gb105, 1, none⟩ = some (.string a0_1) := (blk_cell BK105.out 1).trans rfl; have hcz5_2 : w4.cell? ⟨gb105, 2, none⟩ = some (.int .i64 a0_2) := (blk_cell BK105.out 2).trans rfl; have hfz5_0 := blk_frozen BK105.out 0; have hfz5_1 := blk_frozen BK105.out 1; have hfz5_2 := blk_frozen BK105.out 2))
  go_ret
  exact ⟨ew_, (hg_ GE105)⟩
 ·rw [if_neg c3] at H
  have c3b0 : decide ((wrap64 (a1 - (a0_0.size : Int))) < 0) = false := decide_eq_false c3
  clear c3
  by_cases c6 : (wrap64 ((wrap64 (a1 - (a0_0.size : Int))) - (a0_1.size : Int))) < 0
  ·rw [if_pos c6] at H
   have c6b0 : decide ((wrap64 ((wrap64 (a1 - (a0_0.size : Int))) - (a0_1.size : Int))) < 0) = true := dt_ c6
   clear c6
   obtain rfl := Option.some.inj H
   go_enter Try.func74, Try.ntmps74
   go_wp2_with (first | ((with_reducible refine gate_dst (N := 2) rfl ?_); refine box_event ?hg (N := 2) ?hd (cs := #[.string a0_0, .string a0_1, .int .i64 a0_2]) (t := 101) ?hr ?_; (case hd => rfl); (case hg => rfl); (case hr => first | (go_simp; done) | (go_simp; rfl)); intro gb105 hg w7 hbox hb; have BK105 := ak_ (hbox); have GW105 := ak_ ((by rw [hg]; exact (below_size hb_) : w.heap.size ≤ gb105)); have GE105 := ak_ ((by rw [hg]; exact (below_size hb_) : w.heap.size ≤ gb105)); replace HB := ak_ (below_step hb_ hb); skip; clear hb hbox hg; have hcz8_0 : w7.cell? ⟨gb105, 0, none⟩ = some (.string a0_0) := (blk_cell BK105.out 0).trans rfl; have hcz8_1 : w7.cell? ⟨gb105, 1, none⟩ = some (.string a0_1) := (blk_cell BK105.out 1).trans rfl; have hcz8_2 : w7.cell? ⟨gb105, 2, none⟩ = some (.int .i64 a0_2) := (blk_cell BK105.out 2).trans rfl; have hfz8_0 := blk_frozen BK105.out 0; have hfz8_1 := blk_frozen BK105.out 1; have hfz8_2 := blk_frozen BK105.out 2))
   go_ret
   exact ⟨ew_, (hg_ GE105)⟩
  ·rw [if_neg c6] at H
   have c6b0 : decide ((wrap64 ((wrap64 (a1 - (a0_0.size : Int))) - (a0_1.size : Int))) < 0) = false := decide_eq_false c6
   clear c6
   obtain rfl := Option.some.inj H
   go_enter Try.func74, Try.ntmps74
   go_wp2_with (first | ((with_reducible refine gate_dst (N := 2) rfl ?_); refine box_event ?hg (N := 2) ?hd (cs := #[.string a0_0, .string a0_1, .int .i64 a0_2]) (t := 101) ?hr ?_; (case hd => rfl); (case hg => rfl); (case hr => first | (go_simp; done) | (go_simp; rfl)); intro gb105 hg w9 hbox hb; have BK105 := ak_ (hbox); have GW105 := ak_ ((by rw [hg]; exact (below_size hb_) : w.heap.size ≤ gb105)); have GE105 := ak_ ((by rw [hg]; exact (below_size hb_) : w.heap.size ≤ gb105)); replace HB := ak_ (below_step hb_ hb); skip; clear hb hbox hg; have hcz10_0 : w9.cell? ⟨gb105, 0, none⟩ = some (.string a0_0) := (blk_cell BK105.out 0).trans rfl; have hcz10_1 : w9.cell? ⟨gb105, 1, none⟩ = some (.string a0_1) := (blk_cell BK105.out 1).trans rfl; have hcz10_2 : w9.cell? ⟨gb105, 2, none⟩ = some (.int .i64 a0_2) := (blk_cell BK105.out 2).trans rfl; have hfz10_0 := blk_frozen BK105.out 0; have hfz10_1 := blk_frozen BK105.out 1; have hfz10_2 := blk_frozen BK105.out 2))
   go_ret
   exact ⟨ew_, (hg_ GE105)⟩

/-! ### laws_szBelayS: function 37 -/
def laws_szBelayS.l0 : Nat → List (S101) → Int → Int → Option (Int)
 | 0, _, _, _ => none
 | k + 1, x0, x1, x5 => if x5 < (x0.length : Int) then (if 0 ≤ x5 then ((laws_szBelay.f ((rd_T101 x0 x5).f0) ((rd_T101 x0 x5).f1) ((rd_T101 x0 x5).f2) x1).bind fun t107 => (if t107 < 0 then (some (-1)) else (laws_szBelayS.l0 k x0 t107 (wrap64 (x5 + 1))))) else (none)) else (some x1)
def laws_szBelayS.f (k : Nat) (l0 : List (S101)) (a1 : Int) : Option (Int) := if (wrap64 (a1 - (l0.length : Int))) < 0 then (some (-1)) else (laws_szBelayS.l0 k l0 (wrap64 (a1 - (l0.length : Int))) 0)
set_option maxHeartbeats 8000000 in
set_option maxRecDepth 100000 in
theorem laws_szBelayS.calls (k : Nat) (A0 : Option Addr) (c0 : Nat) (l0 : List (S101)) (a1 : Int) (r : Int) (w : World) (hr0 : Kd.C k101 w A0 l0.length l0) (hc0 : l0.length ≤ c0) (h : laws_szBelayS.f k l0 a1 = some r) :
  Calls Try.prog 37 #[.slice A0 l0.length c0, .int .i64 a1] w fun e w' => e = .returned (.int .i64 r) ∧ Below w.heap.size w w' := by
 have hu101 := Try.underlying101
 have HR0 := ak_ hr0
 have HC0 := ak_ hc0
 clear hr0 hc0
 have HB := ak_ (Below.refl w.heap.size w)
 have H : (if (wrap64 (a1 - (l0.length : Int))) < 0 then (some (-1)) else (laws_szBelayS.l0 k l0 (wrap64 (a1 - (l0.length : Int))) 0)) = some r := h
 clear h
 by_cases c3 : (wrap64 (a1 - (l0.length : Int))) < 0
 ·rw [if_pos c3] at H
  have c3b0 : decide ((wrap64 (a1 - (l0.length : Int))) < 0) = true := dt_ c3
  clear c3
  obtain rfl := Option.some.inj H
  go_enter Try.func37, Try.ntmps37
  go_wp2
  go_ret
  exact ⟨ew_, hb_⟩
 ·rw [if_neg c3] at H
  have c3b0 : decide ((wrap64 (a1 - (l0.length : Int))) < 0) = false := decide_eq_false c3
  clear c3
  have H' := ak_ H
  clear H
  go_enter Try.func37, Try.ntmps37
  go_wp2
  go_loopg [1, 5] k (fun kq v1 v5 w' => ∃ (x1_1 : Int) (x5_1 : Int), v1 = .int .i64 x1_1 ∧ v5 = .int .i64 x5_1 ∧ Aside0 (laws_szBelayS.l0 kq l0 x1_1 x5_1 = some r) ∧ Aside0 (kq ≤ k) ∧ Aside0 (Below w.heap.size w w'))
  case atStart => exact ⟨(wrap64 (a1 - (l0.length : Int))), (0), fr_, fr_, H', ⟨Nat.le_refl _⟩, ⟨hb_⟩⟩
  case round =>
   clear H'
   try clear p2
   try clear c3
   try clear c3b0
   obtain ⟨x1_1, x5_1, rfl, rfl, HA, HK1, HB⟩ := hrel
   cases gk with
   | zero => exact absurd HA.out (by simp [laws_szBelayS.l0])
   | succ k1 =>
    have H := HA.out
    clear HA
    simp only [laws_szBelayS.l0] at H
    by_cases c4 : x5_1 < (l0.length : Int)
    ·rw [if_pos c4] at H
     have c4b0 : decide (x5_1 < (l0.length : Int)) = true := dt_ c4
     clear c4
     by_cases c5 : 0 ≤ x5_1
     ·rw [if_pos c5] at H
      have c5b0 : decide (0 ≤ x5_1) = true := dt_ c5
      clear c5
      replace H := ob_ H
      obtain ⟨t107, A60, H⟩ := H
      (try dsimp only at H)
      have A6 := ak_ A60
      clear A60
      by_cases c7 : t107 < 0
      ·rw [if_pos c7] at H
       have c7b0 : decide (t107 < 0) = true := dt_ c7
       clear c7
       obtain rfl := Option.some.inj H
       have p106 : 0 ≤ (x5_1 : Int) := od_
       have q106 : x5_1 < (l0.length : Int) := od_
       obtain ⟨ad106, e106, hx106_0, hx106_1, hx106_2⟩ := at_T101 HR0.out x5_1 p106 q106
       cases e106
       replace hx106_0 := cq_ HB hx106_0
       replace hx106_1 := cq_ HB hx106_1
       replace hx106_2 := cq_ HB hx106_2
       replace p106 := eq_true p106
       replace q106 := eq_true q106
       go_wp2_with (first | ((with_reducible refine gate_callee (f := 74) rfl ?_); refine goesL_ (some 23) rfl rfl Try.func74 (by kernel_rfl) rfl #[.agg #[.string ((rd_T101 l0 x5_1).f0), .string ((rd_T101 l0 x5_1).f1), .int .i64 ((rd_T101 l0 x5_1).f2)], .int .i64 x1_1] rfl ln_ ?_; (with_reducible refine (laws_szBelay.calls ((rd_T101 l0 x5_1).f0) ((rd_T101 l0 x5_1).f1) ((rd_T101 l0 x5_1).f2) x1_1 t107 _ A6.out).mono ?_); rintro e w8 ⟨rfl, hb⟩; refine ⟨_, rfl, ?_⟩; replace HB := ak_ (below_step hb_ hb); skip; clear hb))
       go_ret
       exact ⟨ew_, hb_⟩
      ·rw [if_neg c7] at H
       have c7b0 : decide (t107 < 0) = false := decide_eq_false c7
       clear c7
       have H' := ak_ H
       clear H
       have p106 : 0 ≤ (x5_1 : Int) := od_
       have q106 : x5_1 < (l0.length : Int) := od_
       obtain ⟨ad106, e106, hx106_0, hx106_1, hx106_2⟩ := at_T101 HR0.out x5_1 p106 q106
       cases e106
       replace hx106_0 := cq_ HB hx106_0
       replace hx106_1 := cq_ HB hx106_1
       replace hx106_2 := cq_ HB hx106_2
       replace p106 := eq_true p106
       replace q106 := eq_true q106
       go_wp2_with (first | ((with_reducible refine gate_callee (f := 74) rfl ?_); refine goesL_ (some 23) rfl rfl Try.func74 (by kernel_rfl) rfl #[.agg #[.string ((rd_T101 l0 x5_1).f0), .string ((rd_T101 l0 x5_1).f1), .int .i64 ((rd_T101 l0 x5_1).f2)], .int .i64 x1_1] rfl ln_ ?_; (with_reducible refine (laws_szBelay.calls ((rd_T101 l0 x5_1).f0) ((rd_T101 l0 x5_1).f1) ((rd_T101 l0 x5_1).f2) x1_1 t107 _ A6.out).mono ?_); rintro e w9 ⟨rfl, hb⟩; refine ⟨_, rfl, ?_⟩; replace HB := ak_ (below_step hb_ hb); skip; clear hb))
       go_roundg k1
       case measure => have := HK1.out; omega
       case rel => exact ⟨(t107), (wrap64 (x5_1 + 1)), fr_, fr_, H', ⟨by have := HK1.out; omega⟩, ⟨hb_⟩⟩
     ·rw [if_neg c5] at H
      exact absurd H (by simp)
    ·rw [if_neg c4] at H
     have c4b0 : decide (x5_1 < (l0.length : Int)) = false := decide_eq_false c4
     clear c4
     obtain rfl := Option.some.inj H
     go_wp2
     go_ret
     exact ⟨ew_, hb_⟩

/-! ### laws_szRig: function 5 -/
def laws_szRig.f (k : Nat) (l0_0 : List (S99)) (l0_1 : List ByteArray) (l0_2 : List (S101)) (a1 : Int) : Option (Int) := (laws_szRailS.f k l0_0 a1).bind fun t109 => (if t109 < 0 then (some (-1)) else ((laws_szStringS.f k l0_1 t109).bind fun t110 => (if t110 < 0 then (some (-1)) else ((laws_szBelayS.f k l0_2 t110).bind fun t111 => (if t111 < 0 then (some (-1)) else (some t111))))))
set_option maxHeartbeats 8000000 in
set_option maxRecDepth 100000 in
theorem laws_szRig.calls (k : Nat) (A0_0 : Option Addr) (c0_0 : Nat) (l0_0 : List (S99)) (A0_1 : Option Addr) (c0_1 : Nat) (l0_1 : List ByteArray) (A0_2 : Option Addr) (c0_2 : Nat) (l0_2 : List (S101)) (a1 : Int) (r : Int) (w : World) (hr0_0 : Kd.C k99 w A0_0 l0_0.length l0_0) (hc0_0 : l0_0.length ≤ c0_0) (hr0_1 : Kd.C Kd.string w A0_1 l0_1.length l0_1) (hc0_1 : l0_1.length ≤ c0_1) (hr0_2 : Kd.C k101 w A0_2 l0_2.length l0_2) (hc0_2 : l0_2.length ≤ c0_2) (h : laws_szRig.f k l0_0 l0_1 l0_2 a1 = some r) :
  Calls Try.prog 5 #[.agg #[.slice A0_0 l0_0.length c0_0, .slice A0_1 l0_1.length c0_1, .slice A0_2 l0_2.length c0_2], .int .i64 a1] w fun e w' => e = .returned (.int .i64 r) ∧ Below w.heap.size w w' := by
 have hu26 := Try.underlying26
 have HR0_0 := ak_ hr0_0
 have HC0_0 := ak_ hc0_0
 clear hr0_0 hc0_0
 have HR0_1 := ak_ hr0_1
 have HC0_1 := ak_ hc0_1
 clear hr0_1 hc0_1
 have HR0_2 := ak_ hr0_2
 have HC0_2 := ak_ hc0_2
 clear hr0_2 hc0_2
 have HB := ak_ (Below.refl w.heap.size w)
 have H : ((laws_szRailS.f k l0_0 a1).bind fun t109 => (if t109 < 0 then (some (-1)) else ((laws_szStringS.f k l0_1 t109).bind fun t110 => (if t110 < 0 then (some (-1)) else ((laws_szBelayS.f k l0_2 t110).bind fun t111 => (if t111 < 0 then (some (-1)) else (some t111))))))) = some r := h
 clear h
 replace H := ob_ H
 obtain ⟨t109, A30, H⟩ := H
 (try dsimp only at H)
 have A3 := ak_ A30
 clear A30
 by_cases c4 : t109 < 0
 ·rw [if_pos c4] at H
  have c4b0 : decide (t109 < 0) = true := dt_ c4
  clear c4
  obtain rfl := Option.some.inj H
  go_enter Try.func5, Try.ntmps5
  go_wp2_with (first | ((with_reducible refine gate_dst (N := 2) rfl ?_); refine box_event ?hg (N := 2) ?hd (cs := #[.slice A0_0 l0_0.length c0_0, .slice A0_1 l0_1.length c0_1, .slice A0_2 l0_2.length c0_2]) (t := 26) ?hr ?_; (case hd => rfl); (case hg => rfl); (case hr => first | (go_simp; done) | (go_simp; rfl)); intro gb108 hg w5 hbox hb; have BK108 := ak_ (hbox); have GW108 := ak_ ((by rw [hg]; exact (below_size hb_) : w.heap.size ≤ gb108)); have GE108 := ak_ ((by rw [hg]; exact (below_size hb_) : w.heap.size ≤ gb108)); replace HB := ak_ (below_step hb_ hb); skip; clear hb hbox hg; have hcz6_0 : w5.cell? ⟨gb108, 0, none⟩ = some (.slice A0_0 l0_0.length c0_0) := (blk_cell BK108.out 0).trans rfl; have hcz6_1 : w5.cell? ⟨gb108, 1, none⟩ = some (.slice A0_1 l0_1.length c0_1) := (blk_cell BK108.out 1).trans rfl; have hcz6_2 : w5.cell? ⟨gb108, 2, none⟩ = some (.slice A0_2 l0_2.length c0_2) := (blk_cell BK108.out 2).trans rfl; have hfz6_0 := blk_frozen BK108.out 0; have hfz6_1 := blk_frozen BK108.out 1; have hfz6_2 := blk_frozen BK108.out 2) | ((with_reducible refine gate_callee (f := 35) rfl ?_); refine goesL_ (some 8) rfl rfl Try.func35 (by kernel_rfl) rfl #[.slice A0_0 l0_0.length c0_0, .int .i64 a1] rfl ln_ ?_; (with_reducible refine (laws_szRailS.calls k _ _ l0_0 a1 t109 _ (kc_ (Kd.C_below HR0_0.out HB.out)) HC0_0.out A3.out).mono ?_); rintro e w7 ⟨rfl, hb⟩; refine ⟨_, rfl, ?_⟩; replace BK108 := ak_ (blk_below (g := gb108) (o := .cells #[.slice A0_0 l0_0.length c0_0, .slice A0_1 l0_1.length c0_1, .slice A0_2 l0_2.length c0_2] 26 (0, 0)) (bk_ BK108) hb); replace HB := ak_ (below_step (hg_ GE108) hb); skip; clear hb))
  go_ret
  exact ⟨ew_, (hg_ GE108)⟩
 ·rw [if_neg c4] at H
  have c4b0 : decide (t109 < 0) = false := decide_eq_false c4
  clear c4
  replace H := ob_ H
  obtain ⟨t110, A80, H⟩ := H
  (try dsimp only at H)
  have A8 := ak_ A80
  clear A80
  by_cases c9 : t110 < 0
  ·rw [if_pos c9] at H
   have c9b0 : decide (t110 < 0) = true := dt_ c9
   clear c9
   obtain rfl := Option.some.inj H
   go_enter Try.func5, Try.ntmps5
   go_wp2_with (first | ((with_reducible refine gate_dst (N := 2) rfl ?_); refine box_event ?hg (N := 2) ?hd (cs := #[.slice A0_0 l0_0.length c0_0, .slice A0_1 l0_1.length c0_1, .slice A0_2 l0_2.length c0_2]) (t := 26) ?hr ?_; (case hd => rfl); (case hg => rfl); (case hr => first | (go_simp; done) | (go_simp; rfl)); intro gb108 hg w10 hbox hb; have BK108 := ak_ (hbox); have GW108 := ak_ ((by rw [hg]; exact (below_size hb_) : w.heap.size ≤ gb108)); have GE108 := ak_ ((by rw [hg]; exact (below_size hb_) : w.heap.size ≤ gb108)); replace HB := ak_ (below_step hb_ hb); skip; clear hb hbox hg; have hcz11_0 : w10.cell? ⟨gb108, 0, none⟩ = some (.slice A0_0 l0_0.length c0_0) := (blk_cell BK108.out 0).trans rfl; have hcz11_1 : w10.cell? ⟨gb108, 1, none⟩ = some (.slice A0_1 l0_1.length c0_1) := (blk_cell BK108.out 1).trans rfl; have hcz11_2 : w10.cell? ⟨gb108, 2, none⟩ = some (.slice A0_2 l0_2.length c0_2) := (blk_cell BK108.out 2).trans rfl; have hfz11_0 := blk_frozen BK108.out 0; have hfz11_1 := blk_frozen BK108.out 1; have hfz11_2 := blk_frozen BK108.out 2) | ((with_reducible refine gate_callee (f := 35) rfl ?_); refine goesL_ (some 8) rfl rfl Try.func35 (by kernel_rfl) rfl #[.slice A0_0 l0_0.length c0_0, .int .i64 a1] rfl ln_ ?_; (with_reducible refine (laws_szRailS.calls k _ _ l0_0 a1 t109 _ (kc_ (Kd.C_below HR0_0.out HB.out)) HC0_0.out A3.out).mono ?_); rintro e w12 ⟨rfl, hb⟩; refine ⟨_, rfl, ?_⟩; replace BK108 := ak_ (blk_below (g := gb108) (o := .cells #[.slice A0_0 l0_0.length c0_0, .slice A0_1 l0_1.length c0_1, .slice A0_2 l0_2.length c0_2] 26 (0, 0)) (bk_ BK108) hb); replace HB := ak_ (below_step (hg_ GE108) hb); skip; (try clear hb); (try clear hb2); (try clear hk); (try clear hi); have hcz13_0 : w12.cell? ⟨gb108, 0, none⟩ = some (.slice A0_0 l0_0.length c0_0) := (blk_cell BK108.out 0).trans rfl; have hcz13_1 : w12.cell? ⟨gb108, 1, none⟩ = some (.slice A0_1 l0_1.length c0_1) := (blk_cell BK108.out 1).trans rfl; have hcz13_2 : w12.cell? ⟨gb108, 2, none⟩ = some (.slice A0_2 l0_2.length c0_2) := (blk_cell BK108.out 2).trans rfl; have hfz13_0 := blk_frozen BK108.out 0; have hfz13_1 := blk_frozen BK108.out 1; have hfz13_2 := blk_frozen BK108.out 2) | ((with_reducible refine gate_callee (f := 36) rfl ?_); refine goesL_ (some 14) rfl rfl Try.func36 (by kernel_rfl) rfl #[.slice A0_1 l0_1.length c0_1, .int .i64 t109] rfl ln_ ?_; (with_reducible refine (laws_szStringS.calls k _ _ l0_1 t109 t110 _ (kc_ (Kd.C_below HR0_1.out HB.out)) HC0_1.out A8.out).mono ?_); rintro e w' ⟨rfl, ⟨nd, rfl⟩⟩; refine ⟨_, rfl, ?_⟩))
   go_ret
   exact ⟨ew_, (hg_ GE108)⟩
  ·rw [if_neg c9] at H
   have c9b0 : decide (t110 < 0) = false := decide_eq_false c9
   clear c9
   replace H := ob_ H
   obtain ⟨t111, A140, H⟩ := H
   (try dsimp only at H)
   have A14 := ak_ A140
   clear A140
   by_cases c15 : t111 < 0
   ·rw [if_pos c15] at H
    have c15b0 : decide (t111 < 0) = true := dt_ c15
    clear c15
    obtain rfl := Option.some.inj H
    go_enter Try.func5, Try.ntmps5
    go_wp2_with (first | ((with_reducible refine gate_dst (N := 2) rfl ?_); refine box_event ?hg (N := 2) ?hd (cs := #[.slice A0_0 l0_0.length c0_0, .slice A0_1 l0_1.length c0_1, .slice A0_2 l0_2.length c0_2]) (t := 26) ?hr ?_; (case hd => rfl); (case hg => rfl); (case hr => first | (go_simp; done) | (go_simp; rfl)); intro gb108 hg w16 hbox hb; have BK108 := ak_ (hbox); have GW108 := ak_ ((by rw [hg]; exact (below_size hb_) : w.heap.size ≤ gb108)); have GE108 := ak_ ((by rw [hg]; exact (below_size hb_) : w.heap.size ≤ gb108)); replace HB := ak_ (below_step hb_ hb); skip; clear hb hbox hg; have hcz17_0 : w16.cell? ⟨gb108, 0, none⟩ = some (.slice A0_0 l0_0.length c0_0) := (blk_cell BK108.out 0).trans rfl; have hcz17_1 : w16.cell? ⟨gb108, 1, none⟩ = some (.slice A0_1 l0_1.length c0_1) := (blk_cell BK108.out 1).trans rfl; have hcz17_2 : w16.cell? ⟨gb108, 2, none⟩ = some (.slice A0_2 l0_2.length c0_2) := (blk_cell BK108.out 2).trans rfl; have hfz17_0 := blk_frozen BK108.out 0; have hfz17_1 := blk_frozen BK108.out 1; have hfz17_2 := blk_frozen BK108.out 2) | ((with_reducible refine gate_callee (f := 35) rfl ?_); refine goesL_ (some 8) rfl rfl Try.func35 (by kernel_rfl) rfl #[.slice A0_0 l0_0.length c0_0, .int .i64 a1] rfl ln_ ?_; (with_reducible refine (laws_szRailS.calls k _ _ l0_0 a1 t109 _ (kc_ (Kd.C_below HR0_0.out HB.out)) HC0_0.out A3.out).mono ?_); rintro e w18 ⟨rfl, hb⟩; refine ⟨_, rfl, ?_⟩; replace BK108 := ak_ (blk_below (g := gb108) (o := .cells #[.slice A0_0 l0_0.length c0_0, .slice A0_1 l0_1.length c0_1, .slice A0_2 l0_2.length c0_2] 26 (0, 0)) (bk_ BK108) hb); replace HB := ak_ (below_step (hg_ GE108) hb); skip; (try clear hb); (try clear hb2); (try clear hk); (try clear hi); have hcz19_0 : w18.cell? ⟨gb108, 0, none⟩ = some (.slice A0_0 l0_0.length c0_0) := (blk_cell BK108.out 0).trans rfl; have hcz19_1 : w18.cell? ⟨gb108, 1, none⟩ = some (.slice A0_1 l0_1.length c0_1) := (blk_cell BK108.out 1).trans rfl; have hcz19_2 : w18.cell? ⟨gb108, 2, none⟩ = some (.slice A0_2 l0_2.length c0_2) := (blk_cell BK108.out 2).trans rfl; have hfz19_0 := blk_frozen BK108.out 0; have hfz19_1 := blk_frozen BK108.out 1; have hfz19_2 := blk_frozen BK108.out 2) | ((with_reducible refine gate_callee (f := 36) rfl ?_); refine goesL_ (some 14) rfl rfl Try.func36 (by kernel_rfl) rfl #[.slice A0_1 l0_1.length c0_1, .int .i64 t109] rfl ln_ ?_; (with_reducible refine (laws_szStringS.calls k _ _ l0_1 t109 t110 _ (kc_ (Kd.C_below HR0_1.out HB.out)) HC0_1.out A8.out).mono ?_); rintro e w' ⟨rfl, ⟨nd, rfl⟩⟩; refine ⟨_, rfl, ?_⟩) | ((with_reducible refine gate_callee (f := 37) rfl ?_); refine goesL_ (some 20) rfl rfl Try.func37 (by kernel_rfl) rfl #[.slice A0_2 l0_2.length c0_2, .int .i64 t110] rfl ln_ ?_; (with_reducible refine (laws_szBelayS.calls k _ _ l0_2 t110 t111 _ ?side1 HC0_2.out A14.out).mono ?_); (case side1 => repeat (first | exact (Kd.C_below HR0_2.out (hg_ GE108)) | (with_reducible refine Kd.C_alloc ?_ _) | (with_reducible refine Kd.C_drewN ?_ _) | (with_reducible refine Kd.C_drew ?_))); rintro e w20 ⟨rfl, hb⟩; refine ⟨_, rfl, ?_⟩; replace BK108 := ak_ (blk_below (g := gb108) (o := .cells #[.slice A0_0 l0_0.length c0_0, .slice A0_1 l0_1.length c0_1, .slice A0_2 l0_2.length c0_2] 26 (0, 0)) (bk_ BK108) hb); replace HB := ak_ (below_step (hg_ GE108) hb); skip; clear hb))
    go_ret
    exact ⟨ew_, (hg_ GE108)⟩
   ·rw [if_neg c15] at H
    have c15b0 : decide (t111 < 0) = false := decide_eq_false c15
    clear c15
    obtain rfl := Option.some.inj H
    go_enter Try.func5, Try.ntmps5
    go_wp2_with (first | ((with_reducible refine gate_dst (N := 2) rfl ?_); refine box_event ?hg (N := 2) ?hd (cs := #[.slice A0_0 l0_0.length c0_0, .slice A0_1 l0_1.length c0_1, .slice A0_2 l0_2.length c0_2]) (t := 26) ?hr ?_; (case hd => rfl); (case hg => rfl); (case hr => first | (go_simp; done) | (go_simp; rfl)); intro gb108 hg w21 hbox hb; have BK108 := ak_ (hbox); have GW108 := ak_ ((by rw [hg]; exact (below_size hb_) : w.heap.size ≤ gb108)); have GE108 := ak_ ((by rw [hg]; exact (below_size hb_) : w.heap.size ≤ gb108)); replace HB := ak_ (below_step hb_ hb); skip; clear hb hbox hg; have hcz22_0 : w21.cell? ⟨gb108, 0, none⟩ = some (.slice A0_0 l0_0.length c0_0) := (blk_cell BK108.out 0).trans rfl; have hcz22_1 : w21.cell? ⟨gb108, 1, none⟩ = some (.slice A0_1 l0_1.length c0_1) := (blk_cell BK108.out 1).trans rfl; have hcz22_2 : w21.cell? ⟨gb108, 2, none⟩ = some (.slice A0_2 l0_2.length c0_2) := (blk_cell BK108.out 2).trans rfl; have hfz22_0 := blk_frozen BK108.out 0; have hfz22_1 := blk_frozen BK108.out 1; have hfz22_2 := blk_frozen BK108.out 2) | ((with_reducible refine gate_callee (f := 35) rfl ?_); refine goesL_ (some 8) rfl rfl Try.func35 (by kernel_rfl) rfl #[.slice A0_0 l0_0.length c0_0, .int .i64 a1] rfl ln_ ?_; (with_reducible refine (laws_szRailS.calls k _ _ l0_0 a1 t109 _ (kc_ (Kd.C_below HR0_0.out HB.out)) HC0_0.out A3.out).mono ?_); rintro e w23 ⟨rfl, hb⟩; refine ⟨_, rfl, ?_⟩; replace BK108 := ak_ (blk_below (g := gb108) (o := .cells #[.slice A0_0 l0_0.length c0_0, .slice A0_1 l0_1.length c0_1, .slice A0_2 l0_2.length c0_2] 26 (0, 0)) (bk_ BK108) hb); replace HB := ak_ (below_step (hg_ GE108) hb); skip; (try clear hb); (try clear hb2); (try clear hk); (try clear hi); have hcz24_0 : w23.cell? ⟨gb108, 0, none⟩ = some (.slice A0_0 l0_0.length c0_0) := (blk_cell BK108.out 0).trans rfl; have hcz24_1 : w23.cell? ⟨gb108, 1, none⟩ = some (.slice A0_1 l0_1.length c0_1) := (blk_cell BK108.out 1).trans rfl; have hcz24_2 : w23.cell? ⟨gb108, 2, none⟩ = some (.slice A0_2 l0_2.length c0_2) := (blk_cell BK108.out 2).trans rfl; have hfz24_0 := blk_frozen BK108.out 0; have hfz24_1 := blk_frozen BK108.out 1; have hfz24_2 := blk_frozen BK108.out 2) | ((with_reducible refine gate_callee (f := 36) rfl ?_); refine goesL_ (some 14) rfl rfl Try.func36 (by kernel_rfl) rfl #[.slice A0_1 l0_1.length c0_1, .int .i64 t109] rfl ln_ ?_; (with_reducible refine (laws_szStringS.calls k _ _ l0_1 t109 t110 _ (kc_ (Kd.C_below HR0_1.out HB.out)) HC0_1.out A8.out).mono ?_); rintro e w' ⟨rfl, ⟨nd, rfl⟩⟩; refine ⟨_, rfl, ?_⟩) | ((with_reducible refine gate_callee (f := 37) rfl ?_); refine goesL_ (some 20) rfl rfl Try.func37 (by kernel_rfl) rfl #[.slice A0_2 l0_2.length c0_2, .int .i64 t110] rfl ln_ ?_; (with_reducible refine (laws_szBelayS.calls k _ _ l0_2 t110 t111 _ ?side1 HC0_2.out A14.out).mono ?_); (case side1 => repeat (first | exact (Kd.C_below HR0_2.out (hg_ GE108)) | (with_reducible refine Kd.C_alloc ?_ _) | (with_reducible refine Kd.C_drewN ?_ _) | (with_reducible refine Kd.C_drew ?_))); rintro e w25 ⟨rfl, hb⟩; refine ⟨_, rfl, ?_⟩; replace BK108 := ak_ (blk_below (g := gb108) (o := .cells #[.slice A0_0 l0_0.length c0_0, .slice A0_1 l0_1.length c0_1, .slice A0_2 l0_2.length c0_2] 26 (0, 0)) (bk_ BK108) hb); replace HB := ak_ (below_step (hg_ GE108) hb); skip; clear hb))
    go_ret
    exact ⟨ew_, (hg_ GE108)⟩

/-! ### spec_l19Empty: function 87 -/
def spec_l19Empty.f  : Option ((List (S91)) × List ByteArray × (List (S41))) := some ((([] : List (S91))), (([] : List ByteArray)), (([] : List (S41))))
set_option maxHeartbeats 8000000 in
set_option maxRecDepth 100000 in
theorem spec_l19Empty.calls  (r1 : List (S91)) (r2 : List ByteArray) (r3 : List (S41)) (w : World) (h : spec_l19Empty.f  = some (r1, r2, r3)) :
  Calls Try.prog 87 #[] w fun e w' => ∃ v0_ v1_ v2_ : Value, e = .returned (.agg #[v0_, v1_, v2_]) ∧ Kd.R k91 91 w' w.heap.size (fun _ => True) v0_ r1 ∧ Kd.R Kd.string 9 w' w.heap.size (fun _ => True) v1_ r2 ∧ Kd.R k41 41 w' w.heap.size (fun _ => True) v2_ r3 ∧ Below w.heap.size w w' := by
 have hu31 := Try.underlying31
 have HB := ak_ (Below.refl w.heap.size w)
 have H : (some ((([] : List (S91))), (([] : List ByteArray)), (([] : List (S41))))) = some (r1, r2, r3) := h
 clear h
 obtain ⟨y113, hy113⟩ : ∃ y_ : List (S91), y_ = (([] : List (S91))) := ⟨_, rfl⟩
 replace H : (some (y113, (([] : List ByteArray)), (([] : List (S41))))) = some (r1, r2, r3) := by first | (rw [hy113]; with_reducible exact H) | (have H2_ := (Option.bind_some _ _).symm.trans H; rw [hy113]; with_reducible exact H2_) | (have H2_ := (Option.bind_some _ _).symm.trans H; with_reducible exact H2_) | with_reducible exact H | (rw [hy113]; exact H) | exact H
 have Ny113 := ak_ hy113
 clear hy113
 obtain ⟨y116, hy116⟩ : ∃ y_ : List ByteArray, y_ = (([] : List ByteArray)) := ⟨_, rfl⟩
 replace H : (some (y113, y116, (([] : List (S41))))) = some (r1, r2, r3) := by first | (rw [hy116]; with_reducible exact H) | (have H2_ := (Option.bind_some _ _).symm.trans H; rw [hy116]; with_reducible exact H2_) | (have H2_ := (Option.bind_some _ _).symm.trans H; with_reducible exact H2_) | with_reducible exact H | (rw [hy116]; exact H) | exact H
 have Ny116 := ak_ hy116
 clear hy116
 obtain ⟨y119, hy119⟩ : ∃ y_ : List (S41), y_ = (([] : List (S41))) := ⟨_, rfl⟩
 replace H : (some (y113, y116, y119)) = some (r1, r2, r3) := by first | (rw [hy119]; with_reducible exact H) | (have H2_ := (Option.bind_some _ _).symm.trans H; rw [hy119]; with_reducible exact H2_) | (have H2_ := (Option.bind_some _ _).symm.trans H; with_reducible exact H2_) | with_reducible exact H | (rw [hy119]; exact H) | exact H
 have Ny119 := ak_ hy119
 clear hy119
 simp only [Option.some.injEq, Prod.mk.injEq] at H
 obtain ⟨rfl, rfl, rfl⟩ := H
 go_enter Try.func87, Try.ntmps87
 go_wp2_with (first | ((with_reducible refine gate_dst (N := 0) rfl ?_); refine box_event ?hg (N := 0) ?hd (cs := #[.slice none 0 0, .slice none 0 0, .slice none 0 0]) (t := 31) ?hr ?_; (case hd => rfl); (case hg => rfl); (case hr => first | (go_simp; done) | (go_simp; rfl)); intro gb112 hg w1 hbox hb; have BK112 := ak_ (hbox); have GW112 := ak_ ((by rw [hg]; exact (below_size hb_) : w.heap.size ≤ gb112)); have GE112 := ak_ ((by rw [hg]; exact (below_size hb_) : w.heap.size ≤ gb112)); replace HB := ak_ (below_step hb_ hb); skip; clear hb hbox hg) | ((with_reducible refine gate_dst (N := 1) rfl ?_); refine Kd.R_lit k91 _ 91 ?hg (N := 1) ?hd (xs := ([] : List (S91))) (inner := []) (ok := fun _ => True) (okp := fun _ => True) ?hr ?hp (fun _ hk => hk) trivial (Below.refl _ _) (Nat.le_refl _) (by simp) ?_; (case hd => rfl); (case hg => rfl); (case hr => first | (go_simp; done) | (go_simp; rfl)); (case hp => exact (Reps.none _ _)); intro v114 w2 ho3 hb hg_ hnew_; clear hg_ hnew_; (first | rw [← Ny113.out] at ho3 | (simp only [Int.reduceToNat] at ho3; rw [← Ny113.out] at ho3)); have HO115 := ak_ (Kd.R_lower ho3 (below_size (hg_ GE112))); replace BK112 := ak_ (blk_below (g := gb112) (o := .cells #[.slice none 0 0, .slice none 0 0, .slice none 0 0] 31 (0, 0)) (bk_ BK112) hb); replace HB := ak_ (below_step (hg_ GE112) hb); skip; clear hb ho3) | ((with_reducible refine gate_dst (N := 2) rfl ?_); refine Kd.R_lit Kd.string _ 9 ?hg (N := 2) ?hd (xs := ([] : List ByteArray)) (inner := []) (ok := fun _ => True) (okp := fun _ => True) ?hr ?hp (fun _ hk => hk) trivial (Below.refl _ _) (Nat.le_refl _) (by simp) ?_; (case hd => rfl); (case hg => rfl); (case hr => first | (go_simp; done) | (go_simp; rfl)); (case hp => exact (Reps.none _ _)); intro v117 w4 ho5 hb hg_ hnew_; clear hg_ hnew_; (first | rw [← Ny116.out] at ho5 | (simp only [Int.reduceToNat] at ho5; rw [← Ny116.out] at ho5)); replace HO115 := ak_ (Kd.R_below (kr_ HO115) hb); have HO118 := ak_ (Kd.R_lower ho5 (below_size (hg_ GE112))); replace BK112 := ak_ (blk_below (g := gb112) (o := .cells #[.slice none 0 0, .slice none 0 0, .slice none 0 0] 31 (0, 0)) (bk_ BK112) hb); replace HB := ak_ (below_step (hg_ GE112) hb); skip; clear hb ho5) | ((with_reducible refine gate_dst (N := 3) rfl ?_); refine Kd.R_lit k41 _ 41 ?hg (N := 3) ?hd (xs := ([] : List (S41))) (inner := []) (ok := fun _ => True) (okp := fun _ => True) ?hr ?hp (fun _ hk => hk) trivial (Below.refl _ _) (Nat.le_refl _) (by simp) ?_; (case hd => rfl); (case hg => rfl); (case hr => first | (go_simp; done) | (go_simp; rfl)); (case hp => exact (Reps.none _ _)); intro v120 w6 ho7 hb hg_ hnew_; clear hg_ hnew_; (first | rw [← Ny119.out] at ho7 | (simp only [Int.reduceToNat] at ho7; rw [← Ny119.out] at ho7)); replace HO115 := ak_ (Kd.R_below (kr_ HO115) hb); replace HO118 := ak_ (Kd.R_below (kr_ HO118) hb); have HO121 := ak_ (Kd.R_lower ho7 (below_size (hg_ GE112))); replace BK112 := ak_ (blk_below (g := gb112) (o := .cells #[.slice none 0 0, .slice none 0 0, .slice none 0 0] 31 (0, 0)) (bk_ BK112) hb); replace HB := ak_ (below_step (hg_ GE112) hb); skip; clear hb ho7; obtain ⟨Ao8, co8, eo8⟩ := Kd.R_slice HO121.out; subst eo8; obtain ⟨Ao9, co9, eo9⟩ := Kd.R_slice HO118.out; subst eo9; obtain ⟨Ao10, co10, eo10⟩ := Kd.R_slice HO115.out; subst eo10; have hcz11_0 : w6.cell? ⟨gb112, 0, none⟩ = some (.slice none 0 0) := (blk_cell BK112.out 0).trans rfl; have hcz11_1 : w6.cell? ⟨gb112, 1, none⟩ = some (.slice none 0 0) := (blk_cell BK112.out 1).trans rfl; have hcz11_2 : w6.cell? ⟨gb112, 2, none⟩ = some (.slice none 0 0) := (blk_cell BK112.out 2).trans rfl; have hfz11_0 := blk_frozen BK112.out 0; have hfz11_1 := blk_frozen BK112.out 1; have hfz11_2 := blk_frozen BK112.out 2))
 refine bodyPost_ret (results_cell_row rfl _ _ gb112 31 #[.slice Ao10 y113.length co10, .slice Ao9 y116.length co9, .slice Ao8 y119.length co8] (0, 0) _ rfl (by (with_reducible repeat (first | refine blk_drewN ?_ _ | refine blk_drew ?_ | refine blk_alloc ?_ _)); refine blk_put (cs := #[.slice Ao10 y113.length co10, .slice Ao9 y116.length co9, .slice none 0 0]) ?_ 2 _ rfl; (with_reducible repeat (first | refine blk_drewN ?_ _ | refine blk_drew ?_ | refine blk_alloc ?_ _)); refine blk_put (cs := #[.slice Ao10 y113.length co10, .slice none 0 0, .slice none 0 0]) ?_ 1 _ rfl; (with_reducible repeat (first | refine blk_drewN ?_ _ | refine blk_drew ?_ | refine blk_alloc ?_ _)); refine blk_put (cs := #[.slice none 0 0, .slice none 0 0, .slice none 0 0]) ?_ 0 _ rfl; (with_reducible repeat (first | refine blk_drewN ?_ _ | refine blk_drew ?_ | refine blk_alloc ?_ _)); exact BK112.out) Try.underlying31 rfl (by kernel_rfl)) rfl ?_
 exact ⟨_, _, _, ew_, by (with_reducible repeat (first | apply Kd.R_alloc | apply Kd.R_drewN | apply Kd.R_drew)); exact Kd.R_mono (Kd.R_far (p := ⟨gb112, 2, none⟩) (Kd.R_far (p := ⟨gb112, 1, none⟩) (Kd.R_far (p := ⟨gb112, 0, none⟩) (Kd.R_types HO115.out BK112.out (by decide)) (fun _ hk => hk.2) (.slice Ao10 y113.length co10)) (fun _ hk => hk.2) (.slice Ao9 y116.length co9)) (fun _ hk => hk.2) (.slice Ao8 y119.length co8)) (fun _ hk => trivial), by (with_reducible repeat (first | apply Kd.R_alloc | apply Kd.R_drewN | apply Kd.R_drew)); exact Kd.R_mono (Kd.R_far (p := ⟨gb112, 2, none⟩) (Kd.R_far (p := ⟨gb112, 1, none⟩) (Kd.R_far (p := ⟨gb112, 0, none⟩) (Kd.R_types HO118.out BK112.out (by decide)) (fun _ hk => hk.2) (.slice Ao10 y113.length co10)) (fun _ hk => hk.2) (.slice Ao9 y116.length co9)) (fun _ hk => hk.2) (.slice Ao8 y119.length co8)) (fun _ hk => trivial), by (with_reducible repeat (first | apply Kd.R_alloc | apply Kd.R_drewN | apply Kd.R_drew)); exact Kd.R_mono (Kd.R_far (p := ⟨gb112, 2, none⟩) (Kd.R_far (p := ⟨gb112, 1, none⟩) (Kd.R_far (p := ⟨gb112, 0, none⟩) (Kd.R_types HO121.out BK112.out (by decide)) (fun _ hk => hk.2) (.slice Ao10 y113.length co10)) (fun _ hk => hk.2) (.slice Ao9 y116.length co9)) (fun _ hk => hk.2) (.slice Ao8 y119.length co8)) (fun _ hk => trivial), (hg_ GE112)⟩

/-! ### spec_l19Rail: function 62 -/
def spec_l19Rail.l0 : Nat → ByteArray → Int → List (S91) → List ByteArray → List (S41) → Option (Int)
 | 0, _, _, _, _, _ => none
 | k + 1, x1, x5, x1000, x1001, x1002 => if x5 < (x1000.length : Int) then (if 0 ≤ x5 then (if ((rd_T91 x1000 x5).f0).toList = x1.toList then (some x5) else (spec_l19Rail.l0 k x1 (wrap64 (x5 + 1)) x1000 x1001 x1002)) else (none)) else (some (-1))
def spec_l19Rail.f (k : Nat) (s0_0 : List (S91)) (s0_1 : List ByteArray) (s0_2 : List (S41)) (a1 : ByteArray) : Option (Int) := spec_l19Rail.l0 k a1 0 s0_0 s0_1 s0_2
set_option maxHeartbeats 8000000 in
set_option maxRecDepth 100000 in
theorem spec_l19Rail.calls0 (k : Nat) (g o : Nat) (z : Option Nat) (s0_0 : List (S91)) (s0_1 : List ByteArray) (s0_2 : List (S41)) (a1 : ByteArray) (r : Int) (w0 w : World) (hI : IsE31 w0 w g o z s0_0 s0_1 s0_2) (hB : Below w0.heap.size w0 w) (h : spec_l19Rail.f k s0_0 s0_1 s0_2 a1 = some r) :
  Calls Try.prog 62 #[.pointer (some ⟨g, o, z⟩), .string a1] w fun e w' => e = .returned (.int .i64 r) ∧ IsE31 w0 w' g o z s0_0 s0_1 s0_2 ∧ Below w0.heap.size w0 w' ∧ KeepBut w w' w.heap.size none := by
 have HI0 := ak_ hI
 have HK := ak_ (KeepBut.refl w w.heap.size none)
 have HL := ak_ hB.size
 clear hI
 have HW0 := ak_ hB.size
 have HB := ak_ hB
 clear hB
 have H : (spec_l19Rail.l0 k a1 0 s0_0 s0_1 s0_2) = some r := h
 clear h
 have H' := ak_ H
 clear H
 go_enter Try.func62, Try.ntmps62
 go_wp2
 go_loopg [5] k (fun kq v5 w' => ∃ (x5_1 : Int), v5 = .int .i64 x5_1 ∧ Aside0 (spec_l19Rail.l0 kq a1 x5_1 s0_0 s0_1 s0_2 = some r) ∧ Aside0 (kq ≤ k) ∧ Aside0 (IsE31 w0 w' g o z s0_0 s0_1 s0_2) ∧ Aside0 (KeepBut w w' w.heap.size none) ∧ Aside0 (Below w0.heap.size w0 w'))
 case atStart => exact ⟨(0), fr_, H', ⟨Nat.le_refl _⟩, ⟨by repeat (first | (with_reducible first | exact HI0.out | apply IsE31.alloc | apply IsE31.drewN | apply IsE31.drew) | exact HI0.out)⟩, ⟨by repeat (first | (with_reducible first | exact HK.out | apply keep_drewN | apply keep_drew | apply keep_alloc) | exact HK.out)⟩, ⟨hb_⟩⟩
 case round =>
  clear H'
  try clear p2
  obtain ⟨x5_1, rfl, HA, HK1, HI0, HK, HB⟩ := hrel
  cases gk with
  | zero => exact absurd HA.out (by simp [spec_l19Rail.l0])
  | succ k1 =>
   have H := HA.out
   clear HA
   simp only [spec_l19Rail.l0] at H
   by_cases c3 : x5_1 < (s0_0.length : Int)
   ·rw [if_pos c3] at H
    have c3b0 : decide (x5_1 < (s0_0.length : Int)) = true := dt_ c3
    clear c3
    by_cases c4 : 0 ≤ x5_1
    ·rw [if_pos c4] at H
     have c4b0 : decide (0 ≤ x5_1) = true := dt_ c4
     clear c4
     by_cases c5 : ((rd_T91 s0_0 x5_1).f0).toList = a1.toList
     ·rw [if_pos c5] at H
      have c5b0 : (((rd_T91 s0_0 x5_1).f0).toList == a1.toList) = true := beq_iff_eq.mpr c5
      have c5b1 : (((rd_T91 s0_0 x5_1).f0).toList != a1.toList) = false := bne_eq_false_iff_eq.mpr c5
      clear c5
      obtain rfl := Option.some.inj H
      obtain ⟨ASz6_0, cSz6_0, ASz6_1, cSz6_1, ASz6_2, cSz6_2, HGz6, hgz6, HSz6_0, HSz6_1, HSz6_2⟩ := HI0.out
      have hcz6_0 := cellE31_0 HGz6
      have hcz6_1 := cellE31_1 HGz6
      have hcz6_2 := cellE31_2 HGz6
      clear HGz6 hgz6
      have p122 : 0 ≤ (x5_1 : Int) := od_
      have q122 : x5_1 < (s0_0.length : Int) := od_
      obtain ⟨ad122, e122, hx122_0, hx122_1, hx122_2⟩ := at_T91 HSz6_0 x5_1 p122 q122
      cases e122
      replace hx122_0 := pw_cell_below HB.out hx122_0
      replace hx122_1 := pw_cell_below HB.out hx122_1
      replace hx122_2 := pw_cell_below HB.out hx122_2
      replace p122 := eq_true p122
      replace q122 := eq_true q122
      go_wp2
      go_ret
      exact ⟨ew_, isE31_a HI0, hb_, by repeat (first | (with_reducible first | exact HK.out | apply keep_drewN | apply keep_drew | apply keep_alloc) | exact HK.out)⟩
     ·rw [if_neg c5] at H
      have c5b0 : (((rd_T91 s0_0 x5_1).f0).toList == a1.toList) = false := beq_eq_false_iff_ne.mpr c5
      have c5b1 : (((rd_T91 s0_0 x5_1).f0).toList != a1.toList) = true := bne_iff_ne.mpr c5
      have H' := ak_ H
      clear H
      obtain ⟨ASz7_0, cSz7_0, ASz7_1, cSz7_1, ASz7_2, cSz7_2, HGz7, hgz7, HSz7_0, HSz7_1, HSz7_2⟩ := HI0.out
      have hcz7_0 := cellE31_0 HGz7
      have hcz7_1 := cellE31_1 HGz7
      have hcz7_2 := cellE31_2 HGz7
      clear HGz7 hgz7
      have p122 : 0 ≤ (x5_1 : Int) := od_
      have q122 : x5_1 < (s0_0.length : Int) := od_
      obtain ⟨ad122, e122, hx122_0, hx122_1, hx122_2⟩ := at_T91 HSz7_0 x5_1 p122 q122
      cases e122
      replace hx122_0 := pw_cell_below HB.out hx122_0
      replace hx122_1 := pw_cell_below HB.out hx122_1
      replace hx122_2 := pw_cell_below HB.out hx122_2
      replace p122 := eq_true p122
      replace q122 := eq_true q122
      go_wp2
      go_roundg k1
      case measure => have := HK1.out; omega
      case rel => exact ⟨(wrap64 (x5_1 + 1)), fr_, H', ⟨by have := HK1.out; omega⟩, ⟨by repeat (first | (with_reducible first | exact HI0.out | apply IsE31.alloc | apply IsE31.drewN | apply IsE31.drew) | exact HI0.out)⟩, ⟨by repeat (first | (with_reducible first | exact HK.out | apply keep_drewN | apply keep_drew | apply keep_alloc) | exact HK.out)⟩, ⟨hb_⟩⟩
    ·rw [if_neg c4] at H
     exact absurd H (by simp)
   ·rw [if_neg c3] at H
    have c3b0 : decide (x5_1 < (s0_0.length : Int)) = false := decide_eq_false c3
    clear c3
    obtain rfl := Option.some.inj H
    obtain ⟨ASz8_0, cSz8_0, ASz8_1, cSz8_1, ASz8_2, cSz8_2, HGz8, hgz8, HSz8_0, HSz8_1, HSz8_2⟩ := HI0.out
    have hcz8_0 := cellE31_0 HGz8
    have hcz8_1 := cellE31_1 HGz8
    have hcz8_2 := cellE31_2 HGz8
    clear HGz8 hgz8
    go_wp2
    go_ret
    exact ⟨ew_, isE31_a HI0, hb_, by repeat (first | (with_reducible first | exact HK.out | apply keep_drewN | apply keep_drew | apply keep_alloc) | exact HK.out)⟩
theorem spec_l19Rail.callsE (k : Nat) (g : Addr) (s0_0 : List (S91)) (s0_1 : List ByteArray) (s0_2 : List (S41)) (AE0 : Option Addr) (cE0 : Nat) (AE1 : Option Addr) (cE1 : Nat) (AE2 : Option Addr) (cE2 : Nat) (a1 : ByteArray) (r : Int) (w : World) (he0 : w.cell? g = some (.slice AE0 s0_0.length cE0)) (he1 : w.cell? ⟨g.block, g.off + 1, none⟩ = some (.slice AE1 s0_1.length cE1)) (he2 : w.cell? ⟨g.block, g.off + 2, none⟩ = some (.slice AE2 s0_2.length cE2)) (hr0 : Kd.C k91 w AE0 s0_0.length s0_0) (hr1 : Kd.C Kd.string w AE1 s0_1.length s0_1) (hr2 : Kd.C k41 w AE2 s0_2.length s0_2) (h : spec_l19Rail.f k s0_0 s0_1 s0_2 a1 = some r) :
  Calls Try.prog 62 #[.pointer (some g), .string a1] w fun e w' => e = .returned (.int .i64 r) ∧ Below w.heap.size w w' := by
 refine (spec_l19Rail.calls0 k g.block g.off g.spot s0_0 s0_1 s0_2 a1 r w w ⟨AE0, cE0, AE1, cE1, AE2, cE2, ⟨he0, he1, he2⟩, trivial, hr0, hr1, hr2⟩ (Below.refl _ _) h).mono ?_
 rintro e w' ⟨rfl, _, hb, _⟩
 exact ⟨rfl, hb⟩


/-! ### spec_l00In: function 64 -/
def spec_l00In.f (a0 : Int) (a1 : Int) (a2 : Int) : Option (Bool) := if a0 ≥ a1 then (some (decide (a0 ≤ a2))) else (some false)
set_option maxHeartbeats 8000000 in
set_option maxRecDepth 100000 in
theorem spec_l00In.calls (a0 : Int) (a1 : Int) (a2 : Int) (r : Bool) (w : World) (h : spec_l00In.f a0 a1 a2 = some r) :
  Calls Try.prog 64 #[.int .i64 a0, .int .i64 a1, .int .i64 a2] w fun e w' => e = .returned (.bool r) ∧ Drawn0 w w' := by
 have H : (if a0 ≥ a1 then (some (decide (a0 ≤ a2))) else (some false)) = some r := h
 clear h
 by_cases c4 : a0 ≥ a1
 ·rw [if_pos c4] at H
  have c4b0 : decide (a1 ≤ a0) = true := dt_ c4
  clear c4
  obtain rfl := Option.some.inj H
  go_enter Try.func64, Try.ntmps64
  go_wp2
  go_ret
  exact ⟨by first | rfl | (simp; done) | (simp [*]; done), by repeat (first | exact Drawn0.refl _ | apply Drawn0.step)⟩
 ·rw [if_neg c4] at H
  have c4b0 : decide (a1 ≤ a0) = false := decide_eq_false c4
  clear c4
  obtain rfl := Option.some.inj H
  go_enter Try.func64, Try.ntmps64
  go_wp2
  go_ret
  exact ⟨by first | rfl | (simp; done) | (simp [*]; done), by repeat (first | exact Drawn0.refl _ | apply Drawn0.step)⟩

/-! ### spec_l01Small: function 98 -/
def spec_l01Small.f (a0 : Int) : Option (Bool) := if a0 ≥ 97 then (some (decide (a0 ≤ 122))) else (some false)
set_option maxHeartbeats 8000000 in
set_option maxRecDepth 100000 in
theorem spec_l01Small.calls (a0 : Int) (r : Bool) (w : World) (h : spec_l01Small.f a0 = some r) :
  Calls Try.prog 98 #[.int .u8 a0] w fun e w' => e = .returned (.bool r) ∧ Drawn0 w w' := by
 have H : (if a0 ≥ 97 then (some (decide (a0 ≤ 122))) else (some false)) = some r := h
 clear h
 by_cases c2 : a0 ≥ 97
 ·rw [if_pos c2] at H
  have c2b0 : decide (97 ≤ a0) = true := dt_ c2
  clear c2
  obtain rfl := Option.some.inj H
  go_enter Try.func98, Try.ntmps98
  go_wp2
  go_ret
  exact ⟨by first | rfl | (simp; done) | (simp [*]; done), by repeat (first | exact Drawn0.refl _ | apply Drawn0.step)⟩
 ·rw [if_neg c2] at H
  have c2b0 : decide (97 ≤ a0) = false := decide_eq_false c2
  clear c2
  obtain rfl := Option.some.inj H
  go_enter Try.func98, Try.ntmps98
  go_wp2
  go_ret
  exact ⟨by first | rfl | (simp; done) | (simp [*]; done), by repeat (first | exact Drawn0.refl _ | apply Drawn0.step)⟩

/-! ### spec_l01Digit: function 99 -/
def spec_l01Digit.f (a0 : Int) : Option (Bool) := if a0 ≥ 48 then (some (decide (a0 ≤ 57))) else (some false)
set_option maxHeartbeats 8000000 in
set_option maxRecDepth 100000 in
theorem spec_l01Digit.calls (a0 : Int) (r : Bool) (w : World) (h : spec_l01Digit.f a0 = some r) :
  Calls Try.prog 99 #[.int .u8 a0] w fun e w' => e = .returned (.bool r) ∧ Drawn0 w w' := by
 have H : (if a0 ≥ 48 then (some (decide (a0 ≤ 57))) else (some false)) = some r := h
 clear h
 by_cases c2 : a0 ≥ 48
 ·rw [if_pos c2] at H
  have c2b0 : decide (48 ≤ a0) = true := dt_ c2
  clear c2
  obtain rfl := Option.some.inj H
  go_enter Try.func99, Try.ntmps99
  go_wp2
  go_ret
  exact ⟨by first | rfl | (simp; done) | (simp [*]; done), by repeat (first | exact Drawn0.refl _ | apply Drawn0.step)⟩
 ·rw [if_neg c2] at H
  have c2b0 : decide (48 ≤ a0) = false := decide_eq_false c2
  clear c2
  obtain rfl := Option.some.inj H
  go_enter Try.func99, Try.ntmps99
  go_wp2
  go_ret
  exact ⟨by first | rfl | (simp; done) | (simp [*]; done), by repeat (first | exact Drawn0.refl _ | apply Drawn0.step)⟩

/-! ### spec_IsName: function 97 -/
mutual
def spec_IsName.j0 : Nat → ByteArray → Bool → Option (Bool)
 | 0, _, _ => none
 | k + 1, x0, x16 => if x16 = true then (some false) else (spec_IsName.l0 k x0 0)
def spec_IsName.l0 : Nat → ByteArray → Int → Option (Bool)
 | 0, _, _ => none
 | k + 1, x0, x3 => if x3 < (x0.size : Int) then (if 0 ≤ x3 then ((spec_l01Small.f (bt x0 x3)).bind fun t124 => (if t124 = true then (spec_IsName.l0 k x0 (wrap64 (x3 + 1))) else ((spec_l01Digit.f (bt x0 x3)).bind fun t125 => (if t125 = true then (spec_IsName.l0 k x0 (wrap64 (x3 + 1))) else (if (bt x0 x3) = 45 then (spec_IsName.l0 k x0 (wrap64 (x3 + 1))) else (some false)))))) else (none)) else (some true)
end
def spec_IsName.f (k : Nat) (a0 : ByteArray) : Option (Bool) := if a0.toList = ([] : List UInt8) then (spec_IsName.j0 k a0 true) else (if (a0.size : Int) > 12 then (spec_IsName.j0 k a0 true) else (if 0 < (a0.size : Int) then ((spec_l01Small.f (bt a0 0)).bind fun t123 => (spec_IsName.j0 k a0 (!t123))) else (none)))
set_option maxHeartbeats 8000000 in
set_option maxRecDepth 100000 in
theorem spec_IsName.calls (k : Nat) (a0 : ByteArray) (r : Bool) (w : World) (h : spec_IsName.f k a0 = some r) :
  Calls Try.prog 97 #[.string a0] w fun e w' => e = .returned (.bool r) ∧ Drawn0 w w' := by
 have H : (if a0.toList = ([] : List UInt8) then (spec_IsName.j0 k a0 true) else (if (a0.size : Int) > 12 then (spec_IsName.j0 k a0 true) else (if 0 < (a0.size : Int) then ((spec_l01Small.f (bt a0 0)).bind fun t123 => (spec_IsName.j0 k a0 (!t123))) else (none)))) = some r := h
 clear h
 have HC2 := ak_ H
 clear H
 go_enter Try.func97, Try.ntmps97
 go_upto_region 1 with (fail)
 go_cut [16] (fun v16 wc => ∃ (kq : Nat) (x16_1 : Bool), v16 = .bool x16_1 ∧ Aside0 (spec_IsName.j0 kq a0 x16_1 = some r) ∧ Aside0 (kq ≤ k) ∧ Drawn0 w wc)
 case first =>
  have H := HC2.out
  clear HC2
  by_cases c3 : a0.toList = ([] : List UInt8)
  ·rw [if_pos c3] at H
   have c3b0 : (a0.toList == ([] : List UInt8)) = true := beq_iff_eq.mpr c3
   have c3b1 : (a0.toList != ([] : List UInt8)) = false := bne_eq_false_iff_eq.mpr c3
   clear c3
   (first | rw [c3b0] | (simp only [i64_w, i32_w]; rw [c3b0]) | skip)
   have H' := ak_ H
   clear H
   go_wp2
   go_meet
   case rel => exact ⟨_, (true), fr_, H', ⟨by first | omega | exact Nat.le_refl _⟩, by repeat (first | exact Drawn0.refl _ | apply Drawn0.step)⟩
  ·rw [if_neg c3] at H
   have c3b0 : (a0.toList == ([] : List UInt8)) = false := beq_eq_false_iff_ne.mpr c3
   have c3b1 : (a0.toList != ([] : List UInt8)) = true := bne_iff_ne.mpr c3
   (first | rw [c3b0] | (simp only [i64_w, i32_w]; rw [c3b0]) | skip)
   by_cases c4 : (a0.size : Int) > 12
   ·rw [if_pos c4] at H
    have c4b0 : decide (12 < (a0.size : Int)) = true := dt_ c4
    have c4b1 : decide (12 < a0.size) = true := dt_ (by omega)
    clear c4
    have H' := ak_ H
    clear H
    go_wp2
    go_meet
    case rel => exact ⟨_, (true), fr_, H', ⟨by first | omega | exact Nat.le_refl _⟩, by repeat (first | exact Drawn0.refl _ | apply Drawn0.step)⟩
   ·rw [if_neg c4] at H
    have c4b0 : decide (12 < (a0.size : Int)) = false := decide_eq_false c4
    have c4b1 : decide (12 < a0.size) = false := decide_eq_false (by omega)
    clear c4
    by_cases c5 : 0 < (a0.size : Int)
    ·rw [if_pos c5] at H
     have c5b0 : decide (0 < (a0.size : Int)) = true := dt_ c5
     have c5b1 : decide (0 < a0.size) = true := dt_ (by omega)
     clear c5
     replace H := ob_ H
     obtain ⟨t123, A70, H⟩ := H
     (try dsimp only at H)
     have A7 := ak_ A70
     clear A70
     have H' := ak_ H
     clear H
     have p6 : 0 ≤ (0 : Int) := (by omega)
     have q6 : 0 < a0.size := (by have : (0 : Int) < (a0.size : Int) := od_; omega)
     have hx6 : ∀ h : 0 < a0.size, ((a0[0]'h).toNat : Int) = bt a0 0 := bt_at a0 0
     clear p6
     have qi6 : (0 < (a0.size : Int)) = True := eq_true (od_)
     replace q6 := eq_true q6
     go_wp2_with (first | (go_at_call 98; (with_reducible refine (spec_l01Small.calls (bt a0 0) t123 _ A7.out).mono ?_); rintro e w' ⟨rfl, ⟨nd, rfl⟩⟩))
     go_meet
     case rel => exact ⟨_, (!t123), fr_, H', ⟨by first | omega | exact Nat.le_refl _⟩, by repeat (first | exact Drawn0.refl _ | apply Drawn0.step)⟩
    ·rw [if_neg c5] at H
     exact absurd H (by simp)
 case rest =>
  clear HC2
  try clear p2
  try clear c3
  try clear c3b0
  try clear c3b1
  try clear c4
  try clear c4b0
  try clear c4b1
  try clear c5
  try clear c5b0
  try clear c5b1
  try clear p6
  try clear q6
  try clear hx6
  try clear qi6
  try clear p6
  try clear q6
  obtain ⟨kq, x16_1, rfl, HA, HJ1, ⟨mc1, rfl⟩⟩ := hcut
  cases kq with
  | zero => exact absurd HA.out (by simp [spec_IsName.j0])
  | succ kj1 =>
   have H := HA.out
   clear HA
   simp only [spec_IsName.j0] at H
   by_cases c8 : x16_1 = true
   ·subst c8
    have H1 : (some false) = some r := by rw [if_pos rfl] at H; exact H
    clear H
    have H := H1
    clear H1
    obtain rfl := Option.some.inj H
    go_wp2
    go_ret
    exact ⟨by first | rfl | (simp; done) | (simp [*]; done), by repeat (first | exact Drawn0.refl _ | apply Drawn0.step)⟩
   ·replace c8 := Bool.eq_false_iff.mpr c8
    subst c8
    have H1 : (spec_IsName.l0 kj1 a0 0) = some r := by rw [if_neg (show ¬ (false = true) by decide)] at H; exact H
    clear H
    have H := H1
    clear H1
    have H' := ak_ H
    clear H
    go_wp2
    go_loopg [3] kj1 (fun kq v3 w' => ∃ (x3_2 : Int), v3 = .int .i64 x3_2 ∧ Aside0 (spec_IsName.l0 kq a0 x3_2 = some r) ∧ Aside0 (kq ≤ kj1) ∧ Drawn0 w w')
    case atStart => exact ⟨(0), fr_, H', ⟨Nat.le_refl _⟩, by repeat (first | exact Drawn0.refl _ | apply Drawn0.step)⟩
    case round =>
     clear H'
     try clear c1
     try clear p2
     try clear c3
     try clear c3b0
     try clear c3b1
     try clear c4
     try clear c4b0
     try clear c4b1
     try clear c5
     try clear c5b0
     try clear c5b1
     try clear p6
     try clear q6
     try clear hx6
     try clear qi6
     try clear c8
     try clear p2
     try clear p6
     try clear q6
     obtain ⟨x3_2, rfl, HA, HK2, ⟨m2, rfl⟩⟩ := hrel
     cases gk with
     | zero => exact absurd HA.out (by simp [spec_IsName.l0])
     | succ k2 =>
      have H := HA.out
      clear HA
      simp only [spec_IsName.l0] at H
      by_cases c9 : x3_2 < (a0.size : Int)
      ·rw [if_pos c9] at H
       have c9b0 : decide (x3_2 < (a0.size : Int)) = true := dt_ c9
       clear c9
       by_cases c10 : 0 ≤ x3_2
       ·rw [if_pos c10] at H
        have c10b0 : decide (0 ≤ x3_2) = true := dt_ c10
        clear c10
        replace H := ob_ H
        obtain ⟨t124, A120, H⟩ := H
        (try dsimp only at H)
        have A12 := ak_ A120
        clear A120
        by_cases c13 : t124 = true
        ·subst c13
         have H1 : (spec_IsName.l0 k2 a0 (wrap64 (x3_2 + 1))) = some r := by rw [if_pos rfl] at H; exact H
         clear H
         have H := H1
         clear H1
         have H' := ak_ H
         clear H
         have p11 : 0 ≤ (x3_2 : Int) := od_
         have q11 : x3_2 < (a0.size : Int) := od_
         have hx11 := bt_at a0 x3_2
         replace p11 := eq_true p11
         replace q11 := eq_true q11
         go_wp2_with (first | ((with_reducible refine gate_callee (f := 98) rfl ?_); refine goesL_ (some 26) rfl rfl Try.func98 (by kernel_rfl) rfl #[.int .u8 (bt a0 x3_2)] rfl ln_ ?_; (with_reducible refine (spec_l01Small.calls (bt a0 x3_2) true _ A12.out).mono ?_); rintro e w' ⟨rfl, ⟨nd, rfl⟩⟩; refine ⟨_, rfl, ?_⟩))
         go_roundg k2
         case measure => have := HJ1.out; have := HK2.out; omega
         case rel => exact ⟨(wrap64 (x3_2 + 1)), fr_, H', ⟨by have := HJ1.out; have := HK2.out; omega⟩, by repeat (first | exact Drawn0.refl _ | apply Drawn0.step)⟩
        ·replace c13 := Bool.eq_false_iff.mpr c13
         subst c13
         have H1 : ((spec_l01Digit.f (bt a0 x3_2)).bind fun t125 => (if t125 = true then (spec_IsName.l0 k2 a0 (wrap64 (x3_2 + 1))) else (if (bt a0 x3_2) = 45 then (spec_IsName.l0 k2 a0 (wrap64 (x3_2 + 1))) else (some false)))) = some r := by rw [if_neg (show ¬ (false = true) by decide)] at H; exact H
         clear H
         have H := H1
         clear H1
         replace H := ob_ H
         obtain ⟨t125, A150, H⟩ := H
         (try dsimp only at H)
         have A15 := ak_ A150
         clear A150
         by_cases c16 : t125 = true
         ·subst c16
          have H1 : (spec_IsName.l0 k2 a0 (wrap64 (x3_2 + 1))) = some r := by rw [if_pos rfl] at H; exact H
          clear H
          have H := H1
          clear H1
          have H' := ak_ H
          clear H
          have p11 : 0 ≤ (x3_2 : Int) := od_
          have q11 : x3_2 < (a0.size : Int) := od_
          have hx11 := bt_at a0 x3_2
          replace p11 := eq_true p11
          replace q11 := eq_true q11
          go_wp2_with (first | ((with_reducible refine gate_callee (f := 98) rfl ?_); refine goesL_ (some 26) rfl rfl Try.func98 (by kernel_rfl) rfl #[.int .u8 (bt a0 x3_2)] rfl ln_ ?_; (with_reducible refine (spec_l01Small.calls (bt a0 x3_2) false _ A12.out).mono ?_); rintro e w' ⟨rfl, ⟨nd, rfl⟩⟩; refine ⟨_, rfl, ?_⟩; have p14 : 0 ≤ (x3_2 : Int) := od_; have q14 : x3_2 < (a0.size : Int) := od_; have hx14 := bt_at a0 x3_2; replace p14 := eq_true p14; replace q14 := eq_true q14) | (go_at_call 99; (with_reducible refine (spec_l01Digit.calls (bt a0 x3_2) true _ A15.out).mono ?_); rintro e w' ⟨rfl, ⟨nd, rfl⟩⟩))
          go_roundg k2
          case measure => have := HJ1.out; have := HK2.out; omega
          case rel => exact ⟨(wrap64 (x3_2 + 1)), fr_, H', ⟨by have := HJ1.out; have := HK2.out; omega⟩, by repeat (first | exact Drawn0.refl _ | apply Drawn0.step)⟩
         ·replace c16 := Bool.eq_false_iff.mpr c16
          subst c16
          have H1 : (if (bt a0 x3_2) = 45 then (spec_IsName.l0 k2 a0 (wrap64 (x3_2 + 1))) else (some false)) = some r := by rw [if_neg (show ¬ (false = true) by decide)] at H; exact H
          clear H
          have H := H1
          clear H1
          by_cases c18 : (bt a0 x3_2) = 45
          ·rw [if_pos c18] at H
           have c18b0 : ((bt a0 x3_2) == 45) = true := beq_iff_eq.mpr c18
           have c18b1 : ((bt a0 x3_2) != 45) = false := bne_eq_false_iff_eq.mpr c18
           clear c18
           have H' := ak_ H
           clear H
           have p11 : 0 ≤ (x3_2 : Int) := od_
           have q11 : x3_2 < (a0.size : Int) := od_
           have hx11 := bt_at a0 x3_2
           replace p11 := eq_true p11
           replace q11 := eq_true q11
           go_wp2_with (first | ((with_reducible refine gate_callee (f := 98) rfl ?_); refine goesL_ (some 26) rfl rfl Try.func98 (by kernel_rfl) rfl #[.int .u8 (bt a0 x3_2)] rfl ln_ ?_; (with_reducible refine (spec_l01Small.calls (bt a0 x3_2) false _ A12.out).mono ?_); rintro e w' ⟨rfl, ⟨nd, rfl⟩⟩; refine ⟨_, rfl, ?_⟩; have p14 : 0 ≤ (x3_2 : Int) := od_; have q14 : x3_2 < (a0.size : Int) := od_; have hx14 := bt_at a0 x3_2; replace p14 := eq_true p14; replace q14 := eq_true q14) | (go_at_call 99; (with_reducible refine (spec_l01Digit.calls (bt a0 x3_2) false _ A15.out).mono ?_); rintro e w' ⟨rfl, ⟨nd, rfl⟩⟩; have p17 : 0 ≤ (x3_2 : Int) := od_; have q17 : x3_2 < (a0.size : Int) := od_; have hx17 := bt_at a0 x3_2; replace p17 := eq_true p17; replace q17 := eq_true q17))
           go_roundg k2
           case measure => have := HJ1.out; have := HK2.out; omega
           case rel => exact ⟨(wrap64 (x3_2 + 1)), fr_, H', ⟨by have := HJ1.out; have := HK2.out; omega⟩, by repeat (first | exact Drawn0.refl _ | apply Drawn0.step)⟩
          ·rw [if_neg c18] at H
           have c18b0 : ((bt a0 x3_2) == 45) = false := beq_eq_false_iff_ne.mpr c18
           have c18b1 : ((bt a0 x3_2) != 45) = true := bne_iff_ne.mpr c18
           obtain rfl := Option.some.inj H
           have p11 : 0 ≤ (x3_2 : Int) := od_
           have q11 : x3_2 < (a0.size : Int) := od_
           have hx11 := bt_at a0 x3_2
           replace p11 := eq_true p11
           replace q11 := eq_true q11
           go_wp2_with (first | ((with_reducible refine gate_callee (f := 98) rfl ?_); refine goesL_ (some 26) rfl rfl Try.func98 (by kernel_rfl) rfl #[.int .u8 (bt a0 x3_2)] rfl ln_ ?_; (with_reducible refine (spec_l01Small.calls (bt a0 x3_2) false _ A12.out).mono ?_); rintro e w' ⟨rfl, ⟨nd, rfl⟩⟩; refine ⟨_, rfl, ?_⟩; have p14 : 0 ≤ (x3_2 : Int) := od_; have q14 : x3_2 < (a0.size : Int) := od_; have hx14 := bt_at a0 x3_2; replace p14 := eq_true p14; replace q14 := eq_true q14) | (go_at_call 99; (with_reducible refine (spec_l01Digit.calls (bt a0 x3_2) false _ A15.out).mono ?_); rintro e w' ⟨rfl, ⟨nd, rfl⟩⟩; have p17 : 0 ≤ (x3_2 : Int) := od_; have q17 : x3_2 < (a0.size : Int) := od_; have hx17 := bt_at a0 x3_2; replace p17 := eq_true p17; replace q17 := eq_true q17))
           go_ret
           exact ⟨by first | rfl | (simp; done) | (simp [*]; done), by repeat (first | exact Drawn0.refl _ | apply Drawn0.step)⟩
       ·rw [if_neg c10] at H
        exact absurd H (by simp)
      ·rw [if_neg c9] at H
       have c9b0 : decide (x3_2 < (a0.size : Int)) = false := decide_eq_false c9
       clear c9
       obtain rfl := Option.some.inj H
       go_wp2
       go_ret
       exact ⟨by first | rfl | (simp; done) | (simp [*]; done), by repeat (first | exact Drawn0.refl _ | apply Drawn0.step)⟩

/-! ### spec_l19AddRail: function 88 -/
open Go.Proofs.YtcenjcgfdghfnaaW.Hand
def spec_l19AddRail.f (k : Nat) (f0 : List S91) (f1 : List ByteArray) (f2 : List S41) (a0 a1 : ByteArray) (a2 : Int) : Option (List S91 × Int) :=
 (spec_IsName.f k a0).bind fun t => if t = true then (if sideB a1 = true then ((spec_l00In.f a2 1 30).bind fun u => if u = true then ((spec_l19Rail.f k f0 f1 f2 a0).bind fun i => if i ≥ 0 then some (f0, 5) else if (f0.length : Int) ≥ 10 then some (f0, 8) else if f0.length < 1000 then some (f0 ++ [⟨a0, a1, a2⟩], 0) else none) else some (f0, 4)) else some (f0, 1)) else some (f0, 3)
def spec_l19AddRail.T11 : Bool × List (List Nat × List Nat) := (true, [([], []), ([], []), ([1], [1]), ([2], [2]), ([3], [3]), ([], []), ([5], [5]), ([4, 6], [4, 6]), ([0, 0, 1, 2, 3, 4, 5, 6, 7], [0]), ([8, 0, 1, 2, 3, 4, 5, 6, 7], [8]), ([9, 7, 7, 0, 1, 2, 3, 4, 5, 6, 7], [7, 9])])
def spec_l19AddRail.B11 : List Nat := [0, 0, 2, 6, 14, 0, 32, 126, 255, 511, 1023]
theorem spec_l19AddRail.tab11 : rtab .any (opsOf Try.f88 11) = spec_l19AddRail.T11 := by kernel_rfl
theorem spec_l19AddRail.bits11 : waitsOk spec_l19AddRail.T11.2 spec_l19AddRail.B11 = true := by kernel_rfl
set_option maxRecDepth 100000 in
set_option maxHeartbeats 8000000 in
theorem spec_l19AddRail.calls (k base : Nat) (g : Nat) (f0 : List S91) (f1 : List ByteArray) (f2 : List S41) (a0 a1 : ByteArray) (a2 : Int) (q : List S91) (r : Int) (w : World) (hI : RigOwn base w g f0 f1 f2) (h : spec_l19AddRail.f k f0 f1 f2 a0 a1 a2 = some (q, r)) :
  Calls Try.prog 88 #[.pointer (some ⟨g, 0, none⟩), .agg #[.string a0, .string a1, .int .i64 a2]] w fun e w' => e = .returned (.int .i64 r) ∧ RigOwn base w' g q f1 f2 ∧ Below base w w' := by
 obtain ⟨A0, c0, A1, c1, A2, c2, hI⟩ := hI
 have HI := ak_ hI
 have hB0 := hI.lt
 have hu := Try.underlying91
 clear hI
 unfold spec_l19AddRail.f at h
 obtain ⟨t, ht, h⟩ := ob_ h
 have HT := ak_ ht
 clear ht
 cases t with
 | false =>
  simp only [Bool.false_eq_true, if_false, Option.some.injEq, Prod.mk.injEq] at h
  obtain ⟨rfl, rfl⟩ := h
  go_enter Try.func88, Try.ntmps88
  go_wp2_with (first | ((with_reducible refine gate_dst (N := 3) rfl ?_); refine hand_box (fun g_ W_ => RailSt base w W_ g g_ A0 c0 A1 c1 A2 c2 f0 f1 f2 #[.string a0, .string a1, .int .i64 a2] 91) ?hg (N := 3) ?hd (cs := #[.string a0, .string a1, .int .i64 a2]) (t := 91) ?hr ?hF ?_; (case hd => rfl); (case hg => rfl); (case hr => first | (go_simp; done) | (go_simp; rfl)); (case hF => exact ⟨HI.out.step (below_alloc (Below.refl _ _) _), heap_alloc_new _ _, (Below.refl base w).alloc hB0 _⟩); intro bl w1 hh; obtain ⟨z0, z1, z2⟩ := hh.s0; have HS1 := ak_ hh; clear hh) | (go_at_call 97; refine (spec_IsName.calls k a0 false w1 HT.out).mono ?_; rintro e w2 ⟨rfl, hb2⟩; have HS2 := ak_ (HS1.out.step hb2.below); clear hb2 z0 z1 z2; obtain ⟨z0, z1, z2⟩ := HS2.out.s0))
  go_ret
  exact ⟨rfl, HS2.out.rig.own, HS2.out.below⟩
 | true =>
  simp only [if_true] at h
  by_cases hs : sideB a1 = true
  rotate_left
  ·rw [if_neg hs] at h
   simp only [Option.some.injEq, Prod.mk.injEq] at h
   obtain ⟨rfl, rfl⟩ := h
   obtain ⟨k1, k2, k3⟩ := sideB_no hs
   have n1 := ne_of_beq k1
   have n2 := ne_of_beq k2
   have n3 := ne_of_beq k3
   go_enter Try.func88, Try.ntmps88
   go_wp2_with (first | ((with_reducible refine gate_dst (N := 3) rfl ?_); refine hand_box (fun g_ W_ => RailSt base w W_ g g_ A0 c0 A1 c1 A2 c2 f0 f1 f2 #[.string a0, .string a1, .int .i64 a2] 91) ?hg (N := 3) ?hd (cs := #[.string a0, .string a1, .int .i64 a2]) (t := 91) ?hr ?hF ?_; (case hd => rfl); (case hg => rfl); (case hr => first | (go_simp; done) | (go_simp; rfl)); (case hF => exact ⟨HI.out.step (below_alloc (Below.refl _ _) _), heap_alloc_new _ _, (Below.refl base w).alloc hB0 _⟩); intro bl w1 hh; obtain ⟨z0, z1, z2⟩ := hh.s0; have HS1 := ak_ hh; clear hh) | (go_at_call 97; refine (spec_IsName.calls k a0 true w1 HT.out).mono ?_; rintro e w2 ⟨rfl, hb2⟩; have HS2 := ak_ (HS1.out.step hb2.below); clear hb2 z0 z1 z2; obtain ⟨z0, z1, z2⟩ := HS2.out.s0))
   go_ret
   exact ⟨rfl, HS2.out.rig.own, HS2.out.below⟩
  ·rw [if_pos hs] at h
   obtain ⟨u, hu2, h⟩ := ob_ h
   have HU := ak_ hu2
   clear hu2
   rcases sideB_yes hs with k1 | ⟨k1, k2⟩ | ⟨k1, k2, k3⟩ <;> (
    have n1 := ne_of_beq k1
    (try have n2 := ne_of_beq k2)
    (try have n3 := ne_of_beq k3)
    go_enter Try.func88, Try.ntmps88
    go_upto_if 24 with (first | ((with_reducible refine gate_dst (N := 3) rfl ?_); refine hand_box (fun g_ W_ => RailSt base w W_ g g_ A0 c0 A1 c1 A2 c2 f0 f1 f2 #[.string a0, .string a1, .int .i64 a2] 91) ?hg (N := 3) ?hd (cs := #[.string a0, .string a1, .int .i64 a2]) (t := 91) ?hr ?hF ?_; (case hd => rfl); (case hg => rfl); (case hr => first | (go_simp; done) | (go_simp; rfl)); (case hF => exact ⟨HI.out.step (below_alloc (Below.refl _ _) _), heap_alloc_new _ _, (Below.refl base w).alloc hB0 _⟩); intro bl w1 hh; obtain ⟨z0, z1, z2⟩ := hh.s0; have HS1 := ak_ hh; clear hh) | (go_at_call 97; refine (spec_IsName.calls k a0 true w1 HT.out).mono ?_; rintro e w2 ⟨rfl, hb2⟩; have HS2 := ak_ (HS1.out.step hb2.below); clear hb2 z0 z1 z2; obtain ⟨z0, z1, z2⟩ := HS2.out.s0) | (go_at_call 64; refine (spec_l00In.calls a2 1 30 u w2 HU.out).mono ?_; rintro e w3 ⟨rfl, hb3⟩; have HS3 := ak_ (HS2.out.step hb3.below); clear hb3 z0 z1 z2; obtain ⟨z0, z1, z2⟩ := HS3.out.s0))
    clear n1 k1
    (try clear n2 k2)
    (try clear n3 k3)
    cases u with
    | false =>
     simp only [Bool.false_eq_true, if_false, Option.some.injEq, Prod.mk.injEq] at h
     obtain ⟨rfl, rfl⟩ := h
     go_wp2_with fail
     go_ret
     exact ⟨rfl, HS3.out.rig.own, HS3.out.below⟩
    | true =>
     simp only [if_true] at h
     obtain ⟨i, hi, h⟩ := ob_ h
     have HX := ak_ hi
     clear hi
     go_upto_if 29 with (go_at_call 62; refine (spec_l19Rail.callsE k ⟨g, 0, none⟩ f0 f1 f2 A0 c0 A1 c1 A2 c2 a0 i w3 HS3.out.rig.c0 HS3.out.rig.c1 HS3.out.rig.c2 (Kd.R_reads' HS3.out.rig.r0).2.2 (Kd.R_reads' HS3.out.rig.r1).2.2 (Kd.R_reads' HS3.out.rig.r2).2.2 HX.out).mono ?_; rintro e w4 ⟨rfl, hb4⟩; have HS4 := ak_ (HS3.out.step hb4); clear hb4 z0 z1 z2; obtain ⟨z0, z1, z2⟩ := HS4.out.s0)
     clear hs
     by_cases hi0 : i ≥ 0
     ·rw [if_pos hi0] at h
      simp only [Option.some.injEq, Prod.mk.injEq] at h
      obtain ⟨rfl, rfl⟩ := h
      have hid : decide ((0 : Int) ≤ i) = true := dt_ hi0
      go_wp2_with fail
      go_ret
      exact ⟨rfl, HS4.out.rig.own, HS4.out.below⟩
     ·rw [if_neg hi0] at h
      have hid : decide ((0 : Int) ≤ i) = false := decide_eq_false hi0
      have x0 := HS4.out.rig.c0
      by_cases hf : (f0.length : Int) ≥ 10
      ·rw [if_pos hf] at h
       simp only [Option.some.injEq, Prod.mk.injEq] at h
       obtain ⟨rfl, rfl⟩ := h
       have hfe : decide ((10 : Int) ≤ (f0.length : Int)) = true := dt_ hf
       go_wp2_with fail
       go_ret
       exact ⟨rfl, HS4.out.rig.own, HS4.out.below⟩
      ·rw [if_neg hf] at h
       have hfe : decide ((10 : Int) ≤ (f0.length : Int)) = false := decide_eq_false hf
       by_cases hl : f0.length < 1000
       ·rw [if_pos hl] at h
        simp only [Option.some.injEq, Prod.mk.injEq] at h
        obtain ⟨rfl, rfl⟩ := h
        have HLM := ak_ hl
        clear hf hl
        have y0 : w4.drew.cell? ⟨g, 0, none⟩ = some (.slice A0 f0.length c0) := HS4.out.rig.c0
        have z0 : w4.drew.cell? ⟨bl, 0, none⟩ = some (.string a0) := HS4.out.s0.1
        have z1 : w4.drew.cell? ⟨bl, 1, none⟩ = some (.string a1) := HS4.out.s0.2.1
        have z2 : w4.drew.cell? ⟨bl, 2, none⟩ = some (.int .i64 a2) := HS4.out.s0.2.2
        go_upto_region 11 with fail
        refine start_ (n := 11) (S := fun w' => w'.cell? ⟨g, 0, none⟩ = some (.slice A0 f0.length c0) ∧ w'.cell? ⟨bl, 0, none⟩ = some (.string a0) ∧ w'.cell? ⟨bl, 1, none⟩ = some (.string a1) ∧ w'.cell? ⟨bl, 2, none⟩ = some (.int .i64 a2)) (ds := [7, 10]) #[F_,F_,F_,F_,F_,F_,F_,F_,F_,F_,F_] (by kernel_rfl) rfl rfl ⟨y0, z0, z1, z2⟩ (fun hHeld => ?_); refine with_tabW spec_l19AddRail.tab11 spec_l19AddRail.bits11 (fun HT_ HW_ => ?_)
        generalize hW5 : w4.drew = W5 at hHeld y0 z0 z1 z2 ⊢
        have HS5 : Aside0 (RailSt base w W5 g bl A0 c0 A1 c1 A2 c2 f0 f1 f2 #[.string a0, .string a1, .int .i64 a2] 91) := ⟨by rw [← hW5]; exact HS4.out.step (below_drew (Below.refl _ _))⟩
        clear hW5
        refine pv (i := 0) (N := some 42) HT_ ?_
        refine pv (i := 1) (N := some 43) HT_ ?_
        refine pv (i := 2) (N := some 44) HT_ ?_
        refine pv (i := 3) (N := some 45) HT_ ?_
        refine take_ (i := 4) (N := some 46) (v := ?_) (a' := ?_) #[T_,T_,T_,T_,T_,F_,F_,F_,F_,F_,F_] rfl rfl (take_ofW HT_.out HW_.out (by kernel_rfl)) (fun _ _ _ h => h) (Or.inl ⟨by rfl, ?_⟩) hHeld ?_ ?_
        rotate_left
        ·rintro w' ⟨s0, s1, s2, s3⟩
         go_simp
         with_reducible rfl
        rotate_left
        ·simp only [Act.put, sT_, s0_, sS_, i64_w, i32_w]
         rfl
        refine take_ (i := 5) (N := some 47) (v := ?_) (a' := ?_) #[T_,T_,T_,T_,T_,T_,F_,F_,F_,F_,F_] rfl rfl (take_ofW HT_.out HW_.out (by kernel_rfl)) (fun _ _ _ h => h) (Or.inl ⟨by rfl, ?_⟩) hHeld ?_ ?_
        rotate_left
        ·rintro w' ⟨s0, s1, s2, s3⟩
         go_simp
         with_reducible rfl
        rotate_left
        ·simp only [Act.put, sT_, s0_, sS_, i64_w, i32_w]
         rfl
        refine one_ (i := 6) (N := (some 48)) #[T_,T_,T_,T_,T_,T_,T_,F_,F_,F_,F_] rfl rfl (one_of HT_.out (by kernel_rfl)) (by decide) (fun K hK => ?_)
        refine event_step (v := .slice (some ⟨W5.heap.size, 0, none⟩) 1 1) (w1 := W5.alloc (.cells #[.string a0, .string a1, .int .i64 a2] 91)) (by rfl) (by first | (go_simp; done) | (go_simp; rfl)) ?_
        refine hK.out _ _ ⟨pw_cell_below (below_alloc (Below.refl W5.heap.size W5) _) y0, pw_cell_below (below_alloc (Below.refl W5.heap.size W5) _) z0, pw_cell_below (below_alloc (Below.refl W5.heap.size W5) _) z1, pw_cell_below (below_alloc (Below.refl W5.heap.size W5) _) z2⟩ (fun hHeld => ?_)
        clear hK K
        refine norm_ (a' := ?_) ?_ ?_
        rotate_left
        ·show Act.put _ (some 48) _ = _
         simp only [Act.put, sT_, s0_, sS_, i64_w, i32_w]
         rfl
        refine last_ (i := 7) (N := (some 49)) #[T_,T_,T_,T_,T_,T_,T_,T_,F_,F_,F_] rfl rfl (one_of HT_.out (by kernel_rfl)) (by decide) (fun K hK => ?_)
        refine Kd.R_append_step k91 (w0 := w) base (by rfl) (.tmp 46) (.tmp 48) 28 91 (.agg #[(.string ⟨#[]⟩), (.string ⟨#[]⟩), (.int .i64 0)]) 40 rfl Try.underlying28 info91 rfl (by decide) (by decide) (.slice A0 f0.length c0) f0 (⟨a0, a1, a2⟩ : S91) [.string a0, .string a1, .int .i64 a2] (fun _ => True) (fun _ => False) rfl rfl (k91_mkM _ _ _ _) (fun _ hk => hk.elim) (fun _ _ => trivial) HS5.out.rig.r0 HS5.out.below HS5.out.rig.lt (by have := HLM.out; omega) ?_
        intro v6 w6 ho hb hg hat
        obtain ⟨A6, c6, e6⟩ := Kd.R_slice ho
        subst e6
        have hP := HS5.out.rig.put0 hg ho
        have HP := ak_ hP
        have HB6 := ak_ hb
        clear ho hb hg hat hP
        refine hK.out _ _ ?_
        clear hK K
        refine norm_ (a' := ?_) ?_ ?_
        rotate_left
        ·show Act.put _ (some 49) _ = _
         simp only [Act.put, sT_, s0_, sS_, i64_w, i32_w]
         rfl
        refine pv (i := 8) (N := some 50) HT_ ?_
        refine pv (i := 9) (N := some 51) HT_ ?_
        refine last_ (i := 10) (N := none) #[T_,T_,T_,T_,T_,T_,T_,T_,T_,T_,T_] rfl rfl (one_of HT_.out (by kernel_rfl)) (by decide) (fun K hK => ?_)
        refine skip_ (w1 := w6.setCell ⟨g, 0, none⟩ (.slice A6 (f0 ++ [(⟨a0, a1, a2⟩ : S91)]).length c6)) (by rfl) rfl ?_ ?_
        ·have fz := HP.out.1.1
         have xz := HP.out.1.2
         first | (go_simp; done) | (go_simp; rfl)
        refine hK.out _ _ ?_
        clear hK K
        refine done_ (done_of HT_.out (by kernel_rfl)) ?_
        obtain ⟨w7, hw7⟩ : ∃ w7, w7 = w6.setCell ⟨g, 0, none⟩ (.slice A6 (f0 ++ [(⟨a0, a1, a2⟩ : S91)]).length c6) := ⟨_, rfl⟩
        have HR7 : Aside0 (RigOwn base w7 g (f0 ++ [(⟨a0, a1, a2⟩ : S91)]) f1 f2) := ⟨by rw [hw7]; exact HP.out.2.own⟩
        have HB7 : Aside0 (Below base w w7) := ⟨by rw [hw7]; exact HB6.out.setCell HS5.out.rig.ge _⟩
        rw [← hw7]
        clear hw7 HP HB6 HS5 y0 z0 z1 z2
        go_wp2_with fail
        go_ret
        exact ⟨rfl, HR7.out, HB7.out⟩
       ·rw [if_neg hl] at h
        exact absurd h (by simp))


/-! ### spec_l19Line: function 63 -/
def spec_l19Line.l0 : Nat → ByteArray → Int → List (S91) → List ByteArray → List (S41) → Option (Bool)
 | 0, _, _, _, _, _ => none
 | k + 1, x1, x5, x1000, x1001, x1002 => if x5 < (x1001.length : Int) then (if 0 ≤ x5 then (if (rdOf ByteArray.empty x1001 x5).toList = x1.toList then (some true) else (spec_l19Line.l0 k x1 (wrap64 (x5 + 1)) x1000 x1001 x1002)) else (none)) else (some false)
def spec_l19Line.f (k : Nat) (s0_0 : List (S91)) (s0_1 : List ByteArray) (s0_2 : List (S41)) (a1 : ByteArray) : Option (Bool) := spec_l19Line.l0 k a1 0 s0_0 s0_1 s0_2
set_option maxHeartbeats 8000000 in
set_option maxRecDepth 100000 in
theorem spec_l19Line.calls0 (k : Nat) (g o : Nat) (z : Option Nat) (s0_0 : List (S91)) (s0_1 : List ByteArray) (s0_2 : List (S41)) (a1 : ByteArray) (r : Bool) (w0 w : World) (hI : IsE31 w0 w g o z s0_0 s0_1 s0_2) (hB : Below w0.heap.size w0 w) (h : spec_l19Line.f k s0_0 s0_1 s0_2 a1 = some r) :
  Calls Try.prog 63 #[.pointer (some ⟨g, o, z⟩), .string a1] w fun e w' => e = .returned (.bool r) ∧ IsE31 w0 w' g o z s0_0 s0_1 s0_2 ∧ Below w0.heap.size w0 w' ∧ KeepBut w w' w.heap.size none := by
 have HI0 := ak_ hI
 have HK := ak_ (KeepBut.refl w w.heap.size none)
 have HL := ak_ hB.size
 clear hI
 have HW0 := ak_ hB.size
 have HB := ak_ hB
 clear hB
 have H : (spec_l19Line.l0 k a1 0 s0_0 s0_1 s0_2) = some r := h
 clear h
 have H' := ak_ H
 clear H
 go_enter Try.func63, Try.ntmps63
 go_wp2
 go_loopg [5] k (fun kq v5 w' => ∃ (x5_1 : Int), v5 = .int .i64 x5_1 ∧ Aside0 (spec_l19Line.l0 kq a1 x5_1 s0_0 s0_1 s0_2 = some r) ∧ Aside0 (kq ≤ k) ∧ Aside0 (IsE31 w0 w' g o z s0_0 s0_1 s0_2) ∧ Aside0 (KeepBut w w' w.heap.size none) ∧ Aside0 (Below w0.heap.size w0 w'))
 case atStart => exact ⟨(0), fr_, H', ⟨Nat.le_refl _⟩, ⟨by repeat (first | (with_reducible first | exact HI0.out | apply IsE31.alloc | apply IsE31.drewN | apply IsE31.drew) | exact HI0.out)⟩, ⟨by repeat (first | (with_reducible first | exact HK.out | apply keep_drewN | apply keep_drew | apply keep_alloc) | exact HK.out)⟩, ⟨hb_⟩⟩
 case round =>
  clear H'
  try clear p2
  obtain ⟨x5_1, rfl, HA, HK1, HI0, HK, HB⟩ := hrel
  cases gk with
  | zero => exact absurd HA.out (by simp [spec_l19Line.l0])
  | succ k1 =>
   have H := HA.out
   clear HA
   simp only [spec_l19Line.l0] at H
   by_cases c3 : x5_1 < (s0_1.length : Int)
   ·rw [if_pos c3] at H
    have c3b0 : decide (x5_1 < (s0_1.length : Int)) = true := dt_ c3
    clear c3
    by_cases c4 : 0 ≤ x5_1
    ·rw [if_pos c4] at H
     have c4b0 : decide (0 ≤ x5_1) = true := dt_ c4
     clear c4
     by_cases c5 : (rdOf ByteArray.empty s0_1 x5_1).toList = a1.toList
     ·rw [if_pos c5] at H
      have c5b0 : ((rdOf ByteArray.empty s0_1 x5_1).toList == a1.toList) = true := beq_iff_eq.mpr c5
      have c5b1 : ((rdOf ByteArray.empty s0_1 x5_1).toList != a1.toList) = false := bne_eq_false_iff_eq.mpr c5
      clear c5
      obtain rfl := Option.some.inj H
      obtain ⟨ASz6_0, cSz6_0, ASz6_1, cSz6_1, ASz6_2, cSz6_2, HGz6, hgz6, HSz6_0, HSz6_1, HSz6_2⟩ := HI0.out
      have hcz6_0 := cellE31_0 HGz6
      have hcz6_1 := cellE31_1 HGz6
      have hcz6_2 := cellE31_2 HGz6
      clear HGz6 hgz6
      have p126 : 0 ≤ (x5_1 : Int) := od_
      have q126 : x5_1 < (s0_1.length : Int) := od_
      obtain ⟨ad126, e126, hx126_0⟩ := Kd.at_string HSz6_1 x5_1 p126 q126
      cases e126
      replace hx126_0 := pw_cell_below HB.out hx126_0
      replace p126 := eq_true p126
      replace q126 := eq_true q126
      go_wp2
      go_ret
      exact ⟨ew_, isE31_a HI0, hb_, by repeat (first | (with_reducible first | exact HK.out | apply keep_drewN | apply keep_drew | apply keep_alloc) | exact HK.out)⟩
     ·rw [if_neg c5] at H
      have c5b0 : ((rdOf ByteArray.empty s0_1 x5_1).toList == a1.toList) = false := beq_eq_false_iff_ne.mpr c5
      have c5b1 : ((rdOf ByteArray.empty s0_1 x5_1).toList != a1.toList) = true := bne_iff_ne.mpr c5
      have H' := ak_ H
      clear H
      obtain ⟨ASz7_0, cSz7_0, ASz7_1, cSz7_1, ASz7_2, cSz7_2, HGz7, hgz7, HSz7_0, HSz7_1, HSz7_2⟩ := HI0.out
      have hcz7_0 := cellE31_0 HGz7
      have hcz7_1 := cellE31_1 HGz7
      have hcz7_2 := cellE31_2 HGz7
      clear HGz7 hgz7
      have p126 : 0 ≤ (x5_1 : Int) := od_
      have q126 : x5_1 < (s0_1.length : Int) := od_
      obtain ⟨ad126, e126, hx126_0⟩ := Kd.at_string HSz7_1 x5_1 p126 q126
      cases e126
      replace hx126_0 := pw_cell_below HB.out hx126_0
      replace p126 := eq_true p126
      replace q126 := eq_true q126
      go_wp2
      go_roundg k1
      case measure => have := HK1.out; omega
      case rel => exact ⟨(wrap64 (x5_1 + 1)), fr_, H', ⟨by have := HK1.out; omega⟩, ⟨by repeat (first | (with_reducible first | exact HI0.out | apply IsE31.alloc | apply IsE31.drewN | apply IsE31.drew) | exact HI0.out)⟩, ⟨by repeat (first | (with_reducible first | exact HK.out | apply keep_drewN | apply keep_drew | apply keep_alloc) | exact HK.out)⟩, ⟨hb_⟩⟩
    ·rw [if_neg c4] at H
     exact absurd H (by simp)
   ·rw [if_neg c3] at H
    have c3b0 : decide (x5_1 < (s0_1.length : Int)) = false := decide_eq_false c3
    clear c3
    obtain rfl := Option.some.inj H
    obtain ⟨ASz8_0, cSz8_0, ASz8_1, cSz8_1, ASz8_2, cSz8_2, HGz8, hgz8, HSz8_0, HSz8_1, HSz8_2⟩ := HI0.out
    have hcz8_0 := cellE31_0 HGz8
    have hcz8_1 := cellE31_1 HGz8
    have hcz8_2 := cellE31_2 HGz8
    clear HGz8 hgz8
    go_wp2
    go_ret
    exact ⟨ew_, isE31_a HI0, hb_, by repeat (first | (with_reducible first | exact HK.out | apply keep_drewN | apply keep_drew | apply keep_alloc) | exact HK.out)⟩
theorem spec_l19Line.callsE (k : Nat) (g : Addr) (s0_0 : List (S91)) (s0_1 : List ByteArray) (s0_2 : List (S41)) (AE0 : Option Addr) (cE0 : Nat) (AE1 : Option Addr) (cE1 : Nat) (AE2 : Option Addr) (cE2 : Nat) (a1 : ByteArray) (r : Bool) (w : World) (he0 : w.cell? g = some (.slice AE0 s0_0.length cE0)) (he1 : w.cell? ⟨g.block, g.off + 1, none⟩ = some (.slice AE1 s0_1.length cE1)) (he2 : w.cell? ⟨g.block, g.off + 2, none⟩ = some (.slice AE2 s0_2.length cE2)) (hr0 : Kd.C k91 w AE0 s0_0.length s0_0) (hr1 : Kd.C Kd.string w AE1 s0_1.length s0_1) (hr2 : Kd.C k41 w AE2 s0_2.length s0_2) (h : spec_l19Line.f k s0_0 s0_1 s0_2 a1 = some r) :
  Calls Try.prog 63 #[.pointer (some g), .string a1] w fun e w' => e = .returned (.bool r) ∧ Below w.heap.size w w' := by
 refine (spec_l19Line.calls0 k g.block g.off g.spot s0_0 s0_1 s0_2 a1 r w w ⟨AE0, cE0, AE1, cE1, AE2, cE2, ⟨he0, he1, he2⟩, trivial, hr0, hr1, hr2⟩ (Below.refl _ _) h).mono ?_
 rintro e w' ⟨rfl, _, hb, _⟩
 exact ⟨rfl, hb⟩


/-! ### spec_l19AddLine: function 89 -/
open Go.Proofs.YtcenjcgfdghfnaaW.Hand
def spec_l19AddLine.f (k : Nat) (f0 : List S91) (f1 : List ByteArray) (f2 : List S41) (a : ByteArray) : Option (List ByteArray × Int) :=
 (spec_IsName.f k a).bind fun t => if t = true then ((spec_l19Line.f k f0 f1 f2 a).bind fun u => if u = true then some (f1, 5) else if (f1.length : Int) ≥ 60 then some (f1, 8) else if f1.length < 1000 then some (f1 ++ [a], 0) else none) else some (f1, 3)
set_option maxRecDepth 100000 in
set_option maxHeartbeats 4000000 in
theorem spec_l19AddLine.calls (k base : Nat) (g : Nat) (f0 : List S91) (f1 : List ByteArray) (f2 : List S41) (a : ByteArray) (q : List ByteArray) (r : Int) (w : World) (hI : RigOwn base w g f0 f1 f2) (h : spec_l19AddLine.f k f0 f1 f2 a = some (q, r)) :
  Calls Try.prog 89 #[.pointer (some ⟨g, 0, none⟩), .string a] w fun e w' => e = .returned (.int .i64 r) ∧ RigOwn base w' g f0 q f2 ∧ Below base w w' := by
 obtain ⟨A0, c0, A1, c1, A2, c2, hI⟩ := hI
 have HI := ak_ hI
 have hB0 := hI.lt
 clear hI
 unfold spec_l19AddLine.f at h
 obtain ⟨t, ht, h⟩ := ob_ h
 have HT := ak_ ht
 clear ht
 go_enter Try.func89, Try.ntmps89
 go_upto_if 5 with (go_at_call 97; refine (spec_IsName.calls k a t w HT.out).mono ?_; rintro e w1 ⟨rfl, hb1⟩; have HI1 := ak_ (HI.out.step hb1.below); have HB1 := ak_ (below_mono hb1.below hB0); clear hb1)
 cases t with
 | false =>
  simp only [Bool.false_eq_true, if_false, Option.some.injEq, Prod.mk.injEq] at h
  obtain ⟨rfl, rfl⟩ := h
  go_wp2_with fail
  go_ret
  exact ⟨rfl, HI1.out.own, HB1.out⟩
 | true =>
  simp only [if_true] at h
  obtain ⟨u, hu, h⟩ := ob_ h
  have HU := ak_ hu
  clear hu
  have x1 := HI1.out.c1
  have hB1 := HI1.out.lt
  go_upto_if 9 with (go_at_call 63; refine (spec_l19Line.callsE k ⟨g, 0, none⟩ f0 f1 f2 A0 c0 A1 c1 A2 c2 a u w1 HI1.out.c0 HI1.out.c1 HI1.out.c2 (Kd.R_reads' HI1.out.r0).2.2 (Kd.R_reads' HI1.out.r1).2.2 (Kd.R_reads' HI1.out.r2).2.2 HU.out).mono ?_; rintro e w2 ⟨rfl, hb2⟩; have HI2 := ak_ (HI1.out.step hb2); have HB2 := ak_ (below_trans HB1.out (below_mono hb2 hB1)); clear hb2)
  cases u with
  | true =>
   simp only [if_true, Option.some.injEq, Prod.mk.injEq] at h
   obtain ⟨rfl, rfl⟩ := h
   go_wp2_with fail
   go_ret
   exact ⟨rfl, HI2.out.own, HB2.out⟩
  | false =>
   simp only [Bool.false_eq_true, if_false] at h
   clear x1
   have x2 := HI2.out.c1
   by_cases hf : (f1.length : Int) ≥ 60
   ·rw [if_pos hf] at h
    simp only [Option.some.injEq, Prod.mk.injEq] at h
    obtain ⟨rfl, rfl⟩ := h
    have hfd : decide ((f1.length : Int) ≥ 60) = true := dt_ hf
    have hfe : decide ((60 : Int) ≤ (f1.length : Int)) = true := hfd
    go_wp2_with fail
    go_ret
    exact ⟨rfl, HI2.out.own, HB2.out⟩
   ·rw [if_neg hf] at h
    have hfd : decide ((f1.length : Int) ≥ 60) = false := decide_eq_false hf
    have hfe : decide ((60 : Int) ≤ (f1.length : Int)) = false := hfd
    by_cases hl : f1.length < 1000
    ·rw [if_pos hl] at h
     simp only [Option.some.injEq, Prod.mk.injEq] at h
     obtain ⟨rfl, rfl⟩ := h
     have HLM := ak_ hl
     clear hf hl
     go_wp2_with (first
      | ((with_reducible refine gate_builtin (b := .append) (xs := #[.tmp 24, .tmp 26]) rfl ?_); at_builtin; refine Kd.R_append Kd.string (w0 := w) base rfl (.tmp 24) (.tmp 26) 23 9 (.string ⟨#[]⟩) 16 rfl Try.underlying23 info9 rfl (by decide) (by omega) (.slice A1 f1.length c1) f1 a [.string a] (fun _ => True) (fun _ => False) rfl rfl ?aP (fun _ hk => hk.elim) ?aF ?aO ?aB ?aS ?aL ?_; (case aP => exact rfl); (case aB => exact HB2.out); (case aF => exact (fun _ _ => trivial)); (case aO => exact HI2.out.r1); (case aS => exact HI2.out.lt); (case aL => have := HLM.out; omega); intro v3 w3 ho hb hg hat; obtain ⟨A3, c3, e3⟩ := Kd.R_slice ho; subst e3; have hP := HI2.out.put1 hg ho; have fz := hP.1.1; have xz := hP.1.2; have HP := ak_ hP.2; have HB3 := ak_ hb; have hB3 := Nat.le_trans hB0 hb.size; clear x2 ho hb hg hat hP)
      | (refine hand_store (fun w4 => RigOwn base w4 g f0 (f1 ++ [a]) f2 ∧ Below base w w4) (t := 23) (p := 29) (v := .tmp 27) (w1 := w3.setCell ⟨g, 1, none⟩ (.slice A3 (f1 ++ [a]).length c3)) ?hg4 rfl ?hN4 ?hr4 ?hF4 ?_; (case hg4 => rfl); (case hN4 => rfl); (case hr4 => first | (go_simp; done) | (go_simp; rfl)); (case hF4 => exact ⟨HP.out.own, HB3.out.setCell HI.out.ge _⟩); clear fz xz; rintro w4 ⟨hI4, hB4⟩; have HI4 := ak_ hI4; have HB4 := ak_ hB4; clear hI4 hB4))
     go_ret
     exact ⟨rfl, HI4.out, HB4.out⟩
    ·rw [if_neg hl] at h
     exact absurd h (by simp)


/-! ### spec_l19At: function 65 -/
def spec_l19At.l0 : Nat → ByteArray → Int → Int → List (S91) → List ByteArray → List (S41) → Option (Int)
 | 0, _, _, _, _, _, _ => none
 | k + 1, x1, x2, x7, x1000, x1001, x1002 => if x7 < (x1002.length : Int) then (if 0 ≤ x7 then (if ((rd_T41 x1002 x7).f1).toList = x1.toList then (if ((rd_T41 x1002 x7).f2) = x2 then (some x7) else (spec_l19At.l0 k x1 x2 (wrap64 (x7 + 1)) x1000 x1001 x1002)) else (spec_l19At.l0 k x1 x2 (wrap64 (x7 + 1)) x1000 x1001 x1002)) else (none)) else (some (-1))
def spec_l19At.f (k : Nat) (s0_0 : List (S91)) (s0_1 : List ByteArray) (s0_2 : List (S41)) (a1 : ByteArray) (a2 : Int) : Option (Int) := spec_l19At.l0 k a1 a2 0 s0_0 s0_1 s0_2
set_option maxHeartbeats 8000000 in
set_option maxRecDepth 100000 in
theorem spec_l19At.calls0 (k : Nat) (g o : Nat) (z : Option Nat) (s0_0 : List (S91)) (s0_1 : List ByteArray) (s0_2 : List (S41)) (a1 : ByteArray) (a2 : Int) (r : Int) (w0 w : World) (hI : IsE31 w0 w g o z s0_0 s0_1 s0_2) (hB : Below w0.heap.size w0 w) (h : spec_l19At.f k s0_0 s0_1 s0_2 a1 a2 = some r) :
  Calls Try.prog 65 #[.pointer (some ⟨g, o, z⟩), .string a1, .int .i64 a2] w fun e w' => e = .returned (.int .i64 r) ∧ IsE31 w0 w' g o z s0_0 s0_1 s0_2 ∧ Below w0.heap.size w0 w' ∧ KeepBut w w' w.heap.size none := by
 have HI0 := ak_ hI
 have HK := ak_ (KeepBut.refl w w.heap.size none)
 have HL := ak_ hB.size
 clear hI
 have HW0 := ak_ hB.size
 have HB := ak_ hB
 clear hB
 have H : (spec_l19At.l0 k a1 a2 0 s0_0 s0_1 s0_2) = some r := h
 clear h
 have H' := ak_ H
 clear H
 go_enter Try.func65, Try.ntmps65
 go_wp2
 go_loopg [7] k (fun kq v7 w' => ∃ (x7_1 : Int), v7 = .int .i64 x7_1 ∧ Aside0 (spec_l19At.l0 kq a1 a2 x7_1 s0_0 s0_1 s0_2 = some r) ∧ Aside0 (kq ≤ k) ∧ Aside0 (IsE31 w0 w' g o z s0_0 s0_1 s0_2) ∧ Aside0 (KeepBut w w' w.heap.size none) ∧ Aside0 (Below w0.heap.size w0 w'))
 case atStart => exact ⟨(0), fr_, H', ⟨Nat.le_refl _⟩, ⟨by repeat (first | (with_reducible first | exact HI0.out | apply IsE31.alloc | apply IsE31.drewN | apply IsE31.drew) | exact HI0.out)⟩, ⟨by repeat (first | (with_reducible first | exact HK.out | apply keep_drewN | apply keep_drew | apply keep_alloc) | exact HK.out)⟩, ⟨hb_⟩⟩
 case round =>
  clear H'
  try clear p2
  obtain ⟨x7_1, rfl, HA, HK1, HI0, HK, HB⟩ := hrel
  cases gk with
  | zero => exact absurd HA.out (by simp [spec_l19At.l0])
  | succ k1 =>
   have H := HA.out
   clear HA
   simp only [spec_l19At.l0] at H
   by_cases c4 : x7_1 < (s0_2.length : Int)
   ·rw [if_pos c4] at H
    have c4b0 : decide (x7_1 < (s0_2.length : Int)) = true := dt_ c4
    clear c4
    by_cases c5 : 0 ≤ x7_1
    ·rw [if_pos c5] at H
     have c5b0 : decide (0 ≤ x7_1) = true := dt_ c5
     clear c5
     by_cases c6 : ((rd_T41 s0_2 x7_1).f1).toList = a1.toList
     ·rw [if_pos c6] at H
      have c6b0 : (((rd_T41 s0_2 x7_1).f1).toList == a1.toList) = true := beq_iff_eq.mpr c6
      have c6b1 : (((rd_T41 s0_2 x7_1).f1).toList != a1.toList) = false := bne_eq_false_iff_eq.mpr c6
      clear c6
      by_cases c7 : ((rd_T41 s0_2 x7_1).f2) = a2
      ·rw [if_pos c7] at H
       have c7b0 : (((rd_T41 s0_2 x7_1).f2) == a2) = true := beq_iff_eq.mpr c7
       have c7b1 : (((rd_T41 s0_2 x7_1).f2) != a2) = false := bne_eq_false_iff_eq.mpr c7
       clear c7
       obtain rfl := Option.some.inj H
       obtain ⟨ASz8_0, cSz8_0, ASz8_1, cSz8_1, ASz8_2, cSz8_2, HGz8, hgz8, HSz8_0, HSz8_1, HSz8_2⟩ := HI0.out
       have hcz8_0 := cellE31_0 HGz8
       have hcz8_1 := cellE31_1 HGz8
       have hcz8_2 := cellE31_2 HGz8
       clear HGz8 hgz8
       have p127 : 0 ≤ (x7_1 : Int) := od_
       have q127 : x7_1 < (s0_2.length : Int) := od_
       obtain ⟨ad127, e127, hx127_0, hx127_1, hx127_2⟩ := at_T41 HSz8_2 x7_1 p127 q127
       cases e127
       replace hx127_0 := pw_cell_below HB.out hx127_0
       replace hx127_1 := pw_cell_below HB.out hx127_1
       replace hx127_2 := pw_cell_below HB.out hx127_2
       replace p127 := eq_true p127
       replace q127 := eq_true q127
       have p128 : 0 ≤ (x7_1 : Int) := od_
       have q128 : x7_1 < (s0_2.length : Int) := od_
       obtain ⟨ad128, e128, hx128_0, hx128_1, hx128_2⟩ := at_T41 HSz8_2 x7_1 p128 q128
       obtain rfl : ad127 = ad128 := (by injection e128)
       replace hx128_0 := pw_cell_below HB.out hx128_0
       replace hx128_1 := pw_cell_below HB.out hx128_1
       replace hx128_2 := pw_cell_below HB.out hx128_2
       replace p128 := eq_true p128
       replace q128 := eq_true q128
       go_wp2
       go_ret
       exact ⟨ew_, isE31_a HI0, hb_, by repeat (first | (with_reducible first | exact HK.out | apply keep_drewN | apply keep_drew | apply keep_alloc) | exact HK.out)⟩
      ·rw [if_neg c7] at H
       have c7b0 : (((rd_T41 s0_2 x7_1).f2) == a2) = false := beq_eq_false_iff_ne.mpr c7
       have c7b1 : (((rd_T41 s0_2 x7_1).f2) != a2) = true := bne_iff_ne.mpr c7
       have H' := ak_ H
       clear H
       obtain ⟨ASz9_0, cSz9_0, ASz9_1, cSz9_1, ASz9_2, cSz9_2, HGz9, hgz9, HSz9_0, HSz9_1, HSz9_2⟩ := HI0.out
       have hcz9_0 := cellE31_0 HGz9
       have hcz9_1 := cellE31_1 HGz9
       have hcz9_2 := cellE31_2 HGz9
       clear HGz9 hgz9
       have p127 : 0 ≤ (x7_1 : Int) := od_
       have q127 : x7_1 < (s0_2.length : Int) := od_
       obtain ⟨ad127, e127, hx127_0, hx127_1, hx127_2⟩ := at_T41 HSz9_2 x7_1 p127 q127
       cases e127
       replace hx127_0 := pw_cell_below HB.out hx127_0
       replace hx127_1 := pw_cell_below HB.out hx127_1
       replace hx127_2 := pw_cell_below HB.out hx127_2
       replace p127 := eq_true p127
       replace q127 := eq_true q127
       have p128 : 0 ≤ (x7_1 : Int) := od_
       have q128 : x7_1 < (s0_2.length : Int) := od_
       obtain ⟨ad128, e128, hx128_0, hx128_1, hx128_2⟩ := at_T41 HSz9_2 x7_1 p128 q128
       obtain rfl : ad127 = ad128 := (by injection e128)
       replace hx128_0 := pw_cell_below HB.out hx128_0
       replace hx128_1 := pw_cell_below HB.out hx128_1
       replace hx128_2 := pw_cell_below HB.out hx128_2
       replace p128 := eq_true p128
       replace q128 := eq_true q128
       go_wp2
       go_roundg k1
       case measure => have := HK1.out; omega
       case rel => exact ⟨(wrap64 (x7_1 + 1)), fr_, H', ⟨by have := HK1.out; omega⟩, ⟨by repeat (first | (with_reducible first | exact HI0.out | apply IsE31.alloc | apply IsE31.drewN | apply IsE31.drew) | exact HI0.out)⟩, ⟨by repeat (first | (with_reducible first | exact HK.out | apply keep_drewN | apply keep_drew | apply keep_alloc) | exact HK.out)⟩, ⟨hb_⟩⟩
     ·rw [if_neg c6] at H
      have c6b0 : (((rd_T41 s0_2 x7_1).f1).toList == a1.toList) = false := beq_eq_false_iff_ne.mpr c6
      have c6b1 : (((rd_T41 s0_2 x7_1).f1).toList != a1.toList) = true := bne_iff_ne.mpr c6
      have H' := ak_ H
      clear H
      obtain ⟨ASz10_0, cSz10_0, ASz10_1, cSz10_1, ASz10_2, cSz10_2, HGz10, hgz10, HSz10_0, HSz10_1, HSz10_2⟩ := HI0.out
      have hcz10_0 := cellE31_0 HGz10
      have hcz10_1 := cellE31_1 HGz10
      have hcz10_2 := cellE31_2 HGz10
      clear HGz10 hgz10
      have p127 : 0 ≤ (x7_1 : Int) := od_
      have q127 : x7_1 < (s0_2.length : Int) := od_
      obtain ⟨ad127, e127, hx127_0, hx127_1, hx127_2⟩ := at_T41 HSz10_2 x7_1 p127 q127
      cases e127
      replace hx127_0 := pw_cell_below HB.out hx127_0
      replace hx127_1 := pw_cell_below HB.out hx127_1
      replace hx127_2 := pw_cell_below HB.out hx127_2
      replace p127 := eq_true p127
      replace q127 := eq_true q127
      go_wp2
      go_roundg k1
      case measure => have := HK1.out; omega
      case rel => exact ⟨(wrap64 (x7_1 + 1)), fr_, H', ⟨by have := HK1.out; omega⟩, ⟨by repeat (first | (with_reducible first | exact HI0.out | apply IsE31.alloc | apply IsE31.drewN | apply IsE31.drew) | exact HI0.out)⟩, ⟨by repeat (first | (with_reducible first | exact HK.out | apply keep_drewN | apply keep_drew | apply keep_alloc) | exact HK.out)⟩, ⟨hb_⟩⟩
    ·rw [if_neg c5] at H
     exact absurd H (by simp)
   ·rw [if_neg c4] at H
    have c4b0 : decide (x7_1 < (s0_2.length : Int)) = false := decide_eq_false c4
    clear c4
    obtain rfl := Option.some.inj H
    obtain ⟨ASz11_0, cSz11_0, ASz11_1, cSz11_1, ASz11_2, cSz11_2, HGz11, hgz11, HSz11_0, HSz11_1, HSz11_2⟩ := HI0.out
    have hcz11_0 := cellE31_0 HGz11
    have hcz11_1 := cellE31_1 HGz11
    have hcz11_2 := cellE31_2 HGz11
    clear HGz11 hgz11
    go_wp2
    go_ret
    exact ⟨ew_, isE31_a HI0, hb_, by repeat (first | (with_reducible first | exact HK.out | apply keep_drewN | apply keep_drew | apply keep_alloc) | exact HK.out)⟩
theorem spec_l19At.callsE (k : Nat) (g : Addr) (s0_0 : List (S91)) (s0_1 : List ByteArray) (s0_2 : List (S41)) (AE0 : Option Addr) (cE0 : Nat) (AE1 : Option Addr) (cE1 : Nat) (AE2 : Option Addr) (cE2 : Nat) (a1 : ByteArray) (a2 : Int) (r : Int) (w : World) (he0 : w.cell? g = some (.slice AE0 s0_0.length cE0)) (he1 : w.cell? ⟨g.block, g.off + 1, none⟩ = some (.slice AE1 s0_1.length cE1)) (he2 : w.cell? ⟨g.block, g.off + 2, none⟩ = some (.slice AE2 s0_2.length cE2)) (hr0 : Kd.C k91 w AE0 s0_0.length s0_0) (hr1 : Kd.C Kd.string w AE1 s0_1.length s0_1) (hr2 : Kd.C k41 w AE2 s0_2.length s0_2) (h : spec_l19At.f k s0_0 s0_1 s0_2 a1 a2 = some r) :
  Calls Try.prog 65 #[.pointer (some g), .string a1, .int .i64 a2] w fun e w' => e = .returned (.int .i64 r) ∧ Below w.heap.size w w' := by
 refine (spec_l19At.calls0 k g.block g.off g.spot s0_0 s0_1 s0_2 a1 a2 r w w ⟨AE0, cE0, AE1, cE1, AE2, cE2, ⟨he0, he1, he2⟩, trivial, hr0, hr1, hr2⟩ (Below.refl _ _) h).mono ?_
 rintro e w' ⟨rfl, _, hb, _⟩
 exact ⟨rfl, hb⟩


/-! ### spec_l19Of: function 66 -/
def spec_l19Of.l0 : Nat → ByteArray → Int → List (S91) → List ByteArray → List (S41) → Option (Int)
 | 0, _, _, _, _, _ => none
 | k + 1, x1, x5, x1000, x1001, x1002 => if x5 < (x1002.length : Int) then (if 0 ≤ x5 then (if ((rd_T41 x1002 x5).f0).toList = x1.toList then (some x5) else (spec_l19Of.l0 k x1 (wrap64 (x5 + 1)) x1000 x1001 x1002)) else (none)) else (some (-1))
def spec_l19Of.f (k : Nat) (s0_0 : List (S91)) (s0_1 : List ByteArray) (s0_2 : List (S41)) (a1 : ByteArray) : Option (Int) := spec_l19Of.l0 k a1 0 s0_0 s0_1 s0_2
set_option maxHeartbeats 8000000 in
set_option maxRecDepth 100000 in
theorem spec_l19Of.calls0 (k : Nat) (g o : Nat) (z : Option Nat) (s0_0 : List (S91)) (s0_1 : List ByteArray) (s0_2 : List (S41)) (a1 : ByteArray) (r : Int) (w0 w : World) (hI : IsE31 w0 w g o z s0_0 s0_1 s0_2) (hB : Below w0.heap.size w0 w) (h : spec_l19Of.f k s0_0 s0_1 s0_2 a1 = some r) :
  Calls Try.prog 66 #[.pointer (some ⟨g, o, z⟩), .string a1] w fun e w' => e = .returned (.int .i64 r) ∧ IsE31 w0 w' g o z s0_0 s0_1 s0_2 ∧ Below w0.heap.size w0 w' ∧ KeepBut w w' w.heap.size none := by
 have HI0 := ak_ hI
 have HK := ak_ (KeepBut.refl w w.heap.size none)
 have HL := ak_ hB.size
 clear hI
 have HW0 := ak_ hB.size
 have HB := ak_ hB
 clear hB
 have H : (spec_l19Of.l0 k a1 0 s0_0 s0_1 s0_2) = some r := h
 clear h
 have H' := ak_ H
 clear H
 go_enter Try.func66, Try.ntmps66
 go_wp2
 go_loopg [5] k (fun kq v5 w' => ∃ (x5_1 : Int), v5 = .int .i64 x5_1 ∧ Aside0 (spec_l19Of.l0 kq a1 x5_1 s0_0 s0_1 s0_2 = some r) ∧ Aside0 (kq ≤ k) ∧ Aside0 (IsE31 w0 w' g o z s0_0 s0_1 s0_2) ∧ Aside0 (KeepBut w w' w.heap.size none) ∧ Aside0 (Below w0.heap.size w0 w'))
 case atStart => exact ⟨(0), fr_, H', ⟨Nat.le_refl _⟩, ⟨by repeat (first | (with_reducible first | exact HI0.out | apply IsE31.alloc | apply IsE31.drewN | apply IsE31.drew) | exact HI0.out)⟩, ⟨by repeat (first | (with_reducible first | exact HK.out | apply keep_drewN | apply keep_drew | apply keep_alloc) | exact HK.out)⟩, ⟨hb_⟩⟩
 case round =>
  clear H'
  try clear p2
  obtain ⟨x5_1, rfl, HA, HK1, HI0, HK, HB⟩ := hrel
  cases gk with
  | zero => exact absurd HA.out (by simp [spec_l19Of.l0])
  | succ k1 =>
   have H := HA.out
   clear HA
   simp only [spec_l19Of.l0] at H
   by_cases c3 : x5_1 < (s0_2.length : Int)
   ·rw [if_pos c3] at H
    have c3b0 : decide (x5_1 < (s0_2.length : Int)) = true := dt_ c3
    clear c3
    by_cases c4 : 0 ≤ x5_1
    ·rw [if_pos c4] at H
     have c4b0 : decide (0 ≤ x5_1) = true := dt_ c4
     clear c4
     by_cases c5 : ((rd_T41 s0_2 x5_1).f0).toList = a1.toList
     ·rw [if_pos c5] at H
      have c5b0 : (((rd_T41 s0_2 x5_1).f0).toList == a1.toList) = true := beq_iff_eq.mpr c5
      have c5b1 : (((rd_T41 s0_2 x5_1).f0).toList != a1.toList) = false := bne_eq_false_iff_eq.mpr c5
      clear c5
      obtain rfl := Option.some.inj H
      obtain ⟨ASz6_0, cSz6_0, ASz6_1, cSz6_1, ASz6_2, cSz6_2, HGz6, hgz6, HSz6_0, HSz6_1, HSz6_2⟩ := HI0.out
      have hcz6_0 := cellE31_0 HGz6
      have hcz6_1 := cellE31_1 HGz6
      have hcz6_2 := cellE31_2 HGz6
      clear HGz6 hgz6
      have p129 : 0 ≤ (x5_1 : Int) := od_
      have q129 : x5_1 < (s0_2.length : Int) := od_
      obtain ⟨ad129, e129, hx129_0, hx129_1, hx129_2⟩ := at_T41 HSz6_2 x5_1 p129 q129
      cases e129
      replace hx129_0 := pw_cell_below HB.out hx129_0
      replace hx129_1 := pw_cell_below HB.out hx129_1
      replace hx129_2 := pw_cell_below HB.out hx129_2
      replace p129 := eq_true p129
      replace q129 := eq_true q129
      go_wp2
      go_ret
      exact ⟨ew_, isE31_a HI0, hb_, by repeat (first | (with_reducible first | exact HK.out | apply keep_drewN | apply keep_drew | apply keep_alloc) | exact HK.out)⟩
     ·rw [if_neg c5] at H
      have c5b0 : (((rd_T41 s0_2 x5_1).f0).toList == a1.toList) = false := beq_eq_false_iff_ne.mpr c5
      have c5b1 : (((rd_T41 s0_2 x5_1).f0).toList != a1.toList) = true := bne_iff_ne.mpr c5
      have H' := ak_ H
      clear H
      obtain ⟨ASz7_0, cSz7_0, ASz7_1, cSz7_1, ASz7_2, cSz7_2, HGz7, hgz7, HSz7_0, HSz7_1, HSz7_2⟩ := HI0.out
      have hcz7_0 := cellE31_0 HGz7
      have hcz7_1 := cellE31_1 HGz7
      have hcz7_2 := cellE31_2 HGz7
      clear HGz7 hgz7
      have p129 : 0 ≤ (x5_1 : Int) := od_
      have q129 : x5_1 < (s0_2.length : Int) := od_
      obtain ⟨ad129, e129, hx129_0, hx129_1, hx129_2⟩ := at_T41 HSz7_2 x5_1 p129 q129
      cases e129
      replace hx129_0 := pw_cell_below HB.out hx129_0
      replace hx129_1 := pw_cell_below HB.out hx129_1
      replace hx129_2 := pw_cell_below HB.out hx129_2
      replace p129 := eq_true p129
      replace q129 := eq_true q129
      go_wp2
      go_roundg k1
      case measure => have := HK1.out; omega
      case rel => exact ⟨(wrap64 (x5_1 + 1)), fr_, H', ⟨by have := HK1.out; omega⟩, ⟨by repeat (first | (with_reducible first | exact HI0.out | apply IsE31.alloc | apply IsE31.drewN | apply IsE31.drew) | exact HI0.out)⟩, ⟨by repeat (first | (with_reducible first | exact HK.out | apply keep_drewN | apply keep_drew | apply keep_alloc) | exact HK.out)⟩, ⟨hb_⟩⟩
    ·rw [if_neg c4] at H
     exact absurd H (by simp)
   ·rw [if_neg c3] at H
    have c3b0 : decide (x5_1 < (s0_2.length : Int)) = false := decide_eq_false c3
    clear c3
    obtain rfl := Option.some.inj H
    obtain ⟨ASz8_0, cSz8_0, ASz8_1, cSz8_1, ASz8_2, cSz8_2, HGz8, hgz8, HSz8_0, HSz8_1, HSz8_2⟩ := HI0.out
    have hcz8_0 := cellE31_0 HGz8
    have hcz8_1 := cellE31_1 HGz8
    have hcz8_2 := cellE31_2 HGz8
    clear HGz8 hgz8
    go_wp2
    go_ret
    exact ⟨ew_, isE31_a HI0, hb_, by repeat (first | (with_reducible first | exact HK.out | apply keep_drewN | apply keep_drew | apply keep_alloc) | exact HK.out)⟩
theorem spec_l19Of.callsE (k : Nat) (g : Addr) (s0_0 : List (S91)) (s0_1 : List ByteArray) (s0_2 : List (S41)) (AE0 : Option Addr) (cE0 : Nat) (AE1 : Option Addr) (cE1 : Nat) (AE2 : Option Addr) (cE2 : Nat) (a1 : ByteArray) (r : Int) (w : World) (he0 : w.cell? g = some (.slice AE0 s0_0.length cE0)) (he1 : w.cell? ⟨g.block, g.off + 1, none⟩ = some (.slice AE1 s0_1.length cE1)) (he2 : w.cell? ⟨g.block, g.off + 2, none⟩ = some (.slice AE2 s0_2.length cE2)) (hr0 : Kd.C k91 w AE0 s0_0.length s0_0) (hr1 : Kd.C Kd.string w AE1 s0_1.length s0_1) (hr2 : Kd.C k41 w AE2 s0_2.length s0_2) (h : spec_l19Of.f k s0_0 s0_1 s0_2 a1 = some r) :
  Calls Try.prog 66 #[.pointer (some g), .string a1] w fun e w' => e = .returned (.int .i64 r) ∧ Below w.heap.size w w' := by
 refine (spec_l19Of.calls0 k g.block g.off g.spot s0_0 s0_1 s0_2 a1 r w w ⟨AE0, cE0, AE1, cE1, AE2, cE2, ⟨he0, he1, he2⟩, trivial, hr0, hr1, hr2⟩ (Below.refl _ _) h).mono ?_
 rintro e w' ⟨rfl, _, hb, _⟩
 exact ⟨rfl, hb⟩


/-! ### spec_l19AddBelay: function 90 -/
open Go.Proofs.YtcenjcgfdghfnaaW.Hand
def spec_l19AddBelay.f (k : Nat) (f0 : List S91) (f1 : List ByteArray) (f2 : List S41) (a0 a1 : ByteArray) (a2 : Int) : Option (List S41 × Int) :=
 (spec_l19Rail.f k f0 f1 f2 a1).bind fun i => if i < 0 then some (f2, 6) else ((spec_l19Line.f k f0 f1 f2 a0).bind fun u => if u = true then (if i < (f0.length : Int) then ((spec_l00In.f a2 1 ((rd_T91 f0 i).f2)).bind fun p => if p = true then ((spec_l19Of.f k f0 f1 f2 a0).bind fun o => if o ≥ 0 then some (f2, 5) else ((spec_l19At.f k f0 f1 f2 a1 a2).bind fun z => if z ≥ 0 then some (f2, 7) else if f2.length < 3000000000 then some (f2 ++ [⟨a0, a1, a2⟩], 0) else none)) else some (f2, 4)) else none) else some (f2, 6))
def spec_l19AddBelay.T10 : Bool × List (List Nat × List Nat) := (true, [([], []), ([], []), ([1], [1]), ([2], [2]), ([3], [3]), ([], []), ([5], [5]), ([4, 6], [4, 6]), ([0, 0, 1, 2, 3, 4, 5, 6, 7], [0]), ([8, 0, 1, 2, 3, 4, 5, 6, 7], [8]), ([9, 7, 7, 0, 1, 2, 3, 4, 5, 6, 7], [7, 9])])
def spec_l19AddBelay.B10 : List Nat := [0, 0, 2, 6, 14, 0, 32, 126, 255, 511, 1023]
theorem spec_l19AddBelay.tab10 : rtab .any (opsOf Try.f90 10) = spec_l19AddBelay.T10 := by kernel_rfl
theorem spec_l19AddBelay.bits10 : waitsOk spec_l19AddBelay.T10.2 spec_l19AddBelay.B10 = true := by kernel_rfl
set_option maxRecDepth 100000 in
set_option maxHeartbeats 8000000 in
theorem spec_l19AddBelay.calls (k base : Nat) (g : Nat) (f0 : List S91) (f1 : List ByteArray) (f2 : List S41) (a0 a1 : ByteArray) (a2 : Int) (q : List S41) (r : Int) (w : World) (hI : RigOwn base w g f0 f1 f2) (h : spec_l19AddBelay.f k f0 f1 f2 a0 a1 a2 = some (q, r)) :
  Calls Try.prog 90 #[.pointer (some ⟨g, 0, none⟩), .agg #[.string a0, .string a1, .int .i64 a2]] w fun e w' => e = .returned (.int .i64 r) ∧ RigOwn base w' g f0 f1 q ∧ Below base w w' := by
 obtain ⟨A0, c0, A1, c1, A2, c2, hI⟩ := hI
 have HI := ak_ hI
 have hB0 := hI.lt
 have hu := Try.underlying41
 clear hI
 unfold spec_l19AddBelay.f at h
 obtain ⟨i, ht, h⟩ := ob_ h
 have HT := ak_ ht
 clear ht
 by_cases hi0 : i < 0
 ·rw [if_pos hi0] at h
  simp only [Option.some.injEq, Prod.mk.injEq] at h
  obtain ⟨rfl, rfl⟩ := h
  have hid : decide (i < 0) = true := dt_ hi0
  clear hi0
  go_enter Try.func90, Try.ntmps90
  go_wp2_with (first | ((with_reducible refine gate_dst (N := 3) rfl ?_); refine hand_box (fun g_ W_ => RailSt base w W_ g g_ A0 c0 A1 c1 A2 c2 f0 f1 f2 #[.string a0, .string a1, .int .i64 a2] 41) ?hg (N := 3) ?hd (cs := #[.string a0, .string a1, .int .i64 a2]) (t := 41) ?hr ?hF ?_; (case hd => rfl); (case hg => rfl); (case hr => first | (go_simp; done) | (go_simp; rfl)); (case hF => exact ⟨HI.out.step (below_alloc (Below.refl _ _) _), heap_alloc_new _ _, (Below.refl base w).alloc hB0 _⟩); intro bl w1 hh; obtain ⟨z0, z1, z2⟩ := hh.s0; have HS1 := ak_ hh; clear hh) | (go_at_call 62; refine (spec_l19Rail.callsE k ⟨g, 0, none⟩ f0 f1 f2 A0 c0 A1 c1 A2 c2 a1 i w1 HS1.out.rig.c0 HS1.out.rig.c1 HS1.out.rig.c2 (Kd.R_reads' HS1.out.rig.r0).2.2 (Kd.R_reads' HS1.out.rig.r1).2.2 (Kd.R_reads' HS1.out.rig.r2).2.2 HT.out).mono ?_; rintro e w2 ⟨rfl, hb2⟩; have HS2 := ak_ (HS1.out.step hb2); clear hb2 z0 z1 z2; obtain ⟨z0, z1, z2⟩ := HS2.out.s0))
  go_ret
  exact ⟨rfl, HS2.out.rig.own, HS2.out.below⟩
 ·rw [if_neg hi0] at h
  obtain ⟨u, hu2, h⟩ := ob_ h
  have HU := ak_ hu2
  have hid : decide (i < 0) = false := decide_eq_false hi0
  have hip : 0 ≤ i := by omega
  clear hu2 hi0
  go_enter Try.func90, Try.ntmps90
  go_upto_if 10 with (first | ((with_reducible refine gate_dst (N := 3) rfl ?_); refine hand_box (fun g_ W_ => RailSt base w W_ g g_ A0 c0 A1 c1 A2 c2 f0 f1 f2 #[.string a0, .string a1, .int .i64 a2] 41) ?hg (N := 3) ?hd (cs := #[.string a0, .string a1, .int .i64 a2]) (t := 41) ?hr ?hF ?_; (case hd => rfl); (case hg => rfl); (case hr => first | (go_simp; done) | (go_simp; rfl)); (case hF => exact ⟨HI.out.step (below_alloc (Below.refl _ _) _), heap_alloc_new _ _, (Below.refl base w).alloc hB0 _⟩); intro bl w1 hh; obtain ⟨z0, z1, z2⟩ := hh.s0; have HS1 := ak_ hh; clear hh) | (go_at_call 62; refine (spec_l19Rail.callsE k ⟨g, 0, none⟩ f0 f1 f2 A0 c0 A1 c1 A2 c2 a1 i w1 HS1.out.rig.c0 HS1.out.rig.c1 HS1.out.rig.c2 (Kd.R_reads' HS1.out.rig.r0).2.2 (Kd.R_reads' HS1.out.rig.r1).2.2 (Kd.R_reads' HS1.out.rig.r2).2.2 HT.out).mono ?_; rintro e w2 ⟨rfl, hb2⟩; have HS2 := ak_ (HS1.out.step hb2); clear hb2 z0 z1 z2; obtain ⟨z0, z1, z2⟩ := HS2.out.s0) | (go_at_call 63; refine (spec_l19Line.callsE k ⟨g, 0, none⟩ f0 f1 f2 A0 c0 A1 c1 A2 c2 a0 u w2 HS2.out.rig.c0 HS2.out.rig.c1 HS2.out.rig.c2 (Kd.R_reads' HS2.out.rig.r0).2.2 (Kd.R_reads' HS2.out.rig.r1).2.2 (Kd.R_reads' HS2.out.rig.r2).2.2 HU.out).mono ?_; rintro e w3 ⟨rfl, hb3⟩; have HS3 := ak_ (HS2.out.step hb3); clear hb3 z0 z1 z2; obtain ⟨z0, z1, z2⟩ := HS3.out.s0))
  cases u with
  | false =>
   simp only [Bool.false_eq_true, if_false, Option.some.injEq, Prod.mk.injEq] at h
   obtain ⟨rfl, rfl⟩ := h
   go_wp2_with fail
   go_ret
   exact ⟨rfl, HS3.out.rig.own, HS3.out.below⟩
  | true =>
   simp only [if_true] at h
   by_cases hil : i < (f0.length : Int)
   rotate_left
   ·rw [if_neg hil] at h
    exact absurd h (by simp)
   rw [if_pos hil] at h
   obtain ⟨p, hp, h⟩ := ob_ h
   have HPN := ak_ hp
   clear hp hid
   go_upto_region 4 with fail
   refine hand_tail 10 (fun W => RailSt base w W g bl A0 c0 A1 c1 A2 c2 f0 f1 f2 #[.string a0, .string a1, .int .i64 a2] 41) (by kernel_rfl) (by kernel_rfl) (HS3.out.step (below_drew (Below.refl _ _))) ?_
   clear z0 z1 z2
   rintro w31 hS
   obtain ⟨z0, z1, z2⟩ := hS.s0
   have x0 := hS.rig.c0
   have x1 := hS.rig.c1
   have x2 := hS.rig.c2
   obtain ⟨ad9, e9, hx0, hx1, hx2⟩ := at_T91 (Kd.R_reads' hS.rig.r0).2.2 i hip hil
   rw [e9] at x0
   have HS31 := ak_ hS
   clear hS
   simp only [List.take_succ_cons, List.take_zero, List.drop_succ_cons, List.drop_zero]
   repeat still_step
   refine wpStill_nil ?_
   go_upto_if 20 with (go_at_call 64; refine (spec_l00In.calls a2 1 ((rd_T91 f0 i).f2) p w31 HPN.out).mono ?_; rintro e w4 ⟨rfl, hb4⟩; have HS4 := ak_ (HS31.out.step hb4.below); clear hb4 z0 z1 z2 x0 x1 x2 hx0 hx1 hx2; obtain ⟨z0, z1, z2⟩ := HS4.out.s0)
   cases p with
   | false =>
    simp only [Bool.false_eq_true, if_false, Option.some.injEq, Prod.mk.injEq] at h
    obtain ⟨rfl, rfl⟩ := h
    go_wp2_with fail
    go_ret
    exact ⟨rfl, HS4.out.rig.own, HS4.out.below⟩
   | true =>
    simp only [if_true] at h
    obtain ⟨o, ho, h⟩ := ob_ h
    have HOF := ak_ ho
    clear ho
    go_upto_if 33 with (go_at_call 66; refine (spec_l19Of.callsE k ⟨g, 0, none⟩ f0 f1 f2 A0 c0 A1 c1 A2 c2 a0 o w4 HS4.out.rig.c0 HS4.out.rig.c1 HS4.out.rig.c2 (Kd.R_reads' HS4.out.rig.r0).2.2 (Kd.R_reads' HS4.out.rig.r1).2.2 (Kd.R_reads' HS4.out.rig.r2).2.2 HOF.out).mono ?_; rintro e w5 ⟨rfl, hb5⟩; have HS5 := ak_ (HS4.out.step hb5); clear hb5 z0 z1 z2; obtain ⟨z0, z1, z2⟩ := HS5.out.s0)
    by_cases ho0 : o ≥ 0
    ·rw [if_pos ho0] at h
     simp only [Option.some.injEq, Prod.mk.injEq] at h
     obtain ⟨rfl, rfl⟩ := h
     have hod : decide ((0 : Int) ≤ o) = true := dt_ ho0
     go_wp2_with fail
     go_ret
     exact ⟨rfl, HS5.out.rig.own, HS5.out.below⟩
    ·rw [if_neg ho0] at h
     have hod : decide ((0 : Int) ≤ o) = false := decide_eq_false ho0
     obtain ⟨z, hz, h⟩ := ob_ h
     have HAT := ak_ hz
     clear hz
     go_upto_if 39 with (go_at_call 65; refine (spec_l19At.callsE k ⟨g, 0, none⟩ f0 f1 f2 A0 c0 A1 c1 A2 c2 a1 a2 z w5 HS5.out.rig.c0 HS5.out.rig.c1 HS5.out.rig.c2 (Kd.R_reads' HS5.out.rig.r0).2.2 (Kd.R_reads' HS5.out.rig.r1).2.2 (Kd.R_reads' HS5.out.rig.r2).2.2 HAT.out).mono ?_; rintro e w6 ⟨rfl, hb6⟩; have HS6 := ak_ (HS5.out.step hb6); clear hb6 z0 z1 z2; obtain ⟨z0, z1, z2⟩ := HS6.out.s0)
     by_cases hz0 : z ≥ 0
     ·rw [if_pos hz0] at h
      simp only [Option.some.injEq, Prod.mk.injEq] at h
      obtain ⟨rfl, rfl⟩ := h
      have hzd : decide ((0 : Int) ≤ z) = true := dt_ hz0
      go_wp2_with fail
      go_ret
      exact ⟨rfl, HS6.out.rig.own, HS6.out.below⟩
     ·rw [if_neg hz0] at h
      have hzd : decide ((0 : Int) ≤ z) = false := decide_eq_false hz0
      by_cases hl : f2.length < 3000000000
      ·rw [if_pos hl] at h
       simp only [Option.some.injEq, Prod.mk.injEq] at h
       obtain ⟨rfl, rfl⟩ := h
       have HLM := ak_ hl
       clear hl
       have y0 : w6.drew.cell? ⟨g, 2, none⟩ = some (.slice A2 f2.length c2) := HS6.out.rig.c2
       have z0 : w6.drew.cell? ⟨bl, 0, none⟩ = some (.string a0) := HS6.out.s0.1
       have z1 : w6.drew.cell? ⟨bl, 1, none⟩ = some (.string a1) := HS6.out.s0.2.1
       have z2 : w6.drew.cell? ⟨bl, 2, none⟩ = some (.int .i64 a2) := HS6.out.s0.2.2
       go_upto_region 10 with fail
       refine start_ (n := 11) (S := fun w' => w'.cell? ⟨g, 2, none⟩ = some (.slice A2 f2.length c2) ∧ w'.cell? ⟨bl, 0, none⟩ = some (.string a0) ∧ w'.cell? ⟨bl, 1, none⟩ = some (.string a1) ∧ w'.cell? ⟨bl, 2, none⟩ = some (.int .i64 a2)) (ds := [7, 10]) #[F_,F_,F_,F_,F_,F_,F_,F_,F_,F_,F_] (by kernel_rfl) rfl rfl ⟨y0, z0, z1, z2⟩ (fun hHeld => ?_); refine with_tabW spec_l19AddBelay.tab10 spec_l19AddBelay.bits10 (fun HT_ HW_ => ?_)
       generalize hW5 : w6.drew = W5 at hHeld y0 z0 z1 z2 ⊢
       have HS5 : Aside0 (RailSt base w W5 g bl A0 c0 A1 c1 A2 c2 f0 f1 f2 #[.string a0, .string a1, .int .i64 a2] 41) := ⟨by rw [← hW5]; exact HS6.out.step (below_drew (Below.refl _ _))⟩
       clear hW5
       refine pv (i := 0) (N := some 47) HT_ ?_
       refine pv (i := 1) (N := some 48) HT_ ?_
       refine pv (i := 2) (N := some 49) HT_ ?_
       refine pv (i := 3) (N := some 50) HT_ ?_
       refine take_ (i := 4) (N := some 51) (v := ?_) (a' := ?_) #[T_,T_,T_,T_,T_,F_,F_,F_,F_,F_,F_] rfl rfl (take_ofW HT_.out HW_.out (by kernel_rfl)) (fun _ _ _ h => h) (Or.inl ⟨by rfl, ?_⟩) hHeld ?_ ?_
       rotate_left
       ·rintro w' ⟨s0, s1, s2, s3⟩
        go_simp
        with_reducible rfl
       rotate_left
       ·simp only [Act.put, sT_, s0_, sS_, i64_w, i32_w]
        rfl
       refine take_ (i := 5) (N := some 52) (v := ?_) (a' := ?_) #[T_,T_,T_,T_,T_,T_,F_,F_,F_,F_,F_] rfl rfl (take_ofW HT_.out HW_.out (by kernel_rfl)) (fun _ _ _ h => h) (Or.inl ⟨by rfl, ?_⟩) hHeld ?_ ?_
       rotate_left
       ·rintro w' ⟨s0, s1, s2, s3⟩
        go_simp
        with_reducible rfl
       rotate_left
       ·simp only [Act.put, sT_, s0_, sS_, i64_w, i32_w]
        rfl
       refine one_ (i := 6) (N := (some 53)) #[T_,T_,T_,T_,T_,T_,T_,F_,F_,F_,F_] rfl rfl (one_of HT_.out (by kernel_rfl)) (by decide) (fun K hK => ?_)
       refine event_step (v := .slice (some ⟨W5.heap.size, 0, none⟩) 1 1) (w1 := W5.alloc (.cells #[.string a0, .string a1, .int .i64 a2] 41)) (by rfl) (by first | (go_simp; done) | (go_simp; rfl)) ?_
       refine hK.out _ _ ⟨pw_cell_below (below_alloc (Below.refl W5.heap.size W5) _) y0, pw_cell_below (below_alloc (Below.refl W5.heap.size W5) _) z0, pw_cell_below (below_alloc (Below.refl W5.heap.size W5) _) z1, pw_cell_below (below_alloc (Below.refl W5.heap.size W5) _) z2⟩ (fun hHeld => ?_)
       clear hK K
       refine norm_ (a' := ?_) ?_ ?_
       rotate_left
       ·show Act.put _ (some 53) _ = _
        simp only [Act.put, sT_, s0_, sS_, i64_w, i32_w]
        rfl
       refine last_ (i := 7) (N := (some 54)) #[T_,T_,T_,T_,T_,T_,T_,T_,F_,F_,F_] rfl rfl (one_of HT_.out (by kernel_rfl)) (by decide) (fun K hK => ?_)
       refine Kd.R_append_step k41 (w0 := w) base (by rfl) (.tmp 51) (.tmp 53) 29 41 (.agg #[(.string ⟨#[]⟩), (.string ⟨#[]⟩), (.int .i64 0)]) 40 rfl Try.underlying29 info41 rfl (by decide) (by decide) (.slice A2 f2.length c2) f2 (⟨a0, a1, a2⟩ : S41) [.string a0, .string a1, .int .i64 a2] (fun _ => True) (fun _ => False) rfl rfl (k41_mkM _ _ _ _) (fun _ hk => hk.elim) (fun _ _ => trivial) HS5.out.rig.r2 HS5.out.below HS5.out.rig.lt (by have := HLM.out; omega) ?_
       intro v6 w6 ho hb hg hat
       obtain ⟨A6, c6, e6⟩ := Kd.R_slice ho
       subst e6
       have hP := HS5.out.rig.put2 hg ho
       have HP := ak_ hP
       have HB6 := ak_ hb
       clear ho hb hg hat hP
       refine hK.out _ _ ?_
       clear hK K
       refine norm_ (a' := ?_) ?_ ?_
       rotate_left
       ·show Act.put _ (some 54) _ = _
        simp only [Act.put, sT_, s0_, sS_, i64_w, i32_w]
        rfl
       refine pv (i := 8) (N := some 55) HT_ ?_
       refine pv (i := 9) (N := some 56) HT_ ?_
       refine last_ (i := 10) (N := none) #[T_,T_,T_,T_,T_,T_,T_,T_,T_,T_,T_] rfl rfl (one_of HT_.out (by kernel_rfl)) (by decide) (fun K hK => ?_)
       refine skip_ (w1 := w6.setCell ⟨g, 2, none⟩ (.slice A6 (f2 ++ [(⟨a0, a1, a2⟩ : S41)]).length c6)) (by rfl) rfl ?_ ?_
       ·have fz := HP.out.1.1
        have xz := HP.out.1.2
        first | (go_simp; done) | (go_simp; rfl)
       refine hK.out _ _ ?_
       clear hK K
       refine done_ (done_of HT_.out (by kernel_rfl)) ?_
       obtain ⟨w7, hw7⟩ : ∃ w7, w7 = w6.setCell ⟨g, 2, none⟩ (.slice A6 (f2 ++ [(⟨a0, a1, a2⟩ : S41)]).length c6) := ⟨_, rfl⟩
       have HR7 : Aside0 (RigOwn base w7 g f0 f1 (f2 ++ [(⟨a0, a1, a2⟩ : S41)])) := ⟨by rw [hw7]; exact HP.out.2.own⟩
       have HB7 : Aside0 (Below base w w7) := ⟨by rw [hw7]; exact HB6.out.setCell HS5.out.rig.ge _⟩
       rw [← hw7]
       clear hw7 HP HB6 HS5 y0 z0 z1 z2
       go_wp2_with fail
       go_ret
       exact ⟨rfl, HR7.out, HB7.out⟩
      ·rw [if_neg hl] at h
       exact absurd h (by simp)


/-! ### spec_l19Ok: function 61 -/
open Go.Proofs.YtcenjcgfdghfnaaW.Hand
/-- The rails, one after the other; none where one does not fit. -/
def spec_l19Ok.rails (k : Nat) : List S91 → List S91 → Option (Option (List S91))
 | [], b => some (some b)
 | x :: xs, b => (spec_l19AddRail.f k b [] [] x.f0 x.f1 x.f2).bind fun q => if q.2 = 0 then spec_l19Ok.rails k xs q.1 else some none
def spec_l19Ok.lines (k : Nat) (f0 : List S91) : List ByteArray → List ByteArray → Option (Option (List ByteArray))
 | [], b => some (some b)
 | x :: xs, b => (spec_l19AddLine.f k f0 b [] x).bind fun q => if q.2 = 0 then spec_l19Ok.lines k f0 xs q.1 else some none
def spec_l19Ok.belays (k : Nat) (f0 : List S91) (f1 : List ByteArray) : List S41 → List S41 → Option (Option (List S41))
 | [], b => some (some b)
 | x :: xs, b => (spec_l19AddBelay.f k f0 f1 b x.f0 x.f1 x.f2).bind fun q => if q.2 = 0 then spec_l19Ok.belays k f0 f1 xs q.1 else some none
def spec_l19Ok.f (k : Nat) (l0 : List S91) (l1 : List ByteArray) (l2 : List S41) : Option Bool :=
 (spec_l19Ok.rails k l0 []).bind fun o0 => match o0 with
  | none => some false
  | some b0 => (spec_l19Ok.lines k b0 l1 []).bind fun o1 => match o1 with
   | none => some false
   | some b1 => (spec_l19Ok.belays k b0 b1 l2 []).bind fun o2 => match o2 with
    | none => some false
    | some _ => some true
theorem spec_l19Ok.rails_step (k : Nat) (l : List S91) (j : Nat) (b : List S91) (h : j < l.length) : spec_l19Ok.rails k (l.drop j) b = (spec_l19AddRail.f k b [] [] (rd_T91 l j).f0 (rd_T91 l j).f1 (rd_T91 l j).f2).bind fun q => if q.2 = 0 then spec_l19Ok.rails k (l.drop (j + 1)) q.1 else some none := by
 have e : rd_T91 l (j : Int) = l[j] := by
  unfold rd_T91
  rw [Int.toNat_natCast, List.getD_eq_getElem?_getD, List.getElem?_eq_getElem h]
  rfl
 rw [List.drop_eq_getElem_cons h, spec_l19Ok.rails, e]
theorem spec_l19Ok.lines_step (k : Nat) (f0 : List S91) (l : List ByteArray) (j : Nat) (b : List ByteArray) (h : j < l.length) : spec_l19Ok.lines k f0 (l.drop j) b = (spec_l19AddLine.f k f0 b [] (rdOf ByteArray.empty l j)).bind fun q => if q.2 = 0 then spec_l19Ok.lines k f0 (l.drop (j + 1)) q.1 else some none := by
 have e : rdOf ByteArray.empty l (j : Int) = l[j] := by
  unfold rdOf
  rw [Int.toNat_natCast, List.getD_eq_getElem?_getD, List.getElem?_eq_getElem h]
  rfl
 rw [List.drop_eq_getElem_cons h, spec_l19Ok.lines, e]
theorem spec_l19Ok.belays_step (k : Nat) (f0 : List S91) (f1 : List ByteArray) (l : List S41) (j : Nat) (b : List S41) (h : j < l.length) : spec_l19Ok.belays k f0 f1 (l.drop j) b = (spec_l19AddBelay.f k f0 f1 b (rd_T41 l j).f0 (rd_T41 l j).f1 (rd_T41 l j).f2).bind fun q => if q.2 = 0 then spec_l19Ok.belays k f0 f1 (l.drop (j + 1)) q.1 else some none := by
 have e : rd_T41 l (j : Int) = l[j] := by
  unfold rd_T41
  rw [Int.toNat_natCast, List.getD_eq_getElem?_getD, List.getElem?_eq_getElem h]
  rfl
 rw [List.drop_eq_getElem_cons h, spec_l19Ok.belays, e]
set_option maxRecDepth 100000 in
set_option maxHeartbeats 8000000 in
theorem spec_l19Ok.core (k : Nat) (g : Nat) (A0 : Option Addr) (c0 : Nat) (l0 : List S91) (A1 : Option Addr) (c1 : Nat) (l1 : List ByteArray) (A2 : Option Addr) (c2 : Nat) (l2 : List S41) (r : Bool) (w : World) (hx0 : w.cell? ⟨g, 0, none⟩ = some (.slice A0 l0.length c0)) (hx1 : w.cell? ⟨g, 1, none⟩ = some (.slice A1 l1.length c1)) (hx2 : w.cell? ⟨g, 2, none⟩ = some (.slice A2 l2.length c2)) (hr0 : Kd.C k91 w A0 l0.length l0) (hr1 : Kd.C Kd.string w A1 l1.length l1) (hr2 : Kd.C k41 w A2 l2.length l2) (h : spec_l19Ok.f k l0 l1 l2 = some r) :
  Calls Try.prog 61 #[.pointer (some ⟨g, 0, none⟩)] w fun e w' => e = .returned (.bool r) ∧ Below w.heap.size w w' := by
 have hm0 := hr0.2.1
 have hm1 := hr1.2.1
 have hm2 := hr2.2.1
 have HR0 := ak_ hr0
 have HR1 := ak_ hr1
 have HR2 := ak_ hr2
 have HX := ak_ (And.intro hx0 (And.intro hx1 hx2))
 clear hx0 hx1 hx2
 have hu := Try.underlying31
 have hu3 := Try.underlying91
 have hu4 := Try.underlying41
 clear hr0 hr1 hr2
 unfold spec_l19Ok.f at h
 obtain ⟨o0, h0, hF⟩ := ob_ h
 have H0 := ak_ h0
 have HF0 := ak_ hF
 clear h0 hF h
 go_enter Try.func61, Try.ntmps61
 go_wp2_with (first | (go_at_call 87; refine (spec_l19Empty.calls [] [] [] w rfl).mono ?_; rintro e w1 ⟨v0, v1, v2, rfl, e0, e1, e2, hb⟩; obtain ⟨B0, d0, q0⟩ := Kd.R_slice e0; obtain ⟨B1, d1, q1⟩ := Kd.R_slice e1; obtain ⟨B2, d2, q2⟩ := Kd.R_slice e2; subst q0 q1 q2; have HE := ak_ (And.intro e0 (And.intro e1 (And.intro e2 hb))); clear e0 e1 e2 hb) | ((with_reducible refine gate_dst (N := 3) rfl ?_); refine hand_box (fun g_ W_ => W_.heap[g_]? = some (.cells #[.slice none 0 0, .slice none 0 0, .slice none 0 0] 31 (0, 0)) ∧ w.heap.size ≤ g_ ∧ Below w.heap.size w W_ ∧ Kd.R k91 91 W_ w.heap.size (fun _ => True) (.slice B0 0 d0) [] ∧ Kd.R Kd.string 9 W_ w.heap.size (fun _ => True) (.slice B1 0 d1) [] ∧ Kd.R k41 41 W_ w.heap.size (fun _ => True) (.slice B2 0 d2) []) ?hg (N := 3) ?hd (cs := #[.slice none 0 0, .slice none 0 0, .slice none 0 0]) (t := 31) ?hr ?hF ?_; (case hd => rfl); (case hg => rfl); (case hr => first | (go_simp; done) | (go_simp; rfl)); (case hF => exact ⟨heap_alloc_new _ _, HE.out.2.2.2.size, HE.out.2.2.2.alloc HE.out.2.2.2.size _, Kd.R_below HE.out.1 (below_alloc (Below.refl _ _) _), Kd.R_below HE.out.2.1 (below_alloc (Below.refl _ _) _), Kd.R_below HE.out.2.2.1 (below_alloc (Below.refl _ _) _)⟩); intro bl w2 hh; have z0 : w2.cell? ⟨bl, 0, none⟩ = some (.slice none 0 0) := (blk_cell hh.1 0).trans rfl; have z1 : w2.cell? ⟨bl, 1, none⟩ = some (.slice none 0 0) := (blk_cell hh.1 1).trans rfl; have z2 : w2.cell? ⟨bl, 2, none⟩ = some (.slice none 0 0) := (blk_cell hh.1 2).trans rfl; have k0 := blk_frozen hh.1 0; have k1 := blk_frozen hh.1 1; have k2 := blk_frozen hh.1 2; have HZ := ak_ hh; clear hh) | (refine hand_store (fun w' => Built w.heap.size w w' bl [] [] []) (t := 31) (p := 3) (v := .tmp 7) (w1 := ((w2.setCell ⟨bl, 0, none⟩ (.slice B0 0 d0)).setCell ⟨bl, 1, none⟩ (.slice B1 0 d1)).setCell ⟨bl, 2, none⟩ (.slice B2 0 d2)) ?hg4 rfl ?hN4 ?hr4 ?hF4 ?_; (case hg4 => rfl); (case hN4 => rfl); (case hr4 => first | (go_simp; done) | (go_simp; rfl)); (case hF4 => exact ⟨(rig_new HZ.out.1 HZ.out.2.1 HZ.out.2.2.2.1 HZ.out.2.2.2.2.1 HZ.out.2.2.2.2.2).own, set3_below HZ.out.2.2.1 HZ.out.2.1⟩); clear z0 z1 z2 k0 k1 k2; rintro w3 hh; have HBU := ak_ hh; clear hh))
 go_loopg [4] l0.length (fun gg v4 wr => ∃ i : Nat, v4 = .int .i64 (i : Int) ∧ Aside0 (i ≤ l0.length ∧ l0.length - i ≤ gg) ∧ Aside0 (∃ b : List S91, spec_l19Ok.rails k (l0.drop i) b = some o0 ∧ Built w.heap.size w wr bl b [] []))
 case atStart => exact ⟨0, by go_num, ⟨Nat.zero_le _, by omega⟩, ⟨[], H0.out, HBU.out⟩⟩
 case round =>
 obtain ⟨i, rfl, HJ, HY⟩ := hrel
 clear HBU
 obtain ⟨b, hR, hBU⟩ := HY.out
 clear HY
 have HBU := ak_ hBU
 have hWB : Below w.heap.size w wr := hBU.2
 have x0 := pw_cell_below hBU.2 HX.out.1
 have x1 := pw_cell_below hBU.2 HX.out.2.1
 have x2 := pw_cell_below hBU.2 HX.out.2.2
 by_cases hlt : i < l0.length
 rotate_left
 ·have he : i = l0.length := by have := HJ.out; omega
  have hltb : decide (i < l0.length) = false := decide_eq_false hlt
  have hR2 : o0 = some b := by rw [he, List.drop_length] at hR; exact (Option.some.inj hR).symm
  have HB0 := ak_ hR2
  clear hR hlt HJ he hR2 hBU hWB
  obtain ⟨b0, hbb⟩ : ∃ y, y = b := ⟨_, rfl⟩
  rw [← hbb] at HB0 HBU
  clear hbb
  have hF0 := HF0.out
  rw [HB0.out] at hF0
  obtain ⟨o1, h1, hF0'⟩ := ob_ hF0
  have H1 := ak_ h1
  have HF1 := ak_ hF0'
  clear hF0 h1 hF0'
  go_wp2_with fail
  obtain ⟨wo1, rfl⟩ : ∃ wo : World, wo = wr := ⟨_, rfl⟩
  go_loopg [5] l1.length (fun gg v5 wr => ∃ i : Nat, v5 = .int .i64 (i : Int) ∧ Aside0 (i ≤ l1.length ∧ l1.length - i ≤ gg) ∧ Aside0 (∃ b : List ByteArray, spec_l19Ok.lines k b0 (l1.drop i) b = some o1 ∧ Built w.heap.size w wr bl b0 b []))
  case atStart => exact ⟨0, by go_num, ⟨Nat.zero_le _, by omega⟩, ⟨[], H1.out, HBU.out⟩⟩
  case round =>
  obtain ⟨i, rfl, HJ, HY⟩ := hrel
  clear HBU
  obtain ⟨b, hR, hBU⟩ := HY.out
  clear HY
  have HBU := ak_ hBU
  have hWB : Below w.heap.size w wr := hBU.2
  have x0 := pw_cell_below hBU.2 HX.out.1
  have x1 := pw_cell_below hBU.2 HX.out.2.1
  have x2 := pw_cell_below hBU.2 HX.out.2.2
  by_cases hlt : i < l1.length
  rotate_left
  ·have he : i = l1.length := by have := HJ.out; omega
   have hltb : decide (i < l1.length) = false := decide_eq_false hlt
   have hR2 : o1 = some b := by rw [he, List.drop_length] at hR; exact (Option.some.inj hR).symm
   have HB1 := ak_ hR2
   clear hR hlt HJ he hR2 hBU hWB
   obtain ⟨b1, hbb⟩ : ∃ y, y = b := ⟨_, rfl⟩
   rw [← hbb] at HB1 HBU
   clear hbb
   have hF1 := HF1.out
   rw [HB1.out] at hF1
   obtain ⟨o2, h2, hF1'⟩ := ob_ hF1
   have H2 := ak_ h2
   have HF2 := ak_ hF1'
   clear hF1 h2 hF1'
   go_wp2_with fail
   obtain ⟨wo2, rfl⟩ : ∃ wo : World, wo = wr := ⟨_, rfl⟩
   go_loopg [6] l2.length (fun gg v6 wr => ∃ i : Nat, v6 = .int .i64 (i : Int) ∧ Aside0 (i ≤ l2.length ∧ l2.length - i ≤ gg) ∧ Aside0 (∃ b : List S41, spec_l19Ok.belays k b0 b1 (l2.drop i) b = some o2 ∧ Built w.heap.size w wr bl b0 b1 b))
   case atStart => exact ⟨0, by go_num, ⟨Nat.zero_le _, by omega⟩, ⟨[], H2.out, HBU.out⟩⟩
   case round =>
   obtain ⟨i, rfl, HJ, HY⟩ := hrel
   clear HBU
   obtain ⟨b, hR, hBU⟩ := HY.out
   clear HY
   have HBU := ak_ hBU
   have hWB : Below w.heap.size w wr := hBU.2
   have x0 := pw_cell_below hBU.2 HX.out.1
   have x1 := pw_cell_below hBU.2 HX.out.2.1
   have x2 := pw_cell_below hBU.2 HX.out.2.2
   by_cases hlt : i < l2.length
   rotate_left
   ·have he : i = l2.length := by have := HJ.out; omega
    have hltb : decide (i < l2.length) = false := decide_eq_false hlt
    have hR2 : o2 = some b := by rw [he, List.drop_length] at hR; exact (Option.some.inj hR).symm
    have HB2 := ak_ hR2
    clear hR hlt HJ he hR2 hBU hWB
    have hF2 := HF2.out
    rw [HB2.out] at hF2
    obtain rfl : true = r := Option.some.inj hF2
    clear hF2
    go_wp2_with fail
    go_ret
    exact ⟨rfl, HBU.out.2⟩
   have hltb : decide (i < l2.length) = true := dt_ hlt
   have hi0 : 0 ≤ (i : Int) := Int.natCast_nonneg i
   have hi1 : (i : Int) < (l2.length : Int) := by omega
   obtain ⟨ad9, e9, hx0, hx1, hx2⟩ := at_T41 HR2.out (i : Int) hi0 hi1
   rw [Int.toNat_natCast] at hx0 hx1 hx2
   replace hx0 := pw_cell_below hWB hx0
   replace hx1 := pw_cell_below hWB hx1
   replace hx2 := pw_cell_below hWB hx2
   rw [e9] at x2
   clear hBU hWB
   rw [spec_l19Ok.belays_step k b0 b1 l2 i b hlt] at hR
   obtain ⟨⟨q, c⟩, hq, hR⟩ := ob_ hR
   dsimp only at hR
   have HQ := ak_ hq
   have HR := ak_ hR
   clear hq hR
   go_upto_if 61 with (go_at_call 90; refine (spec_l19AddBelay.calls k w.heap.size bl b0 b1 b (rd_T41 l2 (i : Int)).f0 (rd_T41 l2 (i : Int)).f1 (rd_T41 l2 (i : Int)).f2 q c wr HBU.out.1 HQ.out).mono ?_; rintro e w9 ⟨rfl, hO, hb⟩; have HBQ := ak_ (show Built w.heap.size w w9 bl b0 b1 q from ⟨hO, below_trans HBU.out.2 hb⟩); clear hO hb)
   by_cases hz : c = 0
   rotate_left
   ·have hzb : (c != 0) = true := by simpa using hz
    have hr0 := HR.out
    rw [if_neg hz] at hr0
    have hq0 : o2 = none := (Option.some.inj hr0).symm
    have hF2 := HF2.out
    rw [hq0] at hF2
    obtain rfl : false = r := Option.some.inj hF2
    clear hr0 hq0 hF2
    go_wp2_with fail
    go_ret
    exact ⟨rfl, HBQ.out.2⟩
   have hzb : (c != 0) = false := by simpa using hz
   have HR2 : Aside0 (spec_l19Ok.belays k b0 b1 (l2.drop (i + 1)) q = some o2) := ⟨by have h1 := HR.out; rwa [if_pos hz] at h1⟩
   clear HR HQ hz
   go_wp2_with fail
   go_roundg (l2.length - (i + 1))
   case measure => have := HJ.out; omega
   case rel => exact ⟨i + 1, by go_num, ⟨by omega, by omega⟩, ⟨q, HR2.out, HBQ.out⟩⟩
  have hltb : decide (i < l1.length) = true := dt_ hlt
  have hi0 : 0 ≤ (i : Int) := Int.natCast_nonneg i
  have hi1 : (i : Int) < (l1.length : Int) := by omega
  obtain ⟨ad9, e9, hx0⟩ := Kd.at_string HR1.out (i : Int) hi0 hi1
  rw [Int.toNat_natCast] at hx0
  replace hx0 := pw_cell_below hWB hx0
  rw [e9] at x1
  clear hBU hWB
  rw [spec_l19Ok.lines_step k b0 l1 i b hlt] at hR
  obtain ⟨⟨q, c⟩, hq, hR⟩ := ob_ hR
  dsimp only at hR
  have HQ := ak_ hq
  have HR := ak_ hR
  clear hq hR
  go_upto_if 43 with (go_at_call 89; refine (spec_l19AddLine.calls k w.heap.size bl b0 b [] (rdOf ByteArray.empty l1 (i : Int)) q c wr HBU.out.1 HQ.out).mono ?_; rintro e w9 ⟨rfl, hO, hb⟩; have HBQ := ak_ (show Built w.heap.size w w9 bl b0 q [] from ⟨hO, below_trans HBU.out.2 hb⟩); clear hO hb)
  by_cases hz : c = 0
  rotate_left
  ·have hzb : (c != 0) = true := by simpa using hz
   have hr0 := HR.out
   rw [if_neg hz] at hr0
   have hq0 : o1 = none := (Option.some.inj hr0).symm
   have hF1 := HF1.out
   rw [hq0] at hF1
   obtain rfl : false = r := Option.some.inj hF1
   clear hr0 hq0 hF1
   go_wp2_with fail
   go_ret
   exact ⟨rfl, HBQ.out.2⟩
  have hzb : (c != 0) = false := by simpa using hz
  have HR2 : Aside0 (spec_l19Ok.lines k b0 (l1.drop (i + 1)) q = some o1) := ⟨by have h1 := HR.out; rwa [if_pos hz] at h1⟩
  clear HR HQ hz
  go_wp2_with fail
  go_roundg (l1.length - (i + 1))
  case measure => have := HJ.out; omega
  case rel => exact ⟨i + 1, by go_num, ⟨by omega, by omega⟩, ⟨q, HR2.out, HBQ.out⟩⟩
 have hltb : decide (i < l0.length) = true := dt_ hlt
 have hi0 : 0 ≤ (i : Int) := Int.natCast_nonneg i
 have hi1 : (i : Int) < (l0.length : Int) := by omega
 obtain ⟨ad9, e9, hx0, hx1, hx2⟩ := at_T91 HR0.out (i : Int) hi0 hi1
 rw [Int.toNat_natCast] at hx0 hx1 hx2
 replace hx0 := pw_cell_below hWB hx0
 replace hx1 := pw_cell_below hWB hx1
 replace hx2 := pw_cell_below hWB hx2
 rw [e9] at x0
 clear hBU hWB
 rw [spec_l19Ok.rails_step k l0 i b hlt] at hR
 obtain ⟨⟨q, c⟩, hq, hR⟩ := ob_ hR
 dsimp only at hR
 have HQ := ak_ hq
 have HR := ak_ hR
 clear hq hR
 go_upto_if 25 with (go_at_call 88; refine (spec_l19AddRail.calls k w.heap.size bl b [] [] (rd_T91 l0 (i : Int)).f0 (rd_T91 l0 (i : Int)).f1 (rd_T91 l0 (i : Int)).f2 q c wr HBU.out.1 HQ.out).mono ?_; rintro e w9 ⟨rfl, hO, hb⟩; have HBQ := ak_ (show Built w.heap.size w w9 bl q [] [] from ⟨hO, below_trans HBU.out.2 hb⟩); clear hO hb)
 by_cases hz : c = 0
 rotate_left
 ·have hzb : (c != 0) = true := by simpa using hz
  have hr0 := HR.out
  rw [if_neg hz] at hr0
  have hq0 : o0 = none := (Option.some.inj hr0).symm
  have hF0 := HF0.out
  rw [hq0] at hF0
  obtain rfl : false = r := Option.some.inj hF0
  clear hr0 hq0 hF0
  go_wp2_with fail
  go_ret
  exact ⟨rfl, HBQ.out.2⟩
 have hzb : (c != 0) = false := by simpa using hz
 have HR2 : Aside0 (spec_l19Ok.rails k (l0.drop (i + 1)) q = some o0) := ⟨by have h1 := HR.out; rwa [if_pos hz] at h1⟩
 clear HR HQ hz
 go_wp2_with fail
 go_roundg (l0.length - (i + 1))
 case measure => have := HJ.out; omega
 case rel => exact ⟨i + 1, by go_num, ⟨by omega, by omega⟩, ⟨q, HR2.out, HBQ.out⟩⟩
/-! ### spec_l19Named: function 38 -/
def spec_l19Named.f (k : Nat) (s0_0 : List (S91)) (s0_1 : List ByteArray) (s0_2 : List (S41)) (a1 : ByteArray) : Option (Int × Int) := (spec_l19Ok.f k s0_0 s0_1 s0_2).bind fun t130 => (if t130 = true then ((spec_l19Line.f k s0_0 s0_1 s0_2 a1).bind fun t131 => (if t131 = true then ((spec_l19Of.f k s0_0 s0_1 s0_2 a1).bind fun t132 => (if t132 < 0 then (some (0, 10)) else (some (t132, 0)))) else (some (0, 2)))) else (some (0, 1)))
end Go.Proofs.Ytcenjcgfdghfnaa.P
end
