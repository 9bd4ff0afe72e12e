/- Texts of this claim, packed: Px26, Px27. -/
import Derived.Maps.OwnOps
import Derived.Maps.Ext
import Derived.Test.YtfkiamccipoioaaZFnDeckStates7
section
-- Written by gprint.py (own program, over the printer of the kit) out of the translation. Lean checks it.
namespace Go.Proofs.Ytfkiamccipoioaa.P
open Go.RowKit Go.Proofs.YtfkiamccipoioaaW.PrintWords Go.Proofs.YtfkiamccipoioaaW.PrintLast Go.Proofs.YtfkiamccipoioaaW.PrintMore Go.Proofs.YtfkiamccipoioaaW.Pk
attribute [local go_sem] max2_int min2_int max_two min_two max_three min_three max_four min_four   -- for this text's walks alone
set_option linter.unusedVariables false
set_option linter.unusedSimpArgs false

/-! ### impl_reachedSets: function 69 -/
-- (by hand)
open Go.Proofs.YtfkiamccipoioaaW.Hand
theorem own_some {w : World} {base n size : Nat} {e : TypeId} {v : Value} {xs : List Value} (h : w.ownsRow base e size v n xs) (hn : 0 < n) : ∃ g c, v = .slice (some ⟨g, 0, none⟩) n c := by
  rcases h.2 with ⟨_, h0⟩ | ⟨g, cap, cur, e, _⟩
  · omega
  · exact ⟨g, cap, e⟩
/-- Rows of whole numbers stay such rows: their numbers may be others. -/
theorem R_self {w : World} {base : Nat} {ok : Nat → Prop} {v : Value} {xs : List Int} (h : Kd.R (Kd.int .i64) 2 w base ok v xs) : Kd.R (Kd.int .i64) 2 w base (fun k => some k = v.ownBlock ∧ base ≤ k ∧ k < w.heap.size) v xs :=
  ⟨fun k hk => ⟨hk.symm, Kd.R_base h k hk, Kd.R_lt h k hk⟩, by
    obtain ⟨_, inner, ho, hr⟩ := h
    exact ⟨inner, ho, hr.imp_ (fun _ _ hp => hp)⟩⟩
theorem R_ge_of {w : World} {base : Nat} {ok : Nat → Prop} {v : Value} {xs : List Int} (h : Kd.R (Kd.int .i64) 2 w base ok v xs) : Kd.R (Kd.int .i64) 2 w base (fun k => base ≤ k) v xs := Kd.R_mono (R_self h) (fun _ hk => hk.2.1)
section
theorem zero4 (w : World) : (zeroValue 4).run Try.prog w = .ok (.bool false) w := by kernel_rfl
theorem keyed3 : Maps.Keyed Try.prog 3 := Maps.int_keyed Try.underlying3
/-- Block b is a map that remembers the numbers xs, and no others. -/
def SeenMap (w : World) (b : Nat) (xs : List Int) : Prop :=
  ∃ (n : Nat) (D : DataW Unit), w.ownsMap Try.prog 3 (plainElem Try.prog 4) b n D ∧ n ≤ xs.length ∧ Maps.IsMap D ∧ ∀ x : Int, D.atKey (.int .i64 x) (.lit (.bool false)) = .lit (.bool (xs.contains x))
theorem SeenMap.made (w : World) : SeenMap (w.alloc (.map #[] 0)) w.heap.size [] :=
  ⟨0, .map [], World.ownsMap_made w Try.prog 3 _, Nat.le_refl _, Maps.isMap_empty, fun x => rfl⟩
theorem SeenMap.lt {w : World} {b : Nat} {xs : List Int} (h : SeenMap w b xs) : b < w.heap.size := by
  obtain ⟨n, D, ho, _⟩ := h
  exact ho.lt
theorem SeenMap.grown {w w1 : World} {b : Nat} {xs : List Int} {row : Option Nat} (h : SeenMap w b xs) (hg : w.grownBy w1 row) (hne : some b ≠ row) : SeenMap w1 b xs := by
  obtain ⟨n, D, ho, h2⟩ := h
  exact ⟨n, D, ho.kept hg hne, h2⟩
theorem SeenMap.typed {w : World} {b : Nat} {xs : List Int} (h : SeenMap w b xs) : ∃ es clock, w.heap[b]? = some (.map es clock) := by
  obtain ⟨n, D, ⟨es, clock, hb, _⟩, _⟩ := h
  exact ⟨es, clock, hb⟩
theorem SeenMap.ne {w : World} {b : Nat} {xs : List Int} (h : SeenMap w b xs) {base n size : Nat} {e : TypeId} {v : Value} {ys : List Value} (ho : w.ownsRow base e size v n ys) : some b ≠ v.ownBlock := fun e => by
  obtain ⟨cells, hc⟩ := own_typed ho b e.symm
  obtain ⟨es, clock, hb⟩ := h.typed
  rw [hc] at hb
  cases hb
theorem SeenMap.below {w w1 : World} {b : Nat} {xs : List Int} (h : SeenMap w b xs) (hb : Below w.heap.size w w1) : SeenMap w1 b xs :=
  h.grown (row := none) ⟨hb.os, hb.tape, hb.output, hb.size, fun k hk _ => hb.block k hk⟩ (by simp)
theorem SeenMap.look {w : World} {b : Nat} {xs : List Int} (h : SeenMap w b xs) {x : Int} (hx : (Lit.int .i64 x).wf = true) :
    (Instr.lookup 88 (.map (some b)) (.int .i64 x) false).run Try.prog w = .ok (.bool (xs.contains x)) w := by
  obtain ⟨n, D, ho, hn, hm, hat⟩ := h
  obtain ⟨v, ps, hrun, hv⟩ := ho.lookup keyed3 Try.underlying88 (zero4 w) (plainElem_bool Try.underlying4 false) (Maps.keyOf_int_mk Try.underlying3 hx)
  rw [hat] at hv
  have e : v = .bool (xs.contains x) := by
    unfold plainElem at hv
    rw [Try.underlying4] at hv
    cases v <;> simp at hv
    rw [hv.1]
    simp
  rw [hrun, e]
theorem SeenMap.put {w : World} {b : Nat} {xs : List Int} (h : SeenMap w b xs) {x : Int} (hx : (Lit.int .i64 x).wf = true) (hl : xs.length < 1048576) :
    ∃ w', (Instr.mapUpdate 88 (.map (some b)) (.int .i64 x) (.bool true)).run Try.prog w = .ok () w' ∧ SeenMap w' b (xs ++ [x]) ∧ w.grownBy w' (some b) := by
  obtain ⟨n, D, ho, hn, hm, hat⟩ := h
  obtain ⟨w', hrun, ho', hg⟩ := ho.update keyed3 Try.underlying88 (by unfold maxLen; omega) (Maps.keyOf_int_mk Try.underlying3 hx) (plainElem_bool Try.underlying4 true)
  refine ⟨w', hrun, ⟨n + 1, _, ho', by rw [List.length_append, List.length_singleton]; omega, hm.put _ _, fun y => ?_⟩, hg⟩
  by_cases hy : y = x
  · subst hy
    rw [Maps.atKey_put_same hm (show WideAt.IsKeyLit (Lit.int .i64 y) from trivial)]
    simp
  · rw [Maps.atKey_put_other (by intro e; injection e with _ e; exact hy e), hat]
    rw [show (xs ++ [x]).contains y = xs.contains y by simp [hy]]
section
variable {ops : Array Oper} {rest : List Oper} {o : Oper} {a : Act} {Q : Exit → Act → World → Prop}
/-- Where a number is remembered. -/
theorem hand_seen {w : World} {b : Nat} {xs : List Int} (hg : o.guard = none) (m x : Operand) (hop : o.op = Op.mapUpdate 88 m x (.const (.bool true)) ∨ o.op = Op.insert 88 m x (.const (.bool true))) (hm : a.eval m = .map (some b)) (n : Int) (hx : a.eval x = .int .i64 n)
    (h : SeenMap w b xs) (hw : (Lit.int .i64 n).wf = true) (hl : xs.length < 1048576)
    (hK : ∀ w', SeenMap w' b (xs ++ [n]) → w.grownBy w' (some b) → wpList Try.prog ops Q rest (a.put o.dst undef) w') : wpList Try.prog ops Q (o :: rest) a w := by
  refine wpList_plain hg fun K' hK' => ?_
  obtain ⟨w', hrun, r1, r2⟩ := h.put hw hl
  have hv : a.eval (.const (.bool true)) = .bool true := rfl
  unfold Oper.wp
  rcases hop with hop | hop
  · simp [execOp, hop, hm, hx, hv, hrun, Result.andThen]
    exact hK' _ _ (hK w' r1 r2)
  · simp [execOp, hop, hm, hx, hv, hrun, Result.andThen]
    exact hK' _ _ (hK w' r1 r2)
end
end
def nextS (xs : List Int) (i j : Nat) : Int := Go.bits .xor .i64 (rd xs (i : Int)) (shl .i64 1 (j : Int))
mutual
def impl_reachedSets.l0 : Nat → List Int → List (List Int) → Nat → List Int → List (List Int) → Option (List Int × List (List Int))
 | 0, _, _, _, _, _ => none
 | k + 1, xs, vs, i, n, ys => if i < xs.length then impl_reachedSets.l1 k xs vs i 0 n ys else some (xs, vs)
def impl_reachedSets.l1 : Nat → List Int → List (List Int) → Nat → Nat → List Int → List (List Int) → Option (List Int × List (List Int))
 | 0, _, _, _, _, _, _ => none
 | k + 1, xs, vs, i, j, n, ys => if j < n.length then (if (Lit.int .i64 (nextS xs i j)).wf = true ∧ i < xs.length then (if xs.contains (nextS xs i j) = true then impl_reachedSets.l1 k xs vs i (j + 1) n ys else (impl_changeCode.f k n ys (rd xs (i : Int)) (j : Int)).bind fun c => (if c = 0 then (if xs.length < 1048576 ∧ vs.length < 1048576 ∧ (rd_L1 vs (i : Int)).length < 1048576 ∧ i < vs.length then impl_reachedSets.l1 k (xs ++ [nextS xs i j]) (vs ++ [rd_L1 vs (i : Int) ++ [(j : Int)]]) i (j + 1) n ys else none) else impl_reachedSets.l1 k xs vs i (j + 1) n ys)) else none) else impl_reachedSets.l0 k xs vs (i + 1) n ys
end
def impl_reachedSets.f (k : Nat) (l0_0 : List Int) (l0_1 : List (List Int)) (a1 : Int) : Option (List Int × List (List Int)) := if l0_0.length ≤ 1048576 ∧ (Lit.int .i64 a1).wf = true then impl_reachedSets.l0 k [a1] [[]] 0 l0_0 l0_1 else none
section
variable {P : Program} {ops : Array Oper} {rest : List Oper} {o : Oper} {a : Act} {Q : Exit → Act → World → Prop}
/-- A map is made; of the world behind it only F is told. -/
theorem hand_mkmap {W : World} (F : Nat → World → Prop) (hgd : o.guard = none) {N : Tmp} (_hd : o.dst = some N)
    (hrun : (execOp a.eval o).run P W = .ok (.value (.map (some W.heap.size))) (W.alloc (.map #[] 0))) (hF : F W.heap.size (W.alloc (.map #[] 0)))
    (h : ∀ g w1, F g w1 → wpList P ops Q rest (a.put o.dst (.map (some g))) w1) : wpList P ops Q (o :: rest) a W :=
  Kd.event_run hgd hrun (h _ _ hF)
end
theorem R_over_map {α : Type} {d : Kd α} {e : Nat} {W W' : World} {base b : Nat} {ok : Nat → Prop} {u : Value} {xs : List α} (h : Kd.R d e W base ok u xs) (hm : ∃ es clock, W.heap[b]? = some (.map es clock)) (hg : W.grownBy W' (some b)) : Kd.R d e W' base ok u xs :=
  Kd.R_mono (Kd.R_move (Kd.R_bound h) (fun k hk => hg.block k hk.2.2.1 (fun he => by
    obtain ⟨_, _, _, q, hq, cells, hc⟩ := hk
    obtain ⟨es, clock, hb⟩ := hm
    injection he with he
    subst he
    rw [hb] at hc
    cases hc))) (fun _ hk => hk.1)
abbrev kI : Kd Int := Kd.int .i64
abbrev kL : Kd (List Int) := Kd.slice 2 (Kd.int .i64)
theorem Kd.R_cell_ {w : World} {base g n c : Nat} {ok : Nat → Prop} {xs : List Int} (h : Kd.R kI 3 w base ok (.slice (some ⟨g, 0, none⟩) n c) xs) (i : Nat) (hi : i < xs.length) : w.cell? ⟨g, i, none⟩ = some (.int .i64 (rd xs (i : Int))) := by
  have hn := (Kd.R_reads' h).1
  subst hn
  have := (own_at (nums_of_R h) (i : Int) (by omega) (by omega)).1
  rw [Int.toNat_natCast] at this
  exact this
/-- What the search holds: the box of the deck, the sets, the ways, the map of those seen. -/
structure RI (w W : World) (gb bm : Nat) (cs : Array Value) (okw : Nat → Prop) (u v : Value) (xs : List Int) (vs : List (List Int)) (ms : List Int) : Prop where
  below : Below w.heap.size w W
  box : W.heap[gb]? = some (.cells cs 28 (0, 0))
  ge : w.heap.size ≤ gb
  sets : Kd.R kI 3 W w.heap.size (fun _ => True) u xs
  ways : Kd.R kL 22 W w.heap.size okw v vs
  seen : SeenMap W bm ms
  gem : w.heap.size ≤ bm
section
variable {w W W' : World} {gb bm : Nat} {cs : Array Value} {okw ok' : Nat → Prop} {u v u' v' : Value} {xs xs' : List Int} {vs vs' : List (List Int)} {ms ms' : List Int}
theorem RI.step (h : RI w W gb bm cs okw u v xs vs ms) (hb : Below W.heap.size W W') : RI w W' gb bm cs okw u v xs vs ms :=
  ⟨below_then h.below h.below.size hb, blk_below h.box hb, h.ge, Kd.R_below h.sets hb, Kd.R_below h.ways hb, h.seen.below hb, h.gem⟩
theorem RI.bound (h : RI w W gb bm cs okw u v xs vs ms) : RI w W gb bm cs (fun k => k < W.heap.size) u v xs vs ms :=
  ⟨h.below, h.box, h.ge, h.sets, Kd.R_mono (Kd.R_bound h.ways) (fun _ hk => hk.2.2.1), h.seen, h.gem⟩
theorem RI.open_ (h : RI w W gb bm cs okw u v xs vs ms) : RI w W gb bm cs (fun _ => True) u v xs vs ms :=
  ⟨h.below, h.box, h.ge, h.sets, Kd.R_mono h.ways (fun _ _ => trivial), h.seen, h.gem⟩
theorem RI.put (h : RI w W gb bm cs okw u v xs vs ms) (hs : SeenMap W' bm ms') (hg : W.grownBy W' (some bm)) : RI w W' gb bm cs okw u v xs vs ms' :=
  ⟨h.below.grown hg h.below.size (fun k hk => by injection hk with hk; rw [← hk]; exact h.gem), (hg.block gb (blk_lt h.box) (fun he => by
      obtain ⟨es, clock, hb⟩ := h.seen.typed
      injection he with he
      have h2 := h.box
      rw [he, hb] at h2
      cases h2)).trans h.box, h.ge, R_over_map h.sets h.seen.typed hg, R_over_map h.ways h.seen.typed hg, hs, h.gem⟩
theorem RI.app_sets (h : RI w W gb bm cs okw u v xs vs ms) (hr : Kd.R kI 3 W' w.heap.size (fun _ => True) u' xs') (hg : W.grownBy W' u.ownBlock) : RI w W' gb bm cs okw u' v xs' vs ms := by
  obtain ⟨inner, ho⟩ := Kd.R_own h.sets
  exact ⟨h.below.grown hg h.below.size (Kd.R_base h.sets), (hg.block gb (blk_lt h.box) (own_ne ho h.box (by decide))).trans h.box, h.ge, hr, Kd.R_over' h.ways (Kd.R_typed h.sets) (by decide) hg, h.seen.grown hg (h.seen.ne ho), h.gem⟩
theorem RI.app_ways (h : RI w W gb bm cs okw u v xs vs ms) (hr : Kd.R kL 22 W' w.heap.size ok' v' vs') (hg : W.grownBy W' v.ownBlock) : RI w W' gb bm cs ok' u v' xs vs' ms := by
  obtain ⟨inner, ho⟩ := Kd.R_own h.ways
  exact ⟨h.below.grown hg h.below.size (Kd.R_base h.ways), (hg.block gb (blk_lt h.box) (own_ne ho h.box (by decide))).trans h.box, h.ge, Kd.R_over' h.sets (Kd.R_typed h.ways) (by decide) hg, hr, h.seen.grown hg (h.seen.ne ho), h.gem⟩
/-- A row of whole numbers that is newer than the ways is written. -/
theorem RI.fresh {N0 : Nat} {z : Value} {zs : List Int} {okz : Nat → Prop} (h : RI w W gb bm cs (fun k => k < N0) u v xs vs ms) (hN : w.heap.size ≤ N0) (hz : Kd.R kI 2 W N0 okz z zs) (hg : W.grownBy W' z.ownBlock) : RI w W' gb bm cs (fun k => k < N0) u v xs vs ms := by
  obtain ⟨inner, ho⟩ := Kd.R_own hz
  have hge := Kd.R_base hz
  exact ⟨h.below.grown hg h.below.size (fun k hk => Nat.le_trans hN (hge k hk)), (hg.block gb (blk_lt h.box) (own_ne ho h.box (by decide))).trans h.box, h.ge, Kd.R_over' h.sets (Kd.R_typed hz) (by decide) hg, Kd.R_step h.ways (fun k hk hlt => hg.block k hlt (fun he => by have := hge k he.symm; omega)), h.seen.grown hg (h.seen.ne ho), h.gem⟩
theorem RI.cell_i {g n c : Nat} (h : RI w W gb bm cs okw (.slice (some ⟨g, 0, none⟩) n c) v xs vs ms) (i : Nat) (hi : i < xs.length) : W.cell? ⟨g, i, none⟩ = some (.int .i64 (rd xs (i : Int))) := by
  have := (Kd.R_cell_ h.sets i hi)
  exact this
theorem RI.cells (h : RI w W gb bm cs okw u v xs vs ms) (j : Nat) (x : Value) (hx : cs[j]? = some x) : W.cell? ⟨gb, j, none⟩ = some x := (blk_cell h.box j).trans hx
end
def rs.T10 : Bool × List (List Nat × List Nat) := (true, [([], []), ([], []), ([0, 1], [0, 1]), ([2], [2]), ([], []), ([4], [4]), ([3, 5], [3, 5]), ([6, 0, 1, 2, 3, 4, 5, 6], [6])])
def rs.B10 : List Nat := [0, 0, 3, 7, 0, 16, 63, 127]
theorem rs.tab10 : rtab .any (opsOf Try.f69 10) = rs.T10 := by kernel_rfl
theorem rs.bits10 : waitsOk rs.T10.2 rs.B10 = true := by kernel_rfl
def rs.T11 : Bool × List (List Nat × List Nat) := (true, [([], []), ([], []), ([0, 1], [0, 1]), ([2], [2]), ([3], [3]), ([3], [3]), ([3], [3]), ([5, 6, 3], [3, 5, 6]), ([7, 3], [3, 7]), ([3], [3]), ([4, 8, 9, 3, 3], [3, 4, 8, 9]), ([10, 3], [3, 10]), ([3, 11], [3, 11])])
def rs.B11 : List Nat := [0, 0, 3, 7, 15, 15, 15, 111, 239, 15, 1023, 2047, 4095]
theorem rs.tab11 : rtab .any (opsOf Try.f69 11) = rs.T11 := by kernel_rfl
theorem rs.bits11 : waitsOk rs.T11.2 rs.B11 = true := by kernel_rfl
set_option maxRecDepth 100000 in
set_option maxHeartbeats 8000000 in
theorem impl_reachedSets.calls (k : Nat) (A0_0 : Option Addr) (c0_0 : Nat) (l0_0 : List Int) (A0_1 : Option Addr) (c0_1 : Nat) (l0_1 : List (List Int)) (a1 : Int) (r1 : List Int) (r2 : List (List Int)) (w : World) (hr0_0 : Kd.C (Kd.int .i64) w A0_0 l0_0.length l0_0) (hc0_0 : l0_0.length ≤ c0_0) (hr0_1 : Kd.C (Kd.slice 2 (Kd.int .i64)) w A0_1 l0_1.length l0_1) (hc0_1 : l0_1.length ≤ c0_1) (h : impl_reachedSets.f k l0_0 l0_1 a1 = some (r1, r2)) :
    Calls Try.prog 69 #[.agg #[.slice A0_0 l0_0.length c0_0, .slice A0_1 l0_1.length c0_1], .int .i64 a1] w fun e w' => ∃ v0_ v1_ : Value, e = .returned (.tuple #[v0_, v1_]) ∧ Kd.R (Kd.int .i64) 3 w' w.heap.size (fun _ => True) v0_ r1 ∧ Kd.R (Kd.slice 2 (Kd.int .i64)) 22 w' w.heap.size (fun _ => True) v1_ r2 ∧ Below w.heap.size w w' := by
  have hu28 := Try.underlying28
  have HR0_0 := Aside0.mk hr0_0
  have HC0_0 := Aside0.mk hc0_0
  have HR0_1 := Aside0.mk hr0_1
  have HC0_1 := Aside0.mk hc0_1
  clear hr0_0 hc0_0 hr0_1 hc0_1
  unfold impl_reachedSets.f at h
  by_cases hc : l0_0.length ≤ 1048576 ∧ (Lit.int .i64 a1).wf = true
  rotate_left
  · rw [if_neg hc] at h; exact absurd h (by simp)
  rw [if_pos hc] at h
  obtain ⟨hl, hwf⟩ := hc
  have HH := Aside0.mk h
  have HWF := Aside0.mk hwf
  clear h hwf
  go_enter Try.func69, Try.ntmps69
  go_wp2_with (first
    | ((with_reducible refine gate_dst (N := 2) rfl ?_); refine box_event ?hg (N := 2) ?hd (cs := #[.slice A0_0 l0_0.length c0_0, .slice A0_1 l0_1.length c0_1]) (t := 28) ?hr ?_; (case hd => rfl); (case hg => rfl); (case hr => first | (go_simp; done) | (go_simp; rfl)); intro gb hg w1 hbox hb; have B1 : Aside0 (Below w.heap.size w w1 ∧ w1.heap[gb]? = some (.cells #[.slice A0_0 l0_0.length c0_0, .slice A0_1 l0_1.length c0_1] 28 (0, 0)) ∧ w.heap.size ≤ gb) := ⟨⟨hb, hbox, by rw [hg]; exact Nat.le_refl _⟩⟩; clear hb hbox hg)
    | ((with_reducible refine gate_dst (N := 13) rfl ?_); refine Kd.R_lit kI _ 3 ?hg (N := 13) ?hd (xs := ([a1] : List Int)) (inner := [.int .i64 a1]) (ok := fun _ => True) (okp := fun _ => True) ?hr ?hp (fun _ hk => hk) trivial (Below.refl _ _) (Nat.le_refl _) (by simp) ?_; (case hd => rfl); (case hg => rfl); (case hr => first | (go_simp; done) | (go_simp; rfl)); (case hp => exact (Reps.one (show Kd.M kI _ _ _ a1 [.int .i64 a1] from rfl) (Reps.none _ _))); intro u0 w2 ho hb hg_ hn_; clear hg_ hn_; have B2 := Aside0.mk (⟨below_then B1.out.1 B1.out.1.size hb, blk_below B1.out.2.1 hb, B1.out.2.2⟩ : Below w.heap.size w w2 ∧ w2.heap[gb]? = some (.cells #[.slice A0_0 l0_0.length c0_0, .slice A0_1 l0_1.length c0_1] 28 (0, 0)) ∧ w.heap.size ≤ gb); have U2 := Aside0.mk (Kd.R_lower ho B1.out.1.size); clear hb ho)
    | ((with_reducible refine gate_dst (N := 14) rfl ?_); refine Kd.R_lit kI _ 2 ?hg (N := 14) ?hd (xs := ([] : List Int)) (inner := []) (ok := fun _ => True) (okp := fun _ => True) ?hr ?hp (fun _ hk => hk) trivial (Below.refl _ _) (Nat.le_refl _) (by simp) ?_; (case hd => rfl); (case hg => rfl); (case hr => first | (go_simp; done) | (go_simp; rfl)); (case hp => exact (Reps.none _ _)); intro z0 w3 ho hb hg_ hn_; clear hg_ hn_; obtain ⟨Az, cz, ez⟩ := Kd.R_slice ho; subst ez; have B3 := Aside0.mk (⟨below_then B2.out.1 B2.out.1.size hb, blk_below B2.out.2.1 hb, B2.out.2.2⟩ : Below w.heap.size w w3 ∧ w3.heap[gb]? = some (.cells #[.slice A0_0 l0_0.length c0_0, .slice A0_1 l0_1.length c0_1] 28 (0, 0)) ∧ w.heap.size ≤ gb); have U3 := Aside0.mk (Kd.R_below U2.out hb); have Z3 := Aside0.mk (Kd.R_lower ho B2.out.1.size); clear hb ho U2)
    | ((with_reducible refine gate_dst (N := 15) rfl ?_); refine Kd.R_lit kL w.heap.size 22 ?hg (N := 15) ?hd (xs := ([[]] : List (List Int))) (inner := [.slice Az 0 cz]) (ok := fun _ => True) (okp := fun _ => True) ?hr ?hp (fun _ hk => hk) trivial B3.out.1 B3.out.1.size (by simp) ?_; (case hd => rfl); (case hg => rfl); (case hr => first | (go_simp; done) | (go_simp; rfl)); (case hp => exact (Reps.one (show Kd.M kL _ _ _ [] [.slice Az 0 cz] from ⟨_, rfl, Z3.out⟩) (Reps.none _ _))); intro v0 w4 ho hb hg_ hn_; clear hn_; have hb4 : Below w3.heap.size w3 w4 := ⟨hg_.os, hg_.tape, hg_.output, hg_.size, fun i hi => hg_.block i hi (by simp)⟩; have B4 := Aside0.mk (⟨hb, blk_below B3.out.2.1 hb4, B3.out.2.2⟩ : Below w.heap.size w w4 ∧ w4.heap[gb]? = some (.cells #[.slice A0_0 l0_0.length c0_0, .slice A0_1 l0_1.length c0_1] 28 (0, 0)) ∧ w.heap.size ≤ gb); have U4 := Aside0.mk (Kd.R_below U3.out hb4); have V4 := Aside0.mk ho; clear hb hb4 hg_ ho U3 Z3)
    | ((with_reducible refine gate_dst (N := 16) rfl ?_); refine hand_mkmap (fun g_ W_ => Below w4.heap.size w4 W_ ∧ SeenMap W_ g_ [] ∧ w4.heap.size ≤ g_) ?hg (N := 16) ?hd ?hr ?hF ?_; (case hd => rfl); (case hg => rfl); (case hr => first | (go_simp; done) | (go_simp; rfl) | rfl); (case hF => exact ⟨below_alloc (Below.refl _ _) _, SeenMap.made _, Nat.le_refl _⟩); intro bm w5 h5; have R5 : Aside0 (RI w w5 gb bm #[.slice A0_0 l0_0.length c0_0, .slice A0_1 l0_1.length c0_1] (fun _ => True) u0 v0 [a1] [[]] []) := ⟨⟨below_then B4.out.1 B4.out.1.size h5.1, blk_below B4.out.2.1 h5.1, B4.out.2.2, Kd.R_below U4.out h5.1, Kd.R_below V4.out h5.1, h5.2.1, Nat.le_trans B4.out.1.size h5.2.2⟩⟩; clear h5 B4 U4 V4 B3 B2 B1)
    | (refine hand_seen rfl (.tmp 16) (.tmp 17) (.inr rfl) rfl a1 rfl R5.out.seen HWF.out (by decide) ?_; intro w6 hs6 hg6; have R6 := Aside0.mk (R5.out.put hs6 hg6); clear hs6 hg6 R5))
  go_loopg [6, 7, 9] k (fun gg v6 v7 v9 wr => ∃ (xs : List Int) (vs : List (List Int)) (i : Nat), v9 = .int .i64 (i : Int) ∧ Aside0 (impl_reachedSets.l0 gg xs vs i l0_0 l0_1 = some (r1, r2)) ∧ Aside0 (RI w wr gb bm #[.slice A0_0 l0_0.length c0_0, .slice A0_1 l0_1.length c0_1] (fun _ => True) v6 v7 xs vs xs))
  case atStart => exact ⟨[a1], [[]], 0, rfl, HH, R6⟩
  case round =>
  clear HH R6
  obtain ⟨xs, vs, i, rfl, HL, HI⟩ := hrel
  cases gk with
  | zero => exact absurd HL.out (by simp [impl_reachedSets.l0])
  | succ k1 =>
    have H := HL.out
    clear HL
    simp only [impl_reachedSets.l0] at H
    obtain ⟨Au, cu, eu⟩ := Kd.R_slice HI.out.sets
    subst eu
    obtain ⟨Av, cv, ev⟩ := Kd.R_slice HI.out.ways
    subst ev
    by_cases hi : i < xs.length
    · rw [if_pos hi] at H
      have hib : decide (i < xs.length) = true := decide_eq_true hi
      have hz0 : wr.cell? ⟨gb, 0, none⟩ = some (.slice A0_0 l0_0.length c0_0) := HI.out.cells 0 _ rfl
      have HX := Aside0.mk H
      have HIX := Aside0.mk hi
      clear H hi
      go_wp2_with fail
      go_loopg [6, 7, 28] k1 (fun kq v6 v7 v28 ws => ∃ (xs2 : List Int) (vs2 : List (List Int)) (j : Nat), v28 = .int .i64 (j : Int) ∧ Aside0 (impl_reachedSets.l1 kq xs2 vs2 i j l0_0 l0_1 = some (r1, r2)) ∧ Aside0 (kq ≤ k1) ∧ Aside0 (i < xs2.length) ∧ Aside0 (RI w ws gb bm #[.slice A0_0 l0_0.length c0_0, .slice A0_1 l0_1.length c0_1] (fun _ => True) v6 v7 xs2 vs2 xs2))
      case atStart => exact ⟨xs, vs, 0, rfl, HX, ⟨Nat.le_refl _⟩, HIX, HI⟩
      case round =>
      clear HX HI hz0 hib HIX
      obtain ⟨xs2, vs2, j, rfl, HL, HK, HII, HI⟩ := hrel
      cases gk with
      | zero => exact absurd HL.out (by simp [impl_reachedSets.l1])
      | succ k2 =>
        have H := HL.out
        clear HL
        simp only [impl_reachedSets.l1] at H
        obtain ⟨Au2, cu2, eu⟩ := Kd.R_slice HI.out.sets
        subst eu
        obtain ⟨Av2, cv2, ev⟩ := Kd.R_slice HI.out.ways
        subst ev
        by_cases hj : j < l0_0.length
        rotate_left
        · rw [if_neg hj] at H
          have hjb : decide (j < l0_0.length) = false := decide_eq_false hj
          have HX := Aside0.mk H
          have hmx := Kd.C_max (Kd.R_reads' HI.out.sets).2.2
          have h9 : (i : Int) + 1 ≤ 9223372036854775807 := by have := HII.out; omega
          clear H hj
          go_wp2_with fail
          go_roundg k2
          case measure => have := HK.out; omega
          case rel => exact ⟨xs2, vs2, i + 1, by go_num, HX, HI⟩
        rw [if_pos hj] at H
        by_cases hw2 : (Lit.int .i64 (nextS xs2 i j)).wf = true ∧ i < xs2.length
        rotate_left
        · rw [if_neg hw2] at H; exact absurd H (by simp)
        rw [if_pos hw2] at H
        obtain ⟨hnw, hi⟩ := hw2
        have hpos : 0 < xs2.length := Nat.lt_of_le_of_lt (Nat.zero_le _) hi
        obtain ⟨g, c3, eg⟩ : ∃ g c3, Value.slice Au2 xs2.length cu2 = .slice (some ⟨g, 0, none⟩) xs2.length c3 := own_some (nums_of_R HI.out.sets) hpos
        clear hpos
        injection eg with eg1 _ eg2
        subst eg1
        subst eg2
        have hjb : decide (j < l0_0.length) = true := decide_eq_true hj
        have hib : decide (i < xs2.length) = true := decide_eq_true hi
        have hj0 : (0 ≤ (j : Int)) = True := eq_true (by omega)
        have hi0 : (0 ≤ (i : Int)) = True := eq_true (by omega)
        have hib2 : (i < xs2.length) = True := eq_true hi
        obtain ⟨nx, hnx⟩ : ∃ nx, nextS xs2 i j = nx := ⟨_, rfl⟩
        rw [hnx] at H hnw
        have hsh : shl .i64 1 (j : Int) = wrap64 (2 ^ min j 64) := by unfold shl; rw [Int.toNat_natCast, Int.one_mul, i64_w]; rfl
        have hnx2 : Go.bits .xor .i64 (rd xs2 (i : Int)) (wrap64 (2 ^ min j 64)) = nx := by rw [← hsh]; exact hnx
        clear hsh
        have HX := Aside0.mk H
        have HN := Aside0.mk hnw
        have HNX := Aside0.mk hnx2
        have HJ := Aside0.mk hj
        have HIJ := Aside0.mk hi
        clear H hnw hnx hnx2 hj hi
        go_upto_region 10 with fail
        have HD := Aside0.mk (HI.out.step (below_drew (Below.refl _ _)))
        clear HI
        refine start_ (n := 8) (S := fun w' => w'.cell? ⟨g, i, none⟩ = some (.int .i64 (rd xs2 (i : Int)))) (ds := []) #[false, false, false, false, false, false, false, false] (by kernel_rfl) rfl rfl (HD.out.cell_i i HIJ.out) (fun hHeld => ?_); refine with_tabW rs.tab10 rs.bits10 (fun HT_ HW_ => ?_)
        generalize wr.drew = w1 at HD hHeld ⊢
        refine pu (i := 0) (N := some 31) #[true, false, false, false, false, false, false, false] HT_ ?_
        refine pu (i := 1) (N := some 32) #[true, true, false, false, false, false, false, false] HT_ ?_
        refine pu (i := 2) (N := some 33) #[true, true, true, false, false, false, false, false] HT_ ?_
        refine pu (i := 4) (N := some 35) #[true, true, true, false, true, false, false, false] HT_ ?_
        refine pu (i := 5) (N := some 36) #[true, true, true, false, true, true, false, false] HT_ ?_
        refine take_ (i := 3) (N := some 34) (v := ?_) (a' := ?_) #[true, true, true, true, true, true, false, false] rfl rfl (take_ofW HT_.out HW_.out (by kernel_rfl)) (fun _ _ _ h => h) (Or.inl ⟨by rfl, ?_⟩) hHeld ?_ ?_
        rotate_left
        · rintro w' s0
          go_simp
          with_reducible rfl
        rotate_left
        · simp only [Act.put, List.setIfInBounds_toArray, List.set_cons_zero, List.set_cons_succ, i64_w, i32_w]
          rfl
        refine pu (i := 6) (N := some 37) #[true, true, true, true, true, true, true, false] HT_ ?_
        refine pu (i := 7) (N := some 11) #[true, true, true, true, true, true, true, true] HT_ ?_
        refine done_ (done_of HT_.out (by kernel_rfl)) ?_
        rw [HNX.out]
        clear HNX hj0
        go_upto_region 11 with fail
        have HE := Aside0.mk (HD.out.step (below_drew (Below.refl _ _)))
        clear HD
        by_cases hsn : xs2.contains nx = true
        · have H := HX.out
          rw [if_pos hsn] at H
          have look : ∀ W : World, SeenMap W bm xs2 → (Instr.lookup 88 (.map (some bm)) (.int .i64 nx) false).run Try.prog W = .ok (.bool true) W := fun W h => by rw [h.look HN.out, hsn]
          have h8 : (j : Int) + 1 ≤ 9223372036854775807 := by have := HJ.out; omega
          have HY := Aside0.mk H
          clear H HX
          refine start_ (n := 13) (S := fun w' => (Instr.lookup 88 (.map (some bm)) (.int .i64 nx) false).run Try.prog w' = .ok (.bool true) w' ∧ w'.cell? ⟨gb, 0, none⟩ = some (.slice A0_0 l0_0.length c0_0) ∧ w'.cell? ⟨gb, 1, none⟩ = some (.slice A0_1 l0_1.length c0_1) ∧ w'.cell? ⟨g, i, none⟩ = some (.int .i64 (rd xs2 (i : Int)))) (ds := []) #[false, false, false, false, false, false, false, false, false, false, false, false, false] (by kernel_rfl) rfl rfl ⟨look _ HE.out.seen, HE.out.cells 0 _ rfl, HE.out.cells 1 _ rfl, HE.out.cell_i i HIJ.out⟩ (fun hHeld => ?_); refine with_tabW rs.tab11 rs.bits11 (fun HT_ HW_ => ?_)
          generalize w1.drew = w2 at HE hHeld ⊢
          refine pu (i := 0) (N := some 38) #[true, false, false, false, false, false, false, false, false, false, false, false, false] HT_ ?_
          refine pu (i := 1) (N := some 39) #[true, true, false, false, false, false, false, false, false, false, false, false, false] HT_ ?_
          refine take_ (i := 2) (N := some 40) (v := ?_) (a' := ?_) #[true, true, true, false, false, false, false, false, false, false, false, false, false] rfl rfl (take_ofW HT_.out HW_.out (by kernel_rfl)) (fun _ _ _ h => h) (Or.inl ⟨by rfl, ?_⟩) hHeld ?_ ?_
          rotate_left
          · rintro w' ⟨s0, s1, s2, s3⟩
            go_simp
            with_reducible rfl
          rotate_left
          · simp only [Act.put, List.setIfInBounds_toArray, List.set_cons_zero, List.set_cons_succ, i64_w, i32_w]
            rfl
          refine pu (i := 3) (N := some 41) #[true, true, true, true, false, false, false, false, false, false, false, false, false] HT_ ?_
          refine pn (i := 4) (N := some 42) #[true, true, true, true, true, false, false, false, false, false, false, false, false] HT_ ?_
          refine pn (i := 5) (N := some 43) #[true, true, true, true, true, true, false, false, false, false, false, false, false] HT_ ?_
          refine pn (i := 6) (N := some 44) #[true, true, true, true, true, true, true, false, false, false, false, false, false] HT_ ?_
          refine pn (i := 7) (N := some 45) #[true, true, true, true, true, true, true, true, false, false, false, false, false] HT_ ?_
          refine pn (i := 8) (N := some 46) #[true, true, true, true, true, true, true, true, true, false, false, false, false] HT_ ?_
          refine pn (i := 9) (N := some 47) #[true, true, true, true, true, true, true, true, true, true, false, false, false] HT_ ?_
          refine pn (i := 10) (N := some 48) #[true, true, true, true, true, true, true, true, true, true, true, false, false] HT_ ?_
          refine pn (i := 11) (N := some 49) #[true, true, true, true, true, true, true, true, true, true, true, true, false] HT_ ?_
          refine pu (i := 12) (N := some 50) #[true, true, true, true, true, true, true, true, true, true, true, true, true] HT_ ?_
          refine done_ (done_of HT_.out (by kernel_rfl)) ?_
          go_wp2_with fail
          go_roundg k2
          case measure => have := HK.out; omega
          case rel => exact ⟨xs2, vs2, j + 1, by go_num, HY, ⟨by have := HK.out; omega⟩, HII, HE⟩
        have hsf : xs2.contains nx = false := by simpa using hsn
        have look : ∀ W : World, SeenMap W bm xs2 → (Instr.lookup 88 (.map (some bm)) (.int .i64 nx) false).run Try.prog W = .ok (.bool false) W := fun W h => by rw [h.look HN.out, hsf]
        have h8 : (j : Int) + 1 ≤ 9223372036854775807 := by have := HJ.out; omega
        have H := HX.out
        rw [if_neg hsn] at H
        replace H := Option.bind_eq_some_iff.mp H
        obtain ⟨c, ac, H⟩ := H
        have AC := Aside0.mk ac
        have HY := Aside0.mk H
        clear H HX ac hsn
        refine start_ (n := 13) (S := fun w' => (Instr.lookup 88 (.map (some bm)) (.int .i64 nx) false).run Try.prog w' = .ok (.bool false) w' ∧ w'.cell? ⟨gb, 0, none⟩ = some (.slice A0_0 l0_0.length c0_0) ∧ w'.cell? ⟨gb, 1, none⟩ = some (.slice A0_1 l0_1.length c0_1) ∧ w'.cell? ⟨g, i, none⟩ = some (.int .i64 (rd xs2 (i : Int)))) (ds := []) #[false, false, false, false, false, false, false, false, false, false, false, false, false] (by kernel_rfl) rfl rfl ⟨look _ HE.out.seen, HE.out.cells 0 _ rfl, HE.out.cells 1 _ rfl, HE.out.cell_i i HIJ.out⟩ (fun hHeld => ?_); refine with_tabW rs.tab11 rs.bits11 (fun HT_ HW_ => ?_)
        generalize w1.drew = w2 at HE hHeld ⊢
        refine pu (i := 0) (N := some 38) #[true, false, false, false, false, false, false, false, false, false, false, false, false] HT_ ?_
        refine pu (i := 1) (N := some 39) #[true, true, false, false, false, false, false, false, false, false, false, false, false] HT_ ?_
        refine take_ (i := 2) (N := some 40) (v := ?_) (a' := ?_) #[true, true, true, false, false, false, false, false, false, false, false, false, false] rfl rfl (take_ofW HT_.out HW_.out (by kernel_rfl)) (fun _ _ _ h => h) (Or.inl ⟨by rfl, ?_⟩) hHeld ?_ ?_
        rotate_left
        · rintro w' ⟨s0, s1, s2, s3⟩
          go_simp
          with_reducible rfl
        rotate_left
        · simp only [Act.put, List.setIfInBounds_toArray, List.set_cons_zero, List.set_cons_succ, i64_w, i32_w]
          rfl
        refine pu (i := 3) (N := some 41) #[true, true, true, true, false, false, false, false, false, false, false, false, false] HT_ ?_
        refine pu (i := 5) (N := some 43) #[true, true, true, true, false, true, false, false, false, false, false, false, false] HT_ ?_
        refine pu (i := 6) (N := some 44) #[true, true, true, true, false, true, true, false, false, false, false, false, false] HT_ ?_
        refine pu (i := 7) (N := some 45) #[true, true, true, true, false, true, true, true, false, false, false, false, false] HT_ ?_
        refine pu (i := 9) (N := some 47) #[true, true, true, true, false, true, true, true, false, true, false, false, false] HT_ ?_
        refine take_ (i := 4) (N := some 42) (v := ?_) (a' := ?_) #[true, true, true, true, true, true, true, true, false, true, false, false, false] rfl rfl (take_ofW HT_.out HW_.out (by kernel_rfl)) (fun _ _ _ h => h) (Or.inl ⟨by rfl, ?_⟩) hHeld ?_ ?_
        rotate_left
        · rintro w' ⟨s0, s1, s2, s3⟩
          go_simp
          with_reducible rfl
        rotate_left
        · simp only [Act.put, List.setIfInBounds_toArray, List.set_cons_zero, List.set_cons_succ, i64_w, i32_w]
          rfl
        refine take_ (i := 8) (N := some 46) (v := ?_) (a' := ?_) #[true, true, true, true, true, true, true, true, true, true, false, false, false] rfl rfl (take_ofW HT_.out HW_.out (by kernel_rfl)) (fun _ _ _ h => h) (Or.inl ⟨by rfl, ?_⟩) hHeld ?_ ?_
        rotate_left
        · rintro w' ⟨s0, s1, s2, s3⟩
          go_simp
          with_reducible rfl
        rotate_left
        · simp only [Act.put, List.setIfInBounds_toArray, List.set_cons_zero, List.set_cons_succ, i64_w, i32_w]
          rfl
        refine one_ (i := 10) (N := (some 48)) #[true, true, true, true, true, true, true, true, true, true, true, false, false] rfl rfl (one_of HT_.out (by kernel_rfl)) (by decide) (fun K hK => ?_)
        refine goes_ Try.func66 (by kernel_rfl) rfl #[.agg #[.slice A0_0 l0_0.length c0_0, .slice A0_1 l0_1.length c0_1], .int .i64 (rd xs2 (i : Int)), .int .i64 (j : Int)] (by rfl) rfl rfl ln_ ?_
        refine (impl_changeCode.calls k2 _ _ l0_0 _ _ l0_1 (rd xs2 (i : Int)) (j : Int) c _ (Kd.C_below HR0_0.out HE.out.below) HC0_0.out (Kd.C_below HR0_1.out HE.out.below) HC0_1.out AC.out).mono ?_
        rintro e w3 ⟨rfl, hb⟩
        refine ⟨_, rfl, ?_⟩
        have HF := Aside0.mk (HE.out.step hb)
        clear hb HE
        refine hK.out _ _ ⟨look _ HF.out.seen, HF.out.cells 0 _ rfl, HF.out.cells 1 _ rfl, HF.out.cell_i i HIJ.out⟩ (fun hHeld => ?_)
        clear hK K
        refine norm_ (a' := ?_) ?_ ?_
        rotate_left
        · show Act.put _ (some 48) _ = _
          simp only [Act.put, List.setIfInBounds_toArray, List.set_cons_zero, List.set_cons_succ, i64_w, i32_w]
          rfl
        refine pu (i := 11) (N := some 49) #[true, true, true, true, true, true, true, true, true, true, true, true, false] HT_ ?_
        refine pu (i := 12) (N := some 50) #[true, true, true, true, true, true, true, true, true, true, true, true, true] HT_ ?_
        refine done_ (done_of HT_.out (by kernel_rfl)) ?_
        have H := HY.out
        clear HY
        by_cases hc0 : c = 0
        rotate_left
        · rw [if_neg hc0] at H
          have HY := Aside0.mk H
          have hcb : (c != 0) = true := bne_iff_ne.mpr hc0
          clear H
          try rw [hcb]
          go_wp2_with fail
          go_roundg k2
          case measure => have := HK.out; omega
          case rel => exact ⟨xs2, vs2, j + 1, by go_num, HY, ⟨by have := HK.out; omega⟩, HII, HF⟩
        rw [if_pos hc0] at H
        have hcb : (c != 0) = false := by rw [hc0]; rfl
        try rw [hcb]
        by_cases hsz : xs2.length < 1048576 ∧ vs2.length < 1048576 ∧ (rd_L1 vs2 (i : Int)).length < 1048576 ∧ i < vs2.length
        rotate_left
        · rw [if_neg hsz] at H; exact absurd H (by simp)
        rw [if_pos hsz] at H
        have HY := Aside0.mk H
        have HSZ := Aside0.mk hsz
        clear H hsz look hsf hc0 h8
        go_wp2_with (first
          | (refine hand_seen rfl (.tmp 51) (.tmp 52) (.inl rfl) rfl nx rfl HF.out.seen HN.out HSZ.out.1 ?_; intro w4 hs hg; have H4 := Aside0.mk (HF.out.put hs hg); clear hs hg HF)
          | ((with_reducible refine gate_builtin (b := .append) (xs := #[.tmp 53, .tmp 55]) rfl ?_); at_builtin; refine Kd.R_append kI (w0 := w) w.heap.size rfl (.tmp 53) (.tmp 55) 73 3 (.int .i64 0) 8 rfl Try.underlying73 info3 rfl (by decide) (by omega) _ xs2 nx [.int .i64 nx] (fun _ => True) (fun _ => False) rfl rfl rfl (fun _ hk => hk.elim) (fun _ _ => trivial) H4.out.sets H4.out.below H4.out.below.size (by have := HSZ.out.1; omega) ?_; intro u5 w5 ho hb hg hat; obtain ⟨Au5, cu5, eu5⟩ := Kd.R_slice ho; subst eu5; have H5 := Aside0.mk (H4.out.app_sets ho hg).bound; clear ho hb hg hat H4)
          | ((with_reducible refine gate_dst (N := 58) rfl ?_); refine Kd.R_lit kI _ 2 ?hg (N := 58) ?hd (xs := ([] : List Int)) (inner := []) (ok := fun _ => True) (okp := fun _ => True) ?hr ?hp (fun _ hk => hk) trivial (Below.refl _ _) (Nat.le_refl _) (by simp) ?_; (case hd => rfl); (case hg => rfl); (case hr => first | (go_simp; done) | (go_simp; rfl)); (case hp => exact (Reps.none _ _)); intro z0 w6 ho hb hg_ hn_; clear hg_ hn_; obtain ⟨Az6, cz6, ez⟩ := Kd.R_slice ho; subst ez; have H6 := Aside0.mk (H5.out.step hb); have Z6 := Aside0.mk ho; have N6 := Aside0.mk hb.size; obtain ⟨ad, Ai, ci, ead, hcell, hlen, hC⟩ := at_L1 (Kd.R_reads' H6.out.ways).2.2 (i : Int) (by omega) (by have := HSZ.out.2.2.2; omega); rw [Int.toNat_natCast] at hcell; subst ead; have hiv : (i < vs2.length) = True := eq_true HSZ.out.2.2.2; have HC6 := Aside0.mk hC; clear hC hlen ho hb)
          | ((with_reducible refine gate_builtin (b := .append) (xs := #[.tmp 58, .tmp 62]) rfl ?_); at_builtin; refine Kd.R_append_rows kI (w0 := w6) w5.heap.size rfl (.tmp 58) (.tmp 62) 22 2 (.int .i64 0) 8 rfl Try.underlying22 info2 rfl (by decide) (by omega) _ ([] : List Int) (rd_L1 vs2 (i : Int)) _ _ _ (fun _ => True) (fun _ => False) rfl rfl Z6.out HC6.out (fun _ _ h => h) (fun _ h => h.elim) (fun _ _ => trivial) (Below.refl _ _) N6.out (by have := HSZ.out.2.2.1; simp only [List.length_nil]; omega) ?_; intro z1 w7 ho hb hg hat; rw [List.nil_append] at ho; obtain ⟨Az7, cz7, ez⟩ := Kd.R_slice ho; subst ez; have H7 := Aside0.mk (H6.out.fresh H5.out.below.size Z6.out hg); have Z7 := Aside0.mk ho; have N7 := Aside0.mk (Nat.le_trans N6.out hg.size); clear ho hb hg hat H6 Z6 HC6 hcell)
          | ((with_reducible refine gate_builtin (b := .append) (xs := #[.tmp 63, .tmp 65]) rfl ?_); at_builtin; refine Kd.R_append kI (w0 := w7) w5.heap.size rfl (.tmp 63) (.tmp 65) 22 2 (.int .i64 0) 8 rfl Try.underlying22 info2 rfl (by decide) (by omega) _ (rd_L1 vs2 (i : Int)) (j : Int) [.int .i64 (j : Int)] (fun _ => True) (fun _ => False) rfl rfl rfl (fun _ hk => hk.elim) (fun _ _ => trivial) Z7.out (Below.refl _ _) N7.out (by have := HSZ.out.2.2.1; omega) ?_; intro z2 w8 ho hb hg hat; obtain ⟨Az8, cz8, ez⟩ := Kd.R_slice ho; subst ez; have H8 := Aside0.mk (H7.out.fresh H5.out.below.size Z7.out hg); rw [List.length_append, List.length_singleton] at ho; have Z8 := Aside0.mk ho; clear ho hb hg hat H7 Z7)
          | ((with_reducible refine gate_builtin (b := .append) (xs := #[.tmp 57, .tmp 67]) rfl ?_); at_builtin; refine Kd.R_append kL (w0 := w) w.heap.size rfl (.tmp 57) (.tmp 67) 23 22 (.slice none 0 0) 24 rfl Try.underlying23 info22 rfl (by decide) (by omega) (.slice (some ad) vs2.length cv2) vs2 (rd_L1 vs2 (i : Int) ++ [(j : Int)]) [.slice Az8 ((rd_L1 vs2 (i : Int)).length + 1) cz8] (fun _ => True) (fun k => w5.heap.size ≤ k) rfl rfl ⟨_, rfl, Kd.R_lower (R_ge_of Z8.out) H5.out.below.size⟩ (fun k hk => ⟨trivial, fun e => by have := H5.out.ways.1 k e.symm; omega⟩) (fun _ _ => trivial) H8.out.open_.ways H8.out.below H8.out.below.size (by have := HSZ.out.2.1; omega) ?_; intro v9 w9 ho hb hg hat; have H9 := Aside0.mk (H8.out.app_ways ho hg); clear ho hb hg hat H8 Z8))
        have h8 : (j : Int) + 1 ≤ 9223372036854775807 := by have := HJ.out; omega
        go_roundg k2
        case measure => have := HK.out; omega
        case rel => exact ⟨xs2 ++ [nx], vs2 ++ [rd_L1 vs2 (i : Int) ++ [(j : Int)]], j + 1, by rw [show wrap64 ((j : Int) + 1) = ((j + 1 : Nat) : Int) by unfold wrap64; omega], HY, ⟨by have := HK.out; omega⟩, ⟨by rw [List.length_append]; have := HII.out; omega⟩, ⟨by have h := H9.out; simp only [List.length_append, List.length_singleton] at h; exact h⟩⟩
    · rw [if_neg hi] at H
      have hib : decide (i < xs.length) = false := decide_eq_false hi
      simp only [Option.some.injEq, Prod.mk.injEq] at H
      obtain ⟨rfl, rfl⟩ := H
      clear hi
      go_wp2_with fail
      go_ret2
      exact ⟨_, _, rfl, HI.out.sets, HI.out.ways, HI.out.below⟩
/-- The box of the deck inside. -/
structure DI (w W : World) (gb : Nat) (cs : Array Value) : Prop where
  below : Below w.heap.size w W
  box : W.heap[gb]? = some (.cells cs 28 (0, 0))
  ge : w.heap.size ≤ gb
theorem DI.lt {w W : World} {gb : Nat} {cs : Array Value} (h : DI w W gb cs) : gb < W.heap.size := blk_lt h.box
theorem DI.step {w W W' : World} {gb : Nat} {cs : Array Value} (h : DI w W gb cs) (hb : Below W.heap.size W W') : DI w W' gb cs :=
  ⟨below_then h.below h.below.size hb, blk_below h.box hb, h.ge⟩
theorem DI.grown {w W W' : World} {gb : Nat} {cs : Array Value} {row : Option Nat} (h : DI w W gb cs) (hg : W.grownBy W' row) (hr : ∀ k, row = some k → w.heap.size ≤ k) (hne : some gb ≠ row) : DI w W' gb cs :=
  ⟨h.below.grown hg h.below.size hr, (hg.block gb h.lt hne).trans h.box, h.ge⟩


end Go.Proofs.Ytfkiamccipoioaa.P
end

section
-- Written by gprint.py (own program, over the printer of the kit) out of the translation. Lean checks it.
namespace Go.Proofs.Ytfkiamccipoioaa.P
open Go.RowKit Go.Proofs.YtfkiamccipoioaaW.PrintWords Go.Proofs.YtfkiamccipoioaaW.PrintLast Go.Proofs.YtfkiamccipoioaaW.PrintMore Go.Proofs.YtfkiamccipoioaaW.Pk
open Bool renaming true → T_, false → F_
open List renaming setIfInBounds_toArray → sT_, set_cons_zero → s0_, set_cons_succ → sS_
attribute [local go_sem] max2_int min2_int max_two min_two max_three min_three max_four min_four   -- for this text's walks alone
set_option linter.unusedVariables false
set_option linter.unusedSimpArgs false

/-! ### impl_ReachedStates: function 38 -/
-- (by hand)
open Go.Proofs.YtfkiamccipoioaaW.Hand
def rd38.T4 : Bool × List (List Nat × List Nat) := (true, [([], []), ([], []), ([1], [1]), ([0, 2, 2], [0, 2]), ([3], [3]), ([4], [4]), ([4], [4]), ([5, 3, 0, 1, 2, 3, 4, 5], [5]), ([6, 7, 0, 1, 2, 3, 4, 5, 6, 7], [6])])
def rd38.B4 : List Nat := [0, 0, 2, 7, 15, 31, 31, 63, 255]
theorem rd38.tab4 : rtab .any (opsOf Try.f38 4) = rd38.T4 := by kernel_rfl
theorem rd38.bits4 : waitsOk rd38.T4.2 rd38.B4 = true := by kernel_rfl
def impl_ReachedStates.f (k : Nat) (l0_0 : List Int) (l0_1 : List (List Int)) (a1 : ByteArray) : Option (Int × Int) := (impl_deckCode.f k l0_0 l0_1 [a1]).bind fun c => if c = 0 then (impl_setOf.f k a1).bind fun s1 => (impl_reachedSets.f k l0_0 l0_1 s1).bind fun r => some ((r.1.length : Int), 0) else some (0, c)
set_option maxRecDepth 100000 in
set_option maxHeartbeats 8000000 in
theorem impl_ReachedStates.calls (k : Nat) (A0_0 : Option Addr) (c0_0 : Nat) (l0_0 : List Int) (A0_1 : Option Addr) (c0_1 : Nat) (l0_1 : List (List Int)) (a1 : ByteArray) (r1 : Int) (r2 : Int) (w : World) (hr0_0 : Kd.C (Kd.int .i64) w A0_0 l0_0.length l0_0) (hc0_0 : l0_0.length ≤ c0_0) (hr0_1 : Kd.C (Kd.slice 2 (Kd.int .i64)) w A0_1 l0_1.length l0_1) (hc0_1 : l0_1.length ≤ c0_1) (h : impl_ReachedStates.f k l0_0 l0_1 a1 = some (r1, r2)) :
  Calls Try.prog 38 #[.agg #[.slice A0_0 l0_0.length c0_0, .slice A0_1 l0_1.length c0_1], .string a1] w fun e w' => e = .returned (.tuple #[.int .i64 r1, .int .i64 r2]) ∧ Below w.heap.size w w' := by
 have hu28 := Try.underlying28
 have HR0_0 := Aside0.mk hr0_0
 have HC0_0 := Aside0.mk hc0_0
 have HR0_1 := Aside0.mk hr0_1
 have HC0_1 := Aside0.mk hc0_1
 clear hr0_0 hc0_0 hr0_1 hc0_1
 unfold impl_ReachedStates.f at h
 replace h := Option.bind_eq_some_iff.mp h
 obtain ⟨c, ac, h⟩ := h
 have AC := Aside0.mk ac
 clear ac
 by_cases hc : c = 0
 rotate_left
 ·rw [if_neg hc] at h
  simp only [Option.some.injEq, Prod.mk.injEq] at h
  obtain ⟨rfl, rfl⟩ := h
  have hcb : (c != 0) = true := bne_iff_ne.mpr hc
  clear hc
  go_enter Try.func38, Try.ntmps38
  go_wp2_with (first
  | ((with_reducible refine gate_dst (N := 2) rfl ?_); refine box_event ?hg (N := 2) ?hd (cs := #[.slice A0_0 l0_0.length c0_0, .slice A0_1 l0_1.length c0_1]) (t := 28) ?hr ?_; (case hd => rfl); (case hg => rfl); (case hr => first | (go_simp; done) | (go_simp; rfl)); intro gb hg w1 hbox hb; have M1 : Aside0 (DI w w1 gb #[.slice A0_0 l0_0.length c0_0, .slice A0_1 l0_1.length c0_1]) := ⟨⟨hb, hbox, by rw [hg]; exact Nat.le_refl _⟩⟩; clear hb hbox hg; have hzgb_0 : w1.cell? ⟨gb, 0, none⟩ = some (.slice A0_0 l0_0.length c0_0) := (blk_cell M1.out.box 0).trans rfl; have hzgb_1 : w1.cell? ⟨gb, 1, none⟩ = some (.slice A0_1 l0_1.length c0_1) := (blk_cell M1.out.box 1).trans rfl)
  | ((with_reducible refine gate_dst (N := 11) rfl ?_); refine Kd.R_lit Kd.string _ 9 ?hg (N := 11) ?hd (xs := ([a1] : List ByteArray)) (inner := [.string a1]) (ok := fun _ => True) (okp := fun _ => True) ?hr ?hp (fun _ hk => hk) trivial (Below.refl _ _) (Nat.le_refl _) (by simp) ?_; (case hd => rfl); (case hg => rfl); (case hr => first | (go_simp; done) | (go_simp; rfl)); (case hp => exact (Reps.one (show Kd.M Kd.string _ _ _ a1 [.string a1] from rfl) (Reps.none _ _))); intro u w2 ho hb hg_ hn_; clear hg_ hn_; obtain ⟨Au, cu, eu⟩ := Kd.R_slice ho; subst eu; have M2 := Aside0.mk (M1.out.step hb); have UU := Aside0.mk ho; clear ho hb hzgb_0 hzgb_1)
  | ((with_reducible refine gate_callee (f := 58) rfl ?_); refine goesL_ (some 12) rfl rfl Try.func58 (by kernel_rfl) rfl #[.agg #[.slice A0_0 l0_0.length c0_0, .slice A0_1 l0_1.length c0_1], .slice Au 1 cu] rfl ln_ ?_; refine (impl_deckCode.calls k _ _ l0_0 _ _ l0_1 _ _ [a1] c _ (Kd.C_below HR0_0.out M2.out.below) HC0_0.out (Kd.C_below HR0_1.out M2.out.below) HC0_1.out (Kd.R_reads' UU.out).2.2 (Kd.R_reads' UU.out).2.1 AC.out).mono ?_; rintro e w3 ⟨rfl, hb⟩; refine ⟨_, rfl, ?_⟩; have M3 := Aside0.mk (M2.out.step hb); clear hb UU; have hzgb_0 : w3.cell? ⟨gb, 0, none⟩ = some (.slice A0_0 l0_0.length c0_0) := (blk_cell M3.out.box 0).trans rfl; have hzgb_1 : w3.cell? ⟨gb, 1, none⟩ = some (.slice A0_1 l0_1.length c0_1) := (blk_cell M3.out.box 1).trans rfl))
  go_ret2
  exact ⟨rfl, M3.out.below⟩
 rw [if_pos hc] at h
 have hcb : (c != 0) = false := by rw [hc]; rfl
 clear hc
 replace h := Option.bind_eq_some_iff.mp h
 obtain ⟨s1, as1, h⟩ := h
 have AS := Aside0.mk as1
 clear as1
 replace h := Option.bind_eq_some_iff.mp h
 obtain ⟨⟨xs, vs⟩, ax, h⟩ := h
 have AX := Aside0.mk ax
 have HH := Aside0.mk h
 clear ax h
 go_enter Try.func38, Try.ntmps38
 go_upto_region 4 with (first
  | ((with_reducible refine gate_dst (N := 2) rfl ?_); refine box_event ?hg (N := 2) ?hd (cs := #[.slice A0_0 l0_0.length c0_0, .slice A0_1 l0_1.length c0_1]) (t := 28) ?hr ?_; (case hd => rfl); (case hg => rfl); (case hr => first | (go_simp; done) | (go_simp; rfl)); intro gb hg w1 hbox hb; have M1 : Aside0 (DI w w1 gb #[.slice A0_0 l0_0.length c0_0, .slice A0_1 l0_1.length c0_1]) := ⟨⟨hb, hbox, by rw [hg]; exact Nat.le_refl _⟩⟩; clear hb hbox hg; have hzgb_0 : w1.cell? ⟨gb, 0, none⟩ = some (.slice A0_0 l0_0.length c0_0) := (blk_cell M1.out.box 0).trans rfl; have hzgb_1 : w1.cell? ⟨gb, 1, none⟩ = some (.slice A0_1 l0_1.length c0_1) := (blk_cell M1.out.box 1).trans rfl)
  | ((with_reducible refine gate_dst (N := 11) rfl ?_); refine Kd.R_lit Kd.string _ 9 ?hg (N := 11) ?hd (xs := ([a1] : List ByteArray)) (inner := [.string a1]) (ok := fun _ => True) (okp := fun _ => True) ?hr ?hp (fun _ hk => hk) trivial (Below.refl _ _) (Nat.le_refl _) (by simp) ?_; (case hd => rfl); (case hg => rfl); (case hr => first | (go_simp; done) | (go_simp; rfl)); (case hp => exact (Reps.one (show Kd.M Kd.string _ _ _ a1 [.string a1] from rfl) (Reps.none _ _))); intro u w2 ho hb hg_ hn_; clear hg_ hn_; obtain ⟨Au, cu, eu⟩ := Kd.R_slice ho; subst eu; have M2 := Aside0.mk (M1.out.step hb); have UU := Aside0.mk ho; clear ho hb hzgb_0 hzgb_1)
  | ((with_reducible refine gate_callee (f := 58) rfl ?_); refine goesL_ (some 12) rfl rfl Try.func58 (by kernel_rfl) rfl #[.agg #[.slice A0_0 l0_0.length c0_0, .slice A0_1 l0_1.length c0_1], .slice Au 1 cu] rfl ln_ ?_; refine (impl_deckCode.calls k _ _ l0_0 _ _ l0_1 _ _ [a1] c _ (Kd.C_below HR0_0.out M2.out.below) HC0_0.out (Kd.C_below HR0_1.out M2.out.below) HC0_1.out (Kd.R_reads' UU.out).2.2 (Kd.R_reads' UU.out).2.1 AC.out).mono ?_; rintro e w3 ⟨rfl, hb⟩; refine ⟨_, rfl, ?_⟩; have M3 := Aside0.mk (M2.out.step hb); clear hb UU; have hzgb_0 : w3.cell? ⟨gb, 0, none⟩ = some (.slice A0_0 l0_0.length c0_0) := (blk_cell M3.out.box 0).trans rfl; have hzgb_1 : w3.cell? ⟨gb, 1, none⟩ = some (.slice A0_1 l0_1.length c0_1) := (blk_cell M3.out.box 1).trans rfl))
 have hdr := below_drew (Below.refl w3.heap.size w3)
 have M4 := Aside0.mk (M3.out.step hdr)
 clear hdr M3 hzgb_0 hzgb_1
 refine start_ (n := 9) (S := fun w' => w'.cell? ⟨gb, 0, none⟩ = some (.slice A0_0 l0_0.length c0_0) ∧ w'.cell? ⟨gb, 1, none⟩ = some (.slice A0_1 l0_1.length c0_1)) (ds := []) #[F_,F_,F_,F_,F_,F_,F_,F_,F_] (by kernel_rfl) rfl rfl ⟨(blk_cell M4.out.box 0).trans rfl, (blk_cell M4.out.box 1).trans rfl⟩ (fun hHeld => ?_); refine with_tabW rd38.tab4 rd38.bits4 (fun HT_ HW_ => ?_)
 generalize w3.drew = w4 at M4 hHeld ⊢
 refine pu (i := 1) (N := some 18) #[F_,T_,F_,F_,F_,F_,F_,F_,F_] HT_ ?_
 refine take_ (i := 0) (N := some 17) (v := ?_) (a' := ?_) #[T_,T_,F_,F_,F_,F_,F_,F_,F_] rfl rfl (take_ofW HT_.out HW_.out (by kernel_rfl)) (fun _ _ _ h => h) (Or.inl ⟨by rfl, ?_⟩) hHeld ?_ ?_
 rotate_left
 ·rintro w' ⟨s0, s1⟩
  go_simp
  with_reducible rfl
 rotate_left
 ·simp only [Act.put, sT_, s0_, sS_, i64_w, i32_w]
  rfl
 refine one_ (i := 2) (N := (some 19)) #[T_,T_,T_,F_,F_,F_,F_,F_,F_] rfl rfl (one_of HT_.out (by kernel_rfl)) (by decide) (fun K hK => ?_)
 refine goes_ Try.func60 (by kernel_rfl) rfl #[.string a1] (by rfl) rfl rfl ln_ ?_
 refine (impl_setOf.calls k a1 s1 _ AS.out).mono ?_
 rintro e w5 ⟨rfl, hd⟩
 refine ⟨_, rfl, ?_⟩
 have hb := hd.below
 have M5 := Aside0.mk (M4.out.step hb)
 clear hb hd M4
 refine hK.out _ _ ⟨(blk_cell M5.out.box 0).trans rfl, (blk_cell M5.out.box 1).trans rfl⟩ (fun hHeld => ?_)
 clear hK K
 refine norm_ (a' := ?_) ?_ ?_
 rotate_left
 ·show Act.put _ (some 19) _ = _
  simp only [Act.put, sT_, s0_, sS_, i64_w, i32_w]
  rfl
 refine one_ (i := 3) (N := (some 20)) #[T_,T_,T_,T_,F_,F_,F_,F_,F_] rfl rfl (one_of HT_.out (by kernel_rfl)) (by decide) (fun K hK => ?_)
 refine goes_ Try.func69 (by kernel_rfl) rfl #[.agg #[.slice A0_0 l0_0.length c0_0, .slice A0_1 l0_1.length c0_1], .int .i64 s1] (by rfl) rfl rfl ln_ ?_
 refine (impl_reachedSets.calls k _ _ l0_0 _ _ l0_1 s1 xs vs _ (Kd.C_below HR0_0.out M5.out.below) HC0_0.out (Kd.C_below HR0_1.out M5.out.below) HC0_1.out AX.out).mono ?_
 rintro e w6 ⟨v0, v1, rfl, hs0, hs1, hb⟩
 refine ⟨_, rfl, ?_⟩
 have M6 := Aside0.mk (M5.out.step hb)
 have SS := Aside0.mk (Kd.R_lower hs0 M5.out.below.size)
 have WW := Aside0.mk (Kd.R_lower hs1 M5.out.below.size)
 clear hb hs0 hs1 M5
 obtain ⟨As, cs_, es⟩ := Kd.R_slice SS.out
 subst es
 obtain ⟨Aw, cw, ew⟩ := Kd.R_slice WW.out
 subst ew
 refine hK.out _ _ ⟨(blk_cell M6.out.box 0).trans rfl, (blk_cell M6.out.box 1).trans rfl⟩ (fun hHeld => ?_)
 clear hK K
 refine norm_ (a' := ?_) ?_ ?_
 rotate_left
 ·show Act.put _ (some 20) _ = _
  simp only [Act.put, sT_, s0_, sS_, i64_w, i32_w]
  rfl
 refine pu (i := 4) (N := some 16) #[T_,T_,T_,T_,T_,F_,F_,F_,F_] HT_ ?_
 refine pu (i := 5) (N := some 21) #[T_,T_,T_,T_,T_,T_,F_,F_,F_] HT_ ?_
 refine pu (i := 6) (N := some 22) #[T_,T_,T_,T_,T_,T_,T_,F_,F_] HT_ ?_
 refine pu (i := 7) (N := some 7) #[T_,T_,T_,T_,T_,T_,T_,T_,F_] HT_ ?_
 refine pu (i := 8) (N := some 8) #[T_,T_,T_,T_,T_,T_,T_,T_,T_] HT_ ?_
 refine done_ (done_of HT_.out (by kernel_rfl)) ?_
 have h := HH.out
 simp only [Option.some.injEq, Prod.mk.injEq] at h
 obtain ⟨rfl, rfl⟩ := h
 clear HH
 go_wp2_with fail
 go_ret2
 exact ⟨rfl, M6.out.below⟩
end Go.Proofs.Ytfkiamccipoioaa.P
end
