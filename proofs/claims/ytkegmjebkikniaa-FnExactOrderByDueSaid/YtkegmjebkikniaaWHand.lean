/- Words for contracts that are typed by hand: what stays behind a call that writes into blocks of some types. -/
import Derived.Test.YtkegmjebkikniaaWWords
import Derived.Test.YtkegmjebkikniaaWLast
import Derived.Test.YtkegmjebkikniaaWMore
import Derived.StillTailTactics
import Derived.Laws.EntriesVeiled
namespace Go.Proofs.YtkegmjebkikniaaW.Hand
open Go.RowKit Go.Proofs.YtkegmjebkikniaaW.PrintWords Go.Proofs.YtkegmjebkikniaaW.PrintLast Go.Proofs.YtkegmjebkikniaaW.PrintMore

/-- Blocks of other types stay. -/
def KeepsT (T : List Nat) (w w' : World) : Prop := ∀ (b : Nat) (cs : Array Value) (t : Nat), t ∉ T → w.heap[b]? = some (.cells cs t (0, 0)) → w'.heap[b]? = some (.cells cs t (0, 0))
theorem KeepsT.refl (T : List Nat) (w : World) : KeepsT T w w := fun _ _ _ _ h => h
theorem KeepsT.trans {T : List Nat} {w w1 w2 : World} (h : KeepsT T w w1) (k : KeepsT T w1 w2) : KeepsT T w w2 := fun b cs t ht hb => k b cs t ht (h b cs t ht hb)
theorem KeepsT.drew {T : List Nat} {w w1 : World} (h : KeepsT T w w1) : KeepsT T w w1.drew := h
theorem KeepsT.drewN {T : List Nat} {w w1 : World} (h : KeepsT T w w1) (n : Nat) : KeepsT T w (w1.drewN n) := h
theorem KeepsT.alloc {T : List Nat} {w w1 : World} (h : KeepsT T w w1) (o : Obj) : KeepsT T w (w1.alloc o) := fun b cs t ht hb => (Below.heap_alloc w1 o b (blk_lt (h b cs t ht hb))).trans (h b cs t ht hb)
theorem KeepsT.below {T : List Nat} {w w1 w2 : World} (h : KeepsT T w w1) (k : Below w1.heap.size w1 w2) : KeepsT T w w2 := fun b cs t ht hb => (k.block b (blk_lt (h b cs t ht hb))).trans (h b cs t ht hb)
/-- A store into a block of a listed type. -/
theorem KeepsT.set {T : List Nat} {w w1 : World} (h : KeepsT T w w1) {g : Nat} {cs0 : Array Value} {t0 : Nat} (hb0 : w1.heap[g]? = some (.cells cs0 t0 (0, 0))) (ht0 : t0 ∈ T) (j : Nat) (u : Value) : KeepsT T w (w1.setCell ⟨g, j, none⟩ u) := fun b cs t ht hb => by
  have h1 := h b cs t ht hb
  have hne : b ≠ g := fun e => by
    subst e
    rw [hb0] at h1
    injection h1 with h1
    injection h1 with _ h2
    exact ht (h2 ▸ ht0)
  exact (Below.heap_setCell w1 ⟨g, j, none⟩ u b hne).trans h1
/-- Writes to a row of a listed type. -/
theorem KeepsT.grown {T : List Nat} {w w1 w2 : World} (h : KeepsT T w w1) {base n size : Nat} {e : Nat} {v : Value} {xs : List Value} (ho : w1.ownsRow base e size v n xs) (ht0 : e ∈ T) (hg : w1.grownBy w2 v.ownBlock) : KeepsT T w w2 := fun b cs t ht hb => by
  have h1 := h b cs t ht hb
  refine (hg.block b (blk_lt h1) (fun e' => ?_)).trans h1
  obtain ⟨cells, hc⟩ := own_typed ho b e'.symm
  rw [hc] at h1
  injection h1 with h1
  injection h1 with _ h2
  exact ht (h2 ▸ ht0)
/-- A row of the call's own, cut to its first elements. -/
theorem hand_take {w : World} {base n c m : Nat} {e : TypeId} {size : Nat} {A : Option Addr} {xs : List Value} (h : w.ownsRow base e size (.slice A n c) n xs) (hm : m ≤ n) : w.ownsRow base e size (.slice A m c) m (xs.take (m * size)) := by
  obtain ⟨hl, h2⟩ := h
  have hms : m * size ≤ n * size := Nat.mul_le_mul_right _ hm
  refine ⟨by rw [List.length_take, hl]; omega, ?_⟩
  rcases h2 with ⟨h1, h0⟩ | ⟨g, cap, cur, h1, hb, hh, hn, hc, hs, ht⟩
  · injection h1 with h1 _ h3
    subst h1 h3
    have : m = 0 := by omega
    subst this
    exact .inl ⟨rfl, rfl⟩
  · injection h1 with h1 _ h3
    subst h1 h3
    refine .inr ⟨g, _, cur, rfl, hb, hh, by omega, hc, hs, ?_⟩
    rw [← ht, List.take_take, Nat.min_eq_left hms]


/-- A row of a type that is not written stays. -/
theorem own_keeps {T : List Nat} {w w' : World} {base n size : Nat} {e : TypeId} {v : Value} {xs : List Value} (h : w.ownsRow base e size v n xs) (hk : KeepsT T w w') (he : e ∉ T) : w'.ownsRow base e size v n xs := by
  obtain ⟨h1, h2⟩ := h
  refine ⟨h1, ?_⟩
  rcases h2 with h2 | ⟨g, cap, cur, rfl, hb, hh, r⟩
  · exact .inl h2
  · exact .inr ⟨g, cap, cur, rfl, hb, hk g cur e he hh, r⟩
/-- The blocks with P stay. -/
structure KeepP (P : Nat → Prop) (w w' : World) : Prop where
  os : w'.os = w.os
  tape : w'.tape = w.tape
  output : w'.output = w.output
  size : w.heap.size ≤ w'.heap.size
  block : ∀ k, k < w.heap.size → P k → w'.heap[k]? = w.heap[k]?
theorem KeepP.refl (P : Nat → Prop) (w : World) : KeepP P w w := ⟨rfl, rfl, rfl, Nat.le_refl _, fun _ _ _ => rfl⟩
theorem KeepP.of_below {P : Nat → Prop} {w w1 : World} (h : Below w.heap.size w w1) : KeepP P w w1 := ⟨h.os, h.tape, h.output, h.size, fun k hk _ => h.block k hk⟩
theorem KeepP.of_grown {w w1 : World} {row : Option Nat} (h : w.grownBy w1 row) : KeepP (fun k => some k ≠ row) w w1 := ⟨h.os, h.tape, h.output, h.size, fun k hk hp => h.block k hk hp⟩
theorem KeepP.of_set (w : World) (p : Addr) (u : Value) : KeepP (fun k => k ≠ p.block) w (w.setCell p u) := by
  have h : Below 0 w (w.setCell p u) := (Below.refl 0 w).setCell (Nat.zero_le _) u
  exact ⟨h.os, h.tape, h.output, h.size, fun k _ hp => Below.heap_setCell w p u k hp⟩
theorem KeepP.trans {P P1 P2 : Nat → Prop} {w w1 w2 : World} (h : KeepP P1 w w1) (k : KeepP P2 w1 w2) (h1 : ∀ j, j < w.heap.size → P j → P1 j) (h2 : ∀ j, j < w.heap.size → P j → P2 j) : KeepP P w w2 :=
  ⟨k.os.trans h.os, k.tape.trans h.tape, k.output.trans h.output, Nat.le_trans h.size k.size, fun j hj hp => (k.block j (Nat.lt_of_lt_of_le hj h.size) (h2 j hj hp)).trans (h.block j hj (h1 j hj hp))⟩
theorem KeepP.imp {P P1 : Nat → Prop} {w w1 : World} (h : KeepP P1 w w1) (h1 : ∀ j, j < w.heap.size → P j → P1 j) : KeepP P w w1 := ⟨h.os, h.tape, h.output, h.size, fun j hj hp => h.block j hj (h1 j hj hp)⟩
theorem KeepP.blk {P : Nat → Prop} {w w1 : World} {g : Nat} {o : Obj} (h : KeepP P w w1) (hb : w.heap[g]? = some o) (hp : P g) : w1.heap[g]? = some o := (h.block g (blk_lt hb) hp).trans hb
theorem KeepP.below {P : Nat → Prop} {w w1 : World} {base : Nat} (h : KeepP P w w1) (hb : base ≤ w.heap.size) (hp : ∀ k, k < base → P k) : Below base w w1 := ⟨h.os, h.tape, h.output, h.size, fun k hk => h.block k (Nat.lt_of_lt_of_le hk hb) (hp k hk)⟩
theorem KeepP.own {P : Nat → Prop} {w w1 : World} {base n size : Nat} {e : TypeId} {v : Value} {xs : List Value} (h : KeepP P w w1) (ho : w.ownsRow base e size v n xs) (hp : ∀ k, v.ownBlock = some k → P k) : w1.ownsRow base e size v n xs :=
  own_move ho (fun k hk => h.block k (own_lt ho k hk) (hp k hk))
theorem reps_flat {α : Type} {R : α → List Value → Prop} {size : Nat} (enc : α → List Value) (hR : ∀ x cs, R x cs → cs = enc x) : ∀ {xs : List α} {cs : List Value}, Reps R size xs cs → cs = xs.flatMap enc := by
  intro xs
  induction xs with
  | nil => intro cs h; have h1 := h.1; simp at h1; simp [h1]
  | cons x xs ih =>
    intro cs h
    obtain ⟨hl, hj⟩ := h
    have hc := hj 0 x rfl
    rw [Nat.zero_mul, List.drop_zero] at hc
    have h2 : Reps R size xs (cs.drop size) := by
      refine ⟨by rw [List.length_drop, hl, List.length_cons, Nat.add_mul]; omega, fun j p hp => ?_⟩
      have := hj (j + 1) p (by simpa using hp)
      rwa [show (j + 1) * size = size + j * size by rw [Nat.add_mul]; omega, ← List.drop_drop] at this
    rw [List.flatMap_cons, ← hR x _ hc, ← ih h2, List.take_append_drop]
theorem flat_reps {α : Type} {R : α → List Value → Prop} {size : Nat} (enc : α → List Value) (hR : ∀ x, R x (enc x)) (hs : ∀ x, (enc x).length = size) : ∀ xs : List α, Reps R size xs (xs.flatMap enc) := by
  intro xs
  induction xs with
  | nil => exact Reps.none _ _
  | cons x xs ih =>
    obtain ⟨hl, hj⟩ := ih
    refine ⟨by rw [List.flatMap_cons, List.length_append, hs, hl, List.length_cons, Nat.add_mul]; omega, fun j p hp => ?_⟩
    cases j with
    | zero =>
      obtain rfl : x = p := by simpa using hp
      rw [List.flatMap_cons, Nat.zero_mul, List.drop_zero, List.take_left' (hs x)]
      exact hR x
    | succ j =>
      have := hj j p (by simpa using hp)
      rw [List.flatMap_cons, show (j + 1) * size = size + j * size by rw [Nat.add_mul]; omega, ← List.drop_drop, List.drop_left' (hs x)]
      exact this
/-- A row of one's own whose elements hold no rows: its cells, written out; and back. -/
theorem own_of_R {α : Type} {d : Kd α} (enc : α → List Value) (hM : ∀ {w : World} {base ok x cs}, d.M w base ok x cs → cs = enc x) {e : Nat} {w : World} {base : Nat} {ok : Nat → Prop} {v : Value} {xs : List α} (h : d.R e w base ok v xs) : w.ownsRow base e d.sz v xs.length (xs.flatMap enc) := by
  obtain ⟨_, inner, ho, hr⟩ := h
  rw [← reps_flat enc (fun x cs hx => hM hx) hr]
  exact ho
theorem R_of_own {α : Type} {d : Kd α} (enc : α → List Value) (hM : ∀ (w : World) base ok x, d.M w base ok x (enc x)) {e : Nat} {w : World} {base : Nat} {ok : Nat → Prop} {v : Value} {xs : List α} (h : w.ownsRow base e d.sz v xs.length (xs.flatMap enc)) (hok : ∀ k, v.ownBlock = some k → ok k) : d.R e w base ok v xs :=
  ⟨hok, _, h, flat_reps enc (hM _ _ _) (fun x => d.K_len (d.K_of_M (hM w base ok x))) xs⟩
theorem flat_one {α : Type} (f : α → Value) (xs : List α) : (xs.flatMap fun x => [f x]) = xs.map f := by
  induction xs with
  | nil => rfl
  | cons x xs ih => simp only [List.flatMap_cons, List.map_cons, ih, List.singleton_append]
theorem nums_of_R {k : IntKind} {e : Nat} {w : World} {base : Nat} {ok : Nat → Prop} {v : Value} {xs : List Int} (h : (Kd.int k).R e w base ok v xs) : w.ownsRow base e 1 v xs.length (nums k xs) := by
  have := own_of_R (fun x => [Value.int k x]) (fun h => h) h
  rwa [flat_one] at this
theorem R_of_nums {k : IntKind} {e : Nat} {w : World} {base : Nat} {v : Value} {xs : List Int} (h : w.ownsRow base e 1 v xs.length (nums k xs)) : (Kd.int k).R e w base (fun _ => True) v xs :=
  R_of_own (d := Kd.int k) (fun x => [Value.int k x]) (fun _ _ _ _ => rfl) (by rw [flat_one]; exact h) (fun _ _ => trivial)
/-- A row of whole numbers, as it is read. -/
theorem C_of_nums {k : IntKind} {e : Nat} {w : World} {base : Nat} {A : Option Addr} {n c : Nat} {xs : List Int} (h : w.ownsRow base e 1 (.slice A n c) xs.length (nums k xs)) : (Kd.int k).C w A xs.length xs :=
  (Kd.R_reads' (R_of_nums h)).2.2

section
variable {P : Program} {ops : Array Oper} {rest : List Oper} {o : Oper} {a : Act} {Q : Exit → Act → World → Prop}
/-- A store; of the world behind it only F is told. -/
theorem hand_store {W w1 : World} {t : TypeId} {p : Tmp} {v : Operand} (F : World → Prop) (hgd : o.guard = none) (_ho : o.op = .store t (.tmp p) v) (hN : o.dst = none)
    (hrun : (execOp a.eval o).run P W = .ok .skip w1) (hF : F w1) (h : ∀ w', F w' → wpList P ops Q rest a w') : wpList P ops Q (o :: rest) a W :=
  store_event hgd _ho hN hrun (fun w' e => h w' (by rw [e]; exact hF))
/-- A block is made; of the world behind it only F is told. -/
theorem hand_box {W : World} (F : Nat → World → Prop) (hgd : o.guard = none) {N : Tmp} (_hd : o.dst = some N) {cs : Array Value} {t : TypeId}
    (hrun : (execOp a.eval o).run P W = .ok (.value (.pointer (some ⟨W.heap.size, 0, none⟩))) (W.alloc (.cells cs t (0, 0)))) (hF : F W.heap.size (W.alloc (.cells cs t (0, 0))))
    (h : ∀ g w1, F g w1 → wpList P ops Q rest (a.put o.dst (.pointer (some ⟨g, 0, none⟩))) w1) : wpList P ops Q (o :: rest) a W :=
  Kd.event_run hgd hrun (h _ _ hF)
/-- A region that draws its order: n operations that only read, then the others in their order. -/
theorem hand_tail {id : Nat} {w : World} {l : List Oper} (n : Nat) (F : World → Prop) (hm : P.follows .mixedOrders = true) (hB : Region.lexTailB .any l.toArray n = true) (hF : F w.drew)
    (h : ∀ W, F W → wpStill P l.toArray W (fun a' => wpList P l.toArray Q (l.drop n) a' W) (l.take n) a) : (Code.region id l.toArray true).wp P Q a w :=
  wp_region_still_tail n hm hB (h _ hF)
end

/-- The complete orders that begin so, compared number by number. -/
def ordersFrom (n : Nat) : Nat → List Int → List (List Int)
  | 0, o => [o]
  | m + 1, o => (List.range n).flatMap fun (i : Nat) => if (i : Int) ∈ o then [] else ordersFrom n m (o ++ [(i : Int)])
def ordersAt (n m : Nat) (o : List Int) (i : Nat) : List (List Int) := (List.range' i (n - i)).flatMap fun (i : Nat) => if (i : Int) ∈ o then [] else ordersFrom n m (o ++ [(i : Int)])
theorem ordersFrom_eq (n m : Nat) (o : List Int) : ordersFrom n (m + 1) o = ordersAt n m o 0 := by rw [ordersFrom, ordersAt, List.range_eq_range']; rfl
theorem ordersAt_end (n m : Nat) (o : List Int) (i : Nat) (h : n ≤ i) : ordersAt n m o i = [] := by rw [ordersAt, Nat.sub_eq_zero_of_le h]; rfl
theorem ordersAt_step (n m : Nat) (o : List Int) (i : Nat) (h : i < n) : ordersAt n m o i = (if (i : Int) ∈ o then [] else ordersFrom n m (o ++ [(i : Int)])) ++ ordersAt n m o (i + 1) := by
  unfold ordersAt
  obtain ⟨q, hq⟩ : ∃ q, n - i = q + 1 := ⟨n - i - 1, by omega⟩
  rw [hq, List.range'_succ, List.flatMap_cons, show n - (i + 1) = q by omega]
theorem foldlM_split {σ : Type} {f : σ → List Int → Option σ} {a b : List (List Int)} {s r : σ} (h : (a ++ b).foldlM f s = some r) : ∃ q, a.foldlM f s = some q ∧ b.foldlM f q = some r := by
  rw [List.foldlM_append] at h
  exact Option.bind_eq_some_iff.mp h

end Go.Proofs.YtkegmjebkikniaaW.Hand
