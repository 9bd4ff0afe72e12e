/- Texts of this claim, packed: Base, ToInt64, TyDeck, DeckV, Px15, DeckS, DeckM, DeckA, DeckB, Px29, DeckR. -/
import Derived.Lib.Bytes
import Derived.Laws.BitsLemmas
import Derived.Test.YtfkiamccipoioaaZFnDeckStates11
section
/- Plain words for the laws' statements over lists: an answer with enough rounds (Ev), step by step; one loop's round over a list that is told as what lies behind and what lies ahead. -/
namespace Go.Proofs.YtfkiamccipoioaaB
open Go.RowKit Go.Proofs.YtfkiamccipoioaaW.PrintWords Go.Proofs.YtfkiamccipoioaaW.PrintLast

theorem ev_pos {α : Type} {c : Prop} [Decidable c] {A B : Nat → Option α} {r : α} (h : c) (e : Ev A r) : Ev (fun k => if c then A k else B k) r := by
  simpa only [if_pos h] using e
theorem ev_neg {α : Type} {c : Prop} [Decidable c] {A B : Nat → Option α} {r : α} (h : ¬ c) (e : Ev B r) : Ev (fun k => if c then A k else B k) r := by
  simpa only [if_neg h] using e
theorem ev_ite {α : Type} {c : Prop} [Decidable c] {A B : Nat → Option α} {r : α} (h : c → Ev A r) (h2 : ¬ c → Ev B r) : Ev (fun k => if c then A k else B k) r := by
  by_cases hc : c
  · exact ev_pos hc (h hc)
  · exact ev_neg hc (h2 hc)
theorem ev_bind0 {α β : Type} {g : Option α} {f : Nat → α → Option β} {a : α} {r : β} (h : g = some a) (k : Ev (fun n => f n a) r) : Ev (fun n => g.bind (f n)) r := by
  subst h
  exact k
theorem ev_of {α : Type} {g : Nat → Option α} {a r : α} (h : Ev g a) (e : a = r) : Ev g r := e ▸ h

theorem wrap_small {i : Int} (h0 : -9223372036854775808 ≤ i) (h1 : i ≤ 9223372036854775807) : wrap64 i = i := by
  unfold wrap64
  omega
theorem wrap_next {α : Type} (p : List α) (x : α) (h : p.length ≤ 4611686018427387904) : wrap64 ((p.length : Int) + 1) = ((p ++ [x]).length : Int) := by
  rw [wrap_small (by omega) (by omega), List.length_append]
  simp
theorem getD_at {α : Type} (p : List α) (x : α) (xs : List α) (z : α) : (p ++ x :: xs).getD ((p.length : Int)).toNat z = x := by
  simp
theorem rd_mid (p : List Int) (x : Int) (xs : List Int) : rd (p ++ x :: xs) (p.length : Int) = x := by
  unfold rd
  exact getD_at p x xs 0
theorem push_mid {α : Type} (p : List α) (x : α) (xs : List α) : p ++ x :: xs = (p ++ [x]) ++ xs := by simp
theorem lt_mid {α : Type} (p : List α) (x : α) (xs : List α) : (p.length : Int) < ((p ++ x :: xs).length : Int) := by
  simp
  omega
theorem not_lt_end {α : Type} (p : List α) : ¬ (p.length : Int) < ((p ++ []).length : Int) := by simp

theorem bt_rd (s : ByteArray) (i : Int) : bt s i = rd (bytesOf s) i := by
  unfold bt rd bytesOf
  by_cases h : i.toNat < s.size
  · rw [dif_pos h]
    have h2 : i.toNat < s.data.toList.length := by rw [data_length]; exact h
    rw [List.getD_eq_getElem?_getD, List.getElem?_map, List.getElem?_eq_getElem h2]
    rfl
  · rw [dif_neg h]
    have h2 : ¬ i.toNat < s.data.toList.length := by rw [data_length]; exact h
    rw [List.getD_eq_getElem?_getD, List.getElem?_map, List.getElem?_eq_none (by omega)]
    rfl
theorem bytes_length (s : ByteArray) : (bytesOf s).length = s.size := by
  unfold bytesOf
  rw [List.length_map, data_length]
theorem bytes_inj {a b : ByteArray} (h : bytesOf a = bytesOf b) : a = b := by
  unfold bytesOf at h
  have h2 : a.data.toList = b.data.toList := by
    refine (List.map_inj_right ?_).1 h
    intro x y hxy
    exact UInt8.toNat_inj.1 (by omega)
  cases a
  cases b
  congr
  exact Array.toList_inj.1 h2
theorem toList_inj {a b : ByteArray} (h : a.toList = b.toList) : a = b := by
  rw [Lib.toList_data, Lib.toList_data] at h
  cases a
  cases b
  congr
  exact Array.toList_inj.1 h
/-- A number of 64 bits. -/
def I64 (n : Int) : Prop := -9223372036854775808 ≤ n ∧ n ≤ 9223372036854775807
section
variable {α β : Type} {P : α → Prop} {Q : β → Prop} {A B A2 B2 C : Nat → Option α}
end

end Go.Proofs.YtfkiamccipoioaaB
end

section
/- The copy of a list of whole numbers that came in. -/
namespace Go.Proofs.YtfkiamccipoioaaB
open Go.RowKit Go.Proofs.YtfkiamccipoioaaW.PrintWords Go.Proofs.YtfkiamccipoioaaW.PrintLast Go.Proofs.Ytfkiamccipoioaa.P

abbrev GoodInts (l : List Int) : Prop := l.length ≤ 1048576 ∧ ∀ x ∈ l, I64 x
end Go.Proofs.YtfkiamccipoioaaB
end

section
/- Deck: what it weighs, its copy, its comparison. -/
namespace Go.Proofs.YtfkiamccipoioaaB
open Go.RowKit Go.Proofs.YtfkiamccipoioaaW.PrintWords Go.Proofs.YtfkiamccipoioaaW.PrintLast Go.Proofs.Ytfkiamccipoioaa.P

abbrev GoodDeck (a : List Int) (b : List (List Int)) : Prop := GoodInts a ∧ b.length ≤ 1048576 ∧ ∀ r ∈ b, GoodInts r
theorem rdL_mid (p : List (List Int)) (x : List Int) (xs : List (List Int)) : rd_L1 (p ++ x :: xs) (p.length : Int) = x := by
  unfold rd_L1
  exact getD_at p x xs _
end Go.Proofs.YtfkiamccipoioaaB
end

section
/- Decks and states: whether they are valid: of both. -/
namespace Go.Proofs.YtfkiamccipoioaaB
open Go.RowKit Go.Proofs.YtfkiamccipoioaaW.PrintWords Go.Proofs.YtfkiamccipoioaaW.PrintLast Go.Proofs.Ytfkiamccipoioaa.P

theorem within_some (a lo hi : Int) : impl_within.f a lo hi = some (decide (lo ≤ a) && decide (a ≤ hi)) := by
  unfold impl_within.f
  by_cases h : a ≥ lo
  · rw [if_pos h, decide_eq_true (show lo ≤ a from h)]; rfl
  · rw [if_neg h, decide_eq_false (show ¬ lo ≤ a from h)]; rfl
def needB (m i x : Int) : Bool := (decide (-1 ≤ x) && decide (x ≤ m - 1)) && !(decide (x = i))
def needsB (m : Int) : Int → List Int → Bool
  | _, [] => true
  | i, x :: xs => needB m i x && needsB m (i + 1) xs
def ltO : Option Int → Int → Bool
  | none, _ => true
  | some y, x => decide (y < x)
def lineB (m : Int) (pv : Option Int) (x : Int) : Bool := (decide (0 ≤ x) && decide (x ≤ m - 1)) && ltO pv x
def riseB (m : Int) : Option Int → List Int → Bool
  | _, [] => true
  | pv, x :: xs => lineB m pv x && riseB m (some x) xs
def yardB (m : Int) (r : List Int) : Bool := !(decide (r.length = 0)) && riseB m none r
def deckB (n : List Int) (ys : List (List Int)) : Bool := (decide (1 ≤ (n.length : Int)) && decide ((n.length : Int) ≤ 8)) && (decide ((ys.length : Int) ≤ 5) && (needsB (n.length : Int) 0 n && ys.all (yardB (n.length : Int))))
def lastO (p : List Int) : Option Int := p.getLast?
theorem lastO_snoc (p : List Int) (x : Int) : lastO (p ++ [x]) = some x := by simp [lastO]
theorem lastO_split (p : List Int) : p = [] ∨ ∃ q y, p = q ++ [y] := by
  by_cases h : p = []
  · exact .inl h
  · exact .inr ⟨p.dropLast, p.getLast h, (List.dropLast_concat_getLast h).symm⟩
theorem impl_rise_loop (m : Int) (hm : m ≤ 1048576) (hm0 : 0 ≤ m) (ys : List (List Int)) (j : Nat) (r : List Int) (hr : r.length ≤ 1048576) {b : Bool} (hj : j ≤ 1048576) (hnext : Ev (fun k => impl_ValidDeck.l1 k m ys (ys.length : Int) ((j : Int) + 1)) b) : ∀ (xs p : List Int), r = p ++ xs → Ev (fun k => impl_ValidDeck.l2 k m r ys (ys.length : Int) (j : Int) r (r.length : Int) (p.length : Int)) (riseB m (lastO p) xs && b) := by
  intro xs
  induction xs with
  | nil =>
    intro p hp
    refine Ev.step (fun k => by rw [impl_ValidDeck.l2]) ?_
    refine ev_neg (by rw [hp, List.append_nil]; omega) ?_
    rw [wrap_small (i := (j : Int) + 1) (by omega) (by omega)]
    refine ev_of hnext ?_
    rw [riseB, Bool.true_and]
  | cons x xs ih =>
    intro p hp
    have hpl : (p.length : Int) + (xs.length + 1) = r.length := by rw [hp]; simp
    have hx : rd r (p.length : Int) = x := by rw [hp]; exact rd_mid p x xs
    have hw : wrap64 ((p.length : Int) + 1) = ((p ++ [x]).length : Int) := wrap_next p x (by omega)
    have hwm : wrap64 (m - 1) = m - 1 := wrap_small (by omega) (by omega)
    have hi := ih (p ++ [x]) (by rw [hp]; simp)
    rw [lastO_snoc] at hi
    refine Ev.step (fun k => by rw [impl_ValidDeck.l2]) ?_
    refine ev_pos (by omega) (ev_pos (by omega) (ev_pos (by omega) ?_))
    rw [hx, hw, hwm]
    refine ev_bind0 (within_some _ _ _) (ev_ite (fun h => ?_) (fun h => ?_))
    · rcases lastO_split p with rfl | ⟨q, y, rfl⟩
      · refine ev_neg (by simp) (ev_of hi ?_)
        rw [riseB, lineB, h]
        rfl
      · have hw2 : wrap64 (((q ++ [y]).length : Int) - 1) = (q.length : Int) := (wrap_small (by omega) (by omega)).trans (by simp)
        have hy : rd r (q.length : Int) = y := by rw [hp, List.append_assoc]; exact rd_mid q y (x :: xs)
        have hql : ((q ++ [y]).length : Int) = q.length + 1 := by simp
        rw [hw2, hy]
        refine ev_pos (by omega) (ev_pos (by omega) (ev_pos (by omega) (ev_ite (fun h2 => ?_) (fun h2 => ?_))))
        · refine ev_of (Ev.now _) ?_
          have : decide (y < x) = false := decide_eq_false (by omega)
          rw [lastO_snoc, riseB, lineB, h]
          simp [this, ltO]
        · refine ev_of hi ?_
          have : decide (y < x) = true := decide_eq_true (by omega)
          rw [lastO_snoc, riseB, lineB, h]
          simp [this, ltO]
    · refine ev_of (Ev.now _) ?_
      simp only [Bool.not_eq_true] at h
      rw [riseB, lineB, h]
      rfl
theorem impl_yards (m : Int) (hm : m ≤ 1048576) (hm0 : 0 ≤ m) (ys : List (List Int)) (hl : ys.length ≤ 1048576) (hs : ∀ r ∈ ys, r.length ≤ 1048576) : ∀ (xs p : List (List Int)), ys = p ++ xs → Ev (fun k => impl_ValidDeck.l1 k m ys (ys.length : Int) (p.length : Int)) (xs.all (yardB m)) := by
  intro xs
  induction xs with
  | nil =>
    intro p hp
    refine Ev.step (fun k => by rw [impl_ValidDeck.l1]) ?_
    exact ev_neg (by rw [hp, List.append_nil]; omega) (Ev.now _)
  | cons x xs ih =>
    intro p hp
    have hpl : (p.length : Int) + (xs.length + 1) = ys.length := by rw [hp]; simp
    have hx : rd_L1 ys (p.length : Int) = x := by rw [hp]; exact rdL_mid p x xs
    have hi := ih (p ++ [x]) (by rw [hp]; simp)
    have hz : ((p ++ [x]).length : Int) = (p.length : Int) + 1 := by simp
    rw [hz] at hi
    refine Ev.step (fun k => by rw [impl_ValidDeck.l1]) ?_
    refine ev_pos (by omega) (ev_pos (by omega) (ev_pos (by omega) ?_))
    rw [hx, List.all_cons]
    refine ev_ite (fun h => ?_) (fun h => ?_)
    · refine ev_of (Ev.now _) ?_
      rw [yardB, decide_eq_true (by omega)]
      rfl
    · refine ev_of (impl_rise_loop m hm hm0 ys p.length x (hs x (by rw [hp]; simp)) (by omega) hi x [] rfl) ?_
      rw [yardB, decide_eq_false (by omega)]
      rfl
theorem impl_needs (n : List Int) (ys : List (List Int)) (hn : n.length ≤ 1048576) {b : Bool} (hnext : Ev (fun k => impl_ValidDeck.l1 k (n.length : Int) ys (ys.length : Int) 0) b) : ∀ (xs p : List Int), n = p ++ xs → Ev (fun k => impl_ValidDeck.l0 k (n.length : Int) n (n.length : Int) (p.length : Int) n ys) (needsB (n.length : Int) (p.length : Int) xs && b) := by
  intro xs
  induction xs with
  | nil =>
    intro p hp
    refine Ev.step (fun k => by rw [impl_ValidDeck.l0]) ?_
    refine ev_neg (by rw [hp, List.append_nil]; omega) (ev_of hnext ?_)
    rw [needsB, Bool.true_and]
  | cons x xs ih =>
    intro p hp
    have hpl : (p.length : Int) + (xs.length + 1) = n.length := by rw [hp]; simp
    have hx : rd n (p.length : Int) = x := by rw [hp]; exact rd_mid p x xs
    have hw : wrap64 ((p.length : Int) + 1) = ((p ++ [x]).length : Int) := wrap_next p x (by omega)
    have hwm : wrap64 ((n.length : Int) - 1) = (n.length : Int) - 1 := wrap_small (by omega) (by omega)
    have hz : ((p ++ [x]).length : Int) = (p.length : Int) + 1 := by simp
    have hi := ih (p ++ [x]) (by rw [hp]; simp)
    refine Ev.step (fun k => by rw [impl_ValidDeck.l0]) ?_
    refine ev_pos (by omega) (ev_pos (by omega) (ev_pos (by omega) ?_))
    rw [hx, hw, hwm, needsB, needB]
    refine ev_bind0 (within_some _ _ _) (ev_ite (fun h => ?_) (fun h => ?_))
    · refine ev_ite (fun h2 => ?_) (fun h2 => ?_)
      · refine ev_of (Ev.now _) ?_
        rw [h, decide_eq_true h2]
        rfl
      · refine ev_of hi ?_
        rw [h, decide_eq_false h2, hz]
        rfl
    · refine ev_of (Ev.now _) ?_
      simp only [Bool.not_eq_true] at h
      rw [h]
      rfl
section
variable (n : List Int) (ys : List (List Int)) (hg : GoodDeck n ys)
include hg
theorem impl_deck : Ev (fun k => impl_ValidDeck.f k n ys) (deckB n ys) := by
  have hn := hg.1.1
  have hj : Ev (fun k => impl_ValidDeck.j0 k (n.length : Int) true n ys) false := Ev.step (fun k => by rw [impl_ValidDeck.j0]) (ev_pos rfl (Ev.now _))
  unfold impl_ValidDeck.f deckB
  refine ev_ite (fun h => ?_) (fun h => ?_)
  · rw [decide_eq_false (by omega : ¬ 1 ≤ (n.length : Int))]
    exact hj
  · rw [decide_eq_true (by omega : 1 ≤ (n.length : Int)), Bool.true_and]
    refine ev_ite (fun h2 => ?_) (fun h2 => ?_)
    · rw [decide_eq_false (by omega : ¬ (n.length : Int) ≤ 8)]
      exact hj
    · rw [decide_eq_true (by omega : (n.length : Int) ≤ 8), Bool.true_and]
      by_cases h5 : (ys.length : Int) > 5
      · rw [decide_eq_true h5, decide_eq_false (by omega : ¬ (ys.length : Int) ≤ 5)]
        exact hj
      · rw [decide_eq_false h5, decide_eq_true (by omega : (ys.length : Int) ≤ 5), Bool.true_and]
        refine Ev.step (fun k => by rw [impl_ValidDeck.j0]) (ev_neg (by simp) ?_)
        exact impl_needs n ys hn (impl_yards (n.length : Int) (by omega) (by omega) ys hg.2.1 (fun r hr => (hg.2.2 r hr).1) ys [] rfl) n [] rfl
end
/-! ### states -/
def fastB (c : Int) : Bool := decide (c = 70) || decide (c = 76)
def stateB (n : List Int) (s : ByteArray) : Bool := decide ((s.size : Int) = (n.length : Int)) && (bytesOf s).all fastB
theorem impl_state_loop (s : ByteArray) (hs : s.size ≤ 1048576) : ∀ (xs p : List Int), bytesOf s = p ++ xs → Ev (fun k => impl_isState.l0 k s (p.length : Int)) (xs.all fastB) := by
  intro xs
  have hb := bytes_length s
  induction xs with
  | nil =>
    intro p hp
    rw [hp, List.append_nil] at hb
    refine Ev.step (fun k => by rw [impl_isState.l0]) ?_
    exact ev_neg (by omega) (Ev.now _)
  | cons x xs ih =>
    intro p hp
    have hpl : (p.length : Int) + (xs.length + 1) = s.size := by rw [← hb, hp]; simp
    have hx : bt s (p.length : Int) = x := by rw [bt_rd, hp]; exact rd_mid p x xs
    have hw : wrap64 ((p.length : Int) + 1) = ((p ++ [x]).length : Int) := wrap_next p x (by omega)
    have hi := ih (p ++ [x]) (by rw [hp]; simp)
    refine Ev.step (fun k => by rw [impl_isState.l0]) ?_
    refine ev_pos (by omega) (ev_pos (by omega) ?_)
    rw [hx, hw, List.all_cons]
    refine ev_ite (fun h => ?_) (fun h => ev_ite (fun h2 => ?_) (fun h2 => ?_))
    · refine ev_of hi ?_
      rw [fastB, decide_eq_true h]
      rfl
    · refine ev_of hi ?_
      rw [fastB, decide_eq_true h2, Bool.or_true, Bool.true_and]
    · refine ev_of (Ev.now _) ?_
      rw [fastB, decide_eq_false h, decide_eq_false h2]
      simp
theorem impl_state (n : List Int) (ys : List (List Int)) (s : ByteArray) (hs : s.size ≤ 1048576) : Ev (fun k => impl_isState.f k n ys s) (stateB n s) := by
  unfold impl_isState.f stateB
  refine ev_ite (fun h => ?_) (fun h => ?_)
  · rw [decide_eq_true h, Bool.true_and]
    exact impl_state_loop s hs (bytesOf s) [] rfl
  · rw [decide_eq_false h]
    exact Ev.now _
def codeD (n : List Int) (ys : List (List Int)) (s : ByteArray) : Int := if deckB n ys = true then (if stateB n s = true then 0 else 2) else 1
theorem impl_codeD (n : List Int) (ys : List (List Int)) (s : ByteArray) (hg : GoodDeck n ys) (hs : s.size ≤ 1048576) : Ev (fun k => impl_deckCode.f k n ys [s]) (codeD n ys s) := by
  unfold impl_deckCode.f codeD
  refine Ev.bind (impl_deck n ys hg) (ev_ite (fun h => ?_) (fun h => ?_))
  · rw [if_pos h]
    refine Ev.step (fun k => by rw [impl_deckCode.l0]) (ev_pos (by simp) (ev_pos (by omega) (ev_pos (by simp) ?_)))
    have e : rdOf ByteArray.empty [s] 0 = s := rfl
    rw [e]
    refine Ev.bind (impl_state n ys s hs) (ev_ite (fun h2 => ?_) (fun h2 => ?_))
    · rw [if_pos h2]
      exact Ev.step (fun k => by rw [impl_deckCode.l0]) (ev_neg (by simp [wrap64]) (Ev.now _))
    · rw [if_neg h2]; exact Ev.now _
  · rw [if_neg h]; exact Ev.now _
end Go.Proofs.YtfkiamccipoioaaB
end

section
-- Written by gprint.py (own program, over the printer of the kit) out of the translation. Lean checks it.
namespace Go.Proofs.Ytfkiamccipoioaa.P
open Go.RowKit Go.Proofs.YtfkiamccipoioaaW.PrintWords Go.Proofs.YtfkiamccipoioaaW.PrintLast Go.Proofs.YtfkiamccipoioaaW.PrintMore Go.Proofs.YtfkiamccipoioaaW.Pk
open Bool renaming true → T_, false → F_
open List renaming setIfInBounds_toArray → sT_, set_cons_zero → s0_, set_cons_succ → sS_
attribute [local go_sem] max2_int min2_int max_two min_two max_three min_three max_four min_four   -- for this text's walks alone
set_option linter.unusedVariables false
set_option linter.unusedSimpArgs false

/-! ### spec_l20Change: function 64 -/
-- (by hand)
open Go.Proofs.YtfkiamccipoioaaW.Hand
section
variable {P : Program} {ops : Array Oper} {rest : List Oper} {o : Oper} {a : Act} {Q : Exit → Act → World → Prop}
end
/-- The deck at g, and a row of bytes of the call's own at gb. -/
structure ChInv (w0 w W : World) (g : Nat) (s0_0 : List Int) (s0_1 : List (List Int)) (gb : Nat) (xs : List Int) : Prop where
 st : IsS28 w0 W g s0_0 s0_1
 below : Below w0.heap.size w0 W
 keep : KeepBut w W g none
 cells : ∀ i : Nat, i < xs.length → W.cell? ⟨gb, i, none⟩ = some (.int .u8 (xs.getD i 0))
 free : ∀ i : Nat, i < xs.length → W.frozen? ⟨gb, i, none⟩ = false
 ge : w.heap.size ≤ gb
 lt : gb < W.heap.size
 ne : g ≠ gb
 ge0 : w0.heap.size ≤ gb
def flipB (s : ByteArray) (i : Int) : List Int := (bytesOf s).set i.toNat (if bt s i = 70 then 76 else 70)
theorem flipB_length (s : ByteArray) (i : Int) : (flipB s i).length = s.size := by unfold flipB; rw [List.length_set, bytesOf_length]
section
variable {w0 w W W1 : World} {g gb : Nat} {s0_0 : List Int} {s0_1 : List (List Int)} {xs : List Int} {a1 : ByteArray} {a2 : Int}
theorem ChInv.at_ (h : ChInv w0 w W g s0_0 s0_1 gb (bytesOf a1)) (i : Int) (h0 : 0 ≤ i) (h1 : i < (a1.size : Int)) : W.cell? ⟨gb, i.toNat, none⟩ = some (.int .u8 (bt a1 i)) := by
 have := h.cells i.toNat (by rw [bytesOf_length]; omega)
 rw [this]
 have e : (bytesOf a1).getD i.toNat 0 = bt a1 i := rd_bytesOf a1 i
 rw [e]
theorem ChInv.fr (h : ChInv w0 w W g s0_0 s0_1 gb (bytesOf a1)) (i : Int) (h0 : 0 ≤ i) (h1 : i < (a1.size : Int)) : W.frozen? ⟨gb, i.toNat, none⟩ = false :=
 h.free i.toNat (by rw [bytesOf_length]; omega)
theorem ChInv.flip (h : ChInv w0 w W g s0_0 s0_1 gb (bytesOf a1)) (h0 : 0 ≤ a2) (h1 : a2 < (a1.size : Int)) : ChInv w0 w (W.setCell ⟨gb, a2.toNat, none⟩ (.int .u8 (if bt a1 a2 = 70 then 76 else 70))) g s0_0 s0_1 gb (flipB a1 a2) := by
 have hc := h.cells a2.toNat (by rw [bytesOf_length]; omega)
 refine ⟨IsS28.far h.st h.ne _, h.below.setCell h.ge0 _, ⟨by have := h.keep.1; rw [World.size_setCell]; exact this, fun k hk hkg _ => ?_⟩, fun i hi => ?_, fun i hi => ?_, h.ge, by rw [World.size_setCell]; exact h.lt, h.ne, h.ge0⟩
 ·rw [Below.heap_setCell W _ _ k (by have := h.ge; show k ≠ gb; omega)]
  exact h.keep.2 k hk hkg (by simp)
 ·rw [flipB_length] at hi
  unfold flipB
  by_cases e : i = a2.toNat
  ·subst e
   rw [List.getD_eq_getElem?_getD, List.getElem?_set_self (by rw [bytesOf_length]; exact hi), Option.getD_some]
   exact World.cell?_setCell_same W _ _ hc
  ·rw [List.getD_eq_getElem?_getD, List.getElem?_set_ne (fun h => e h.symm), ← List.getD_eq_getElem?_getD, ← h.cells i (by rw [bytesOf_length]; exact hi)]
   exact World.cell?_setCell_other W _ _ _ (fun h => e (by injection h with _ h2 _; exact h2.symm))
 ·rw [flipB_length] at hi
  rw [World.frozen?_setCell]
  exact h.free i (by rw [bytesOf_length]; exact hi)
theorem ChInv.conv (h : ChInv w0 w W g s0_0 s0_1 gb (flipB a1 a2)) (a1' : ByteArray) (a2' : Int) (c : Nat) : (convert 49 9 (.slice (some ⟨gb, 0, none⟩) a1.size c)).run Try.prog W = .ok (.string (strOfNums (flipB a1 a2))) W :=
 run_convert_bytes_arg W 49 5 Try.underlying49 Try.underlying5 gb 0 a1.size c (flipB a1 a2) (flipB_length a1 a2) (fun i hi => by rw [Nat.zero_add]; exact h.cells i (by rw [flipB_length]; exact hi)) 9 Try.underlying9
end
end Go.Proofs.Ytfkiamccipoioaa.P
end

section
/- States as lists of bytes and as sets of bits; what holds the yards; whether a line may be changed: of both. -/
namespace Go.Proofs.YtfkiamccipoioaaB
open Go.RowKit Go.Proofs.YtfkiamccipoioaaW.PrintWords Go.Proofs.YtfkiamccipoioaaW.PrintLast Go.Proofs.YtfkiamccipoioaaW.PrintMore Go.Proofs.Ytfkiamccipoioaa.P

/-! ### bits -/
theorem wraps_i64 (n : Int) (h0 : 0 ≤ n) (h1 : n < 2 ^ 62) : IntKind.i64.wrap n = n := by
  rw [IntKind.wrap_i64]
  omega
theorem bits_or64 (a b : Nat) (ha : a < 2 ^ 62) (hb : b < 2 ^ 62) : bits .or .i64 (a : Int) (b : Int) = ((a ||| b : Nat) : Int) := (bits_nat .i64 62 (by decide) wraps_i64 a b ha hb).2
theorem bits_and64 (a b : Nat) (ha : a < 2 ^ 62) (hb : b < 2 ^ 62) : bits .and .i64 (a : Int) (b : Int) = ((a &&& b : Nat) : Int) := (bits_nat .i64 62 (by decide) wraps_i64 a b ha hb).1
theorem bits_xor64 (a b : Nat) (ha : a < 2 ^ 62) (hb : b < 2 ^ 62) : bits .xor .i64 (a : Int) (b : Int) = ((a ^^^ b : Nat) : Int) := by
  have ha' : a % 2 ^ IntKind.i64.bits = a := Nat.mod_eq_of_lt (Nat.lt_of_lt_of_le ha (by decide))
  have hb' : b % 2 ^ IntKind.i64.bits = b := Nat.mod_eq_of_lt (Nat.lt_of_lt_of_le hb (by decide))
  simp only [bits, BitVec.ofInt_natCast, BitVec.toNat_xor, BitVec.toNat_ofNat, ha', hb']
  exact wraps_i64 _ (Int.natCast_nonneg _) (by exact_mod_cast Nat.xor_lt_two_pow ha hb)
theorem shl_one (i : Int) (_h0 : 0 ≤ i) (h1 : i < 62) : shl .i64 1 i = ((2 ^ i.toNat : Nat) : Int) := by
  have hb : IntKind.i64.bits = 64 := rfl
  unfold shl
  rw [Nat.min_eq_left (by omega), Int.one_mul]
  have e : (2 : Int) ^ i.toNat = ((2 ^ i.toNat : Nat) : Int) := by simp
  rw [e]
  refine wraps_i64 _ (Int.natCast_nonneg _) ?_
  have : 2 ^ i.toNat < 2 ^ 62 := Nat.pow_lt_pow_right (by decide) (by omega)
  exact_mod_cast this
theorem bit_of (a : Nat) (ha : a < 2 ^ 62) (i : Int) (_h0 : 0 ≤ i) (h1 : i < 62) : bits .and .i64 (shr .i64 (a : Int) i) 1 = if a.testBit i.toNat then 1 else 0 := by
  have hb : IntKind.i64.bits = 64 := rfl
  unfold shr
  rw [Nat.min_eq_left (by omega)]
  have e : (a : Int) / 2 ^ i.toNat = ((a / 2 ^ i.toNat : Nat) : Int) := by simp
  have e1 : (1 : Int) = ((1 : Nat) : Int) := rfl
  rw [e, e1, bits_and64 _ 1 (Nat.lt_of_le_of_lt (Nat.div_le_self _ _) ha) (by decide), Nat.and_one_is_mod, Nat.testBit_eq_decide_div_mod_eq]
  have := Nat.mod_lt (a / 2 ^ i.toNat) (by decide : 0 < 2)
  by_cases h : a / 2 ^ i.toNat % 2 = 1
  · rw [h]; simp
  · have : a / 2 ^ i.toNat % 2 = 0 := by omega
    rw [this]; simp
/-- A state's set: bit i is the line i. -/
def setN : List Int → Nat
  | [] => 0
  | c :: cs => 2 * setN cs + (if c = 70 then 1 else 0)
theorem setN_bit : ∀ (l : List Int) (i : Nat), (setN l).testBit i = decide (l.getD i 0 = 70) := by
  intro l
  induction l with
  | nil => intro i; simp [setN]
  | cons c cs ih =>
    intro i
    cases i with
    | zero =>
      rw [setN, Nat.testBit_zero, List.getD_cons_zero]
      by_cases h : c = 70
      · simp [h]
      · simp [h]
    | succ i =>
      rw [setN, Nat.testBit_succ, List.getD_cons_succ, ← ih i]
      congr 1
      split <;> omega
theorem setN_lt : ∀ l : List Int, setN l < 2 ^ l.length := by
  intro l
  induction l with
  | nil => decide
  | cons c cs ih =>
    rw [setN, List.length_cons, Nat.pow_succ]
    split <;> omega
theorem setN_small {l : List Int} (h : l.length ≤ 61) : setN l < 2 ^ 62 :=
  Nat.lt_of_lt_of_le (setN_lt l) (Nat.pow_le_pow_right (by decide) (by omega))
theorem setN_snoc (p : List Int) (c : Int) : setN (p ++ [c]) = setN p ||| (if c = 70 then 2 ^ p.length else 0) := by
  apply Nat.eq_of_testBit_eq
  intro i
  rw [setN_bit, Nat.testBit_or, setN_bit]
  by_cases hi : i < p.length
  · rw [List.getD_eq_getElem?_getD, List.getElem?_append_left hi, ← List.getD_eq_getElem?_getD]
    by_cases h : c = 70
    · rw [if_pos h, Nat.testBit_two_pow, decide_eq_false (show ¬ p.length = i by omega), Bool.or_false]
    · rw [if_neg h, Nat.zero_testBit, Bool.or_false]
  · have hp : (p.getD i 0) = 0 := by rw [List.getD_eq_getElem?_getD, List.getElem?_eq_none (by omega)]; rfl
    rw [hp, List.getD_eq_getElem?_getD, List.getElem?_append_right (by omega)]
    by_cases he : i = p.length
    · subst he
      by_cases h : c = 70
      · simp [h]
      · simp [h]
    · have : ([c] : List Int)[i - p.length]? = none := List.getElem?_eq_none (by simp; omega)
      rw [this]
      by_cases h : c = 70
      · rw [if_pos h, Nat.testBit_two_pow, decide_eq_false (show ¬ p.length = i by omega)]
        rfl
      · simp [h]
abbrev flipL (l : List Int) (i : Int) : List Int := l.set i.toNat (if rd l i = 70 then 76 else 70)
theorem setN_flip (l : List Int) (i : Int) (_h0 : 0 ≤ i) (h : i < (l.length : Int)) : setN (flipL l i) = setN l ^^^ 2 ^ i.toNat := by
  apply Nat.eq_of_testBit_eq
  intro j
  rw [setN_bit, Nat.testBit_xor, setN_bit, Nat.testBit_two_pow, List.getD_eq_getElem?_getD]
  have hr : rd l i = l.getD i.toNat 0 := rfl
  by_cases he : i.toNat = j
  · subst he
    rw [List.getElem?_set_self (by omega), Option.getD_some, hr]
    by_cases hc : l.getD i.toNat 0 = 70
    · rw [if_pos hc, decide_eq_true hc]; simp
    · rw [if_neg hc, decide_eq_false hc]; simp
  · rw [List.getElem?_set_ne he, ← List.getD_eq_getElem?_getD, decide_eq_false he, Bool.xor_false]
theorem bit_rd (l : List Int) (hl : l.length ≤ 61) (i : Int) (h0 : 0 ≤ i) (h1 : i < 62) : bits .and .i64 (shr .i64 ((setN l : Nat) : Int) i) 1 = if rd l i = 70 then 1 else 0 := by
  rw [bit_of _ (setN_small hl) i h0 h1, setN_bit]
  have hr : rd l i = l.getD i.toNat 0 := rfl
  rw [hr]
  by_cases h : l.getD i.toNat 0 = 70
  · rw [if_pos h, decide_eq_true h]; rfl
  · rw [if_neg h, decide_eq_false h]; rfl
theorem flip_bits (l : List Int) (hl : l.length ≤ 61) (i : Int) (h0 : 0 ≤ i) (h : i < (l.length : Int)) : bits .xor .i64 ((setN l : Nat) : Int) (shl .i64 1 i) = ((setN (flipL l i) : Nat) : Int) := by
  rw [shl_one i h0 (by omega), bits_xor64 _ _ (setN_small hl) (Nat.pow_lt_pow_right (by decide) (by omega)), setN_flip l i h0 h]
theorem set_loop (s : ByteArray) (hs : s.size ≤ 61) : ∀ (xs p : List Int), bytesOf s = p ++ xs → Ev (fun k => impl_setOf.l0 k s ((setN p : Nat) : Int) (p.length : Int)) ((setN (bytesOf s) : Nat) : Int) := by
  intro xs
  have hb := bytes_length s
  induction xs with
  | nil =>
    intro p hp
    rw [hp, List.append_nil] at hb
    refine Ev.step (fun k => by rw [impl_setOf.l0]) ?_
    refine ev_neg (by omega) (ev_of (Ev.now _) ?_)
    rw [hp, List.append_nil]
  | cons x xs ih =>
    intro p hp
    have hpl : (p.length : Int) + (xs.length + 1) = s.size := by rw [← hb, hp]; simp
    have hx : bt s (p.length : Int) = x := by rw [bt_rd, hp]; exact rd_mid p x xs
    have hw : wrap64 ((p.length : Int) + 1) = ((p ++ [x]).length : Int) := wrap_next p x (by omega)
    have hi := ih (p ++ [x]) (by rw [hp]; simp)
    rw [setN_snoc] at hi
    refine Ev.step (fun k => by rw [impl_setOf.l0]) ?_
    refine ev_pos (by omega) (ev_pos (by omega) ?_)
    rw [hx, hw]
    refine ev_ite (fun h => ?_) (fun h => ?_)
    · rw [if_pos h] at hi
      rw [shl_one _ (by omega) (by omega), Int.toNat_natCast, bits_or64 _ _ (setN_small (by omega)) (Nat.pow_lt_pow_right (by decide) (by omega))]
      exact hi
    · rw [if_neg h, Nat.or_zero] at hi
      exact hi
theorem set_ev (s : ByteArray) (hs : s.size ≤ 61) : Ev (fun k => impl_setOf.f k s) ((setN (bytesOf s) : Nat) : Int) := by
  unfold impl_setOf.f
  exact set_loop s hs (bytesOf s) [] rfl
/-! ### what holds the yards -/
def fastsL (l : List Int) (r : List Int) : Int := ((r.filter fun x => decide (rd l x = 70)).length : Int)
def heldL (l : List Int) (ys : List (List Int)) : List Int := ys.map (fastsL l)
theorem fastsL_snoc (l p : List Int) (x : Int) : fastsL l (p ++ [x]) = fastsL l p + if rd l x = 70 then 1 else 0 := by
  unfold fastsL
  rw [List.filter_append, List.length_append]
  by_cases h : rd l x = 70
  · rw [if_pos h, List.filter_cons, if_pos (decide_eq_true h)]; simp
  · rw [if_neg h, List.filter_cons, if_neg (by rw [decide_eq_false h]; simp)]; simp
theorem fastsL_le (l r : List Int) : 0 ≤ fastsL l r ∧ fastsL l r ≤ r.length := by
  unfold fastsL
  have := List.length_filter_le (fun x => decide (rd l x = 70)) r
  omega
def linesIn (m : Int) (ys : List (List Int)) : Prop := ys.length ≤ 1048576 ∧ ∀ r ∈ ys, r.length ≤ 1048576 ∧ ∀ x ∈ r, 0 ≤ x ∧ x < m
section
variable (n : List Int) (ys : List (List Int)) (l : List Int) (hl : l.length ≤ 61) (hy : linesIn (l.length : Int) ys)
include hl hy
theorem impl_row (j : Nat) (hj : j ≤ 1048576) (acc : List Int) (hacc : acc.length ≤ 1048576) (r : List Int) (hr : r ∈ ys) {b : List Int} (hnext : Ev (fun k => impl_heldBy.l0 k ((setN l : Nat) : Int) (acc ++ [fastsL l r]) ys (ys.length : Int) ((j : Int) + 1)) b) : ∀ (xs p : List Int), r = p ++ xs →
    Ev (fun k => impl_heldBy.l1 k ((setN l : Nat) : Int) acc (fastsL l p) ys (ys.length : Int) (j : Int) r (r.length : Int) (p.length : Int)) b := by
  intro xs
  obtain ⟨hrl, hrin⟩ := hy.2 r hr
  induction xs with
  | nil =>
    intro p hp
    have e : r = p := by rw [hp, List.append_nil]
    refine Ev.step (fun k => by rw [impl_heldBy.l1]) ?_
    refine ev_neg (by rw [e]; omega) (ev_pos (by omega) ?_)
    rw [wrap_small (i := (j : Int) + 1) (by omega) (by omega), ← e]
    exact hnext
  | cons x xs ih =>
    intro p hp
    have hpl : (p.length : Int) + (xs.length + 1) = r.length := by rw [hp]; simp
    have hx : rd r (p.length : Int) = x := by rw [hp]; exact rd_mid p x xs
    have hw : wrap64 ((p.length : Int) + 1) = ((p ++ [x]).length : Int) := wrap_next p x (by omega)
    have hxi := hrin x (by rw [hp]; simp)
    have hf := fastsL_le l p
    have hi := ih (p ++ [x]) (by rw [hp]; simp)
    rw [fastsL_snoc] at hi
    refine Ev.step (fun k => by rw [impl_heldBy.l1]) ?_
    refine ev_pos (by omega) (ev_pos (by omega) (ev_pos (by omega) ?_))
    rw [hx, hw]
    refine ev_pos hxi.1 ?_
    rw [bit_rd l hl x hxi.1 (by omega), wrap_small (i := fastsL l p + _) (by split <;> omega) (by split <;> omega)]
    exact hi
theorem impl_rows : ∀ (xs p : List (List Int)), ys = p ++ xs → Ev (fun k => impl_heldBy.l0 k ((setN l : Nat) : Int) (heldL l p) ys (ys.length : Int) (p.length : Int)) (heldL l ys) := by
  intro xs
  have hyl := hy.1
  induction xs with
  | nil =>
    intro p hp
    have e : ys = p := by rw [hp, List.append_nil]
    refine Ev.step (fun k => by rw [impl_heldBy.l0]) ?_
    refine ev_neg (by rw [e]; omega) (ev_of (Ev.now _) ?_)
    rw [e]
  | cons x xs ih =>
    intro p hp
    have hpl : (p.length : Int) + (xs.length + 1) = ys.length := by rw [hp]; simp
    have hx : rd_L1 ys (p.length : Int) = x := by rw [hp]; exact rdL_mid p x xs
    have hi := ih (p ++ [x]) (by rw [hp]; simp)
    have hz : ((p ++ [x]).length : Int) = (p.length : Int) + 1 := by simp
    have hh : heldL l (p ++ [x]) = heldL l p ++ [fastsL l x] := by unfold heldL; rw [List.map_append]; rfl
    have hhl : (heldL l p).length = p.length := List.length_map ..
    rw [hz, hh] at hi
    refine Ev.step (fun k => by rw [impl_heldBy.l0]) ?_
    refine ev_pos (by omega) (ev_pos (by omega) (ev_pos (by omega) ?_))
    rw [hx]
    exact impl_row ys l hl hy p.length (by omega) (heldL l p) (by omega) x (by rw [hp]; simp) hi x [] rfl
theorem impl_held : Ev (fun k => impl_heldBy.f k n ys ((setN l : Nat) : Int)) (heldL l ys) := by
  unfold impl_heldBy.f
  exact impl_rows ys l hl hy ys [] rfl
end
section
variable (n : List Int) (ys : List (List Int)) (s : ByteArray) (hy : linesIn (s.size : Int) ys)
include hy
end
/-! ### loose yards -/
/-! ### a line is changed -/
theorem hasD_loop (a : Int) : ∀ (xs p : List Int), p.length + xs.length ≤ 1048576 → ∃ r, Ev (fun k => slices_Index_int64_int64.l0 k (p ++ xs) a ((p ++ xs).length : Int) (p.length : Int)) r ∧ decide (r ≥ 0) = xs.contains a := by
  intro xs
  induction xs with
  | nil =>
    intro p _
    refine ⟨-1, Ev.step (fun k => by rw [slices_Index_int64_int64.l0]) ?_, rfl⟩
    exact ev_neg (not_lt_end p) (Ev.now _)
  | cons x xs ih =>
    intro p hl
    rw [List.length_cons] at hl
    have hw : wrap64 ((p.length : Int) + 1) = ((p ++ [x]).length : Int) := wrap_next p x (by omega)
    obtain ⟨r, h1, h2⟩ := ih (p ++ [x]) (by rw [List.length_append]; simp; omega)
    by_cases h : a = x
    · refine ⟨(p.length : Int), Ev.step (fun k => by rw [slices_Index_int64_int64.l0]) ?_, ?_⟩
      · refine ev_pos (lt_mid p x xs) (ev_pos (by omega) (ev_pos (lt_mid p x xs) ?_))
        rw [rd_mid]
        exact ev_pos h (Ev.now _)
      · rw [decide_eq_true (by omega), h]; simp
    · refine ⟨r, Ev.step (fun k => by rw [slices_Index_int64_int64.l0]) ?_, ?_⟩
      · refine ev_pos (lt_mid p x xs) (ev_pos (by omega) (ev_pos (lt_mid p x xs) ?_))
        rw [rd_mid, hw, push_mid p x xs]
        exact ev_neg h h1
      · rw [h2, List.contains_cons]
        have : (a == x) = false := by simp; omega
        rw [this, Bool.false_or]
theorem hasD_ev (l : List Int) (a : Int) (h : l.length ≤ 1048576) : Ev (fun k => slices_Contains_int64_int64.f k l a) (l.contains a) := by
  unfold slices_Contains_int64_int64.f slices_Index_int64_int64.f
  obtain ⟨r, h1, h2⟩ := hasD_loop a l [] (by simp; omega)
  exact Ev.bind h1 (ev_of (Ev.now _) h2)
def changeC (n : List Int) (ys : List (List Int)) (l : List Int) (i : Int) : Int :=
  if 0 ≤ rd n i ∧ ¬ rd l (rd n i) = 70 then 6 else if (heldL (flipL l i) ys).contains 0 = true then 10 else 0
/-- A deck with its lines, and a state of it. -/
structure DeckOk (n : List Int) (ys : List (List Int)) (l : List Int) : Prop where
  few : n.length ≤ 8
  len : l.length = n.length
  needs : ∀ i : Nat, i < n.length → -1 ≤ rd n (i : Int) ∧ rd n (i : Int) < (n.length : Int)
  lines : linesIn (n.length : Int) ys
  fast : ∀ c ∈ l, c = 70 ∨ c = 76
theorem flip_len (l : List Int) (i : Int) : (flipL l i).length = l.length := List.length_set ..
theorem DeckOk.flip {n : List Int} {ys : List (List Int)} {l : List Int} (h : DeckOk n ys l) (i : Int) : DeckOk n ys (flipL l i) :=
  ⟨h.few, by rw [flip_len]; exact h.len, h.needs, h.lines, fun c hc => by
    rcases List.mem_or_eq_of_mem_set hc with hc | rfl
    · exact h.fast c hc
    · split
      · exact .inr rfl
      · exact .inl rfl⟩
theorem strOf_bytes {l : List Int} (h : ∀ c ∈ l, c = 70 ∨ c = 76) : bytesOf (strOfNums l) = l := by
  unfold bytesOf
  rw [strOfNums_data, List.map_map]
  conv => rhs; rw [← List.map_id l]
  refine List.map_congr_left (fun c hc => ?_)
  rcases h c hc with rfl | rfl <;> rfl
theorem bytes_strOf (s : ByteArray) (h : ∀ c ∈ bytesOf s, c = 70 ∨ c = 76) : strOfNums (bytesOf s) = s := bytes_inj (strOf_bytes h)
section
variable {n : List Int} {ys : List (List Int)} {l : List Int} (h : DeckOk n ys l) (i : Int) (h0 : 0 ≤ i) (h1 : i < (n.length : Int))
include h h0 h1
theorem DeckOk.need_in : -1 ≤ rd n i ∧ rd n i < (n.length : Int) := by
  have := h.needs i.toNat (by omega)
  unfold rd at this ⊢
  rwa [Int.toNat_natCast] at this
theorem impl_change : Ev (fun k => impl_changeCode.f k n ys ((setN l : Nat) : Int) i) (changeC n ys l i) := by
  have hfew := h.few
  have hlen := h.len
  have hnd := h.need_in i h0 h1
  have hf := h.flip i
  have hfl := flip_len l i
  have hj : Ev (fun k => impl_changeCode.j0 k ((setN l : Nat) : Int) i false n ys) (if (heldL (flipL l i) ys).contains 0 = true then 10 else 0) := by
    refine Ev.step (fun k => by rw [impl_changeCode.j0]) (ev_neg (by simp) (ev_pos h0 ?_))
    rw [flip_bits l (by omega) i h0 (by omega)]
    have hh := impl_held n ys (flipL l i) (by omega) (by rw [hfl, hlen]; exact h.lines)
    have hhl : (heldL (flipL l i) ys).length = ys.length := List.length_map ..
    refine Ev.bind hh (Ev.bind (hasD_ev _ 0 (by have := h.lines.1; omega)) (ev_ite (fun h2 => ?_) (fun h2 => ?_)))
    · rw [if_pos h2]; exact Ev.now _
    · rw [if_neg h2]; exact Ev.now _
  unfold impl_changeCode.f changeC
  refine ev_pos h0 (ev_pos h1 (ev_ite (fun h2 => ?_) (fun h2 => ?_)))
  · rw [bit_rd l (by omega) (rd n i) (by omega) (by omega)]
    refine ev_pos (by omega) ?_
    by_cases h3 : rd l (rd n i) = 70
    · rw [if_pos h3, if_neg (by simp [h3])]
      exact hj
    · rw [if_neg h3, if_pos ⟨by omega, h3⟩]
      refine Ev.step (fun k => by rw [impl_changeCode.j0]) ?_
      exact ev_pos (by rfl) (Ev.now _)
  · rw [if_neg (by omega)]
    exact hj
end
theorem needs_of {n : List Int} : ∀ (xs p : List Int) (m : Int), n = p ++ xs → needsB m (p.length : Int) xs = true → ∀ i : Nat, p.length ≤ i → i < n.length → -1 ≤ rd n (i : Int) ∧ rd n (i : Int) < m := by
  intro xs
  induction xs with
  | nil => intro p m hp _ i h1 h2; rw [hp, List.append_nil] at h2; omega
  | cons x xs ih =>
    intro p m hp h i h1 h2
    rw [needsB, Bool.and_eq_true] at h
    by_cases e : i = p.length
    · subst e
      have hx : rd n (p.length : Int) = x := by rw [hp]; exact rd_mid p x xs
      have h3 := h.1
      simp only [needB, Bool.and_eq_true, decide_eq_true_eq] at h3
      rw [hx]
      omega
    · exact ih (p ++ [x]) m (by rw [hp]; simp) (by
        have hz : ((p ++ [x]).length : Int) = (p.length : Int) + 1 := by simp
        rw [hz]
        exact h.2) i (by rw [List.length_append, List.length_singleton]; omega) h2
theorem rise_of (m : Int) : ∀ (xs : List Int) (pv : Option Int), riseB m pv xs = true → ∀ x ∈ xs, 0 ≤ x ∧ x < m := by
  intro xs
  induction xs with
  | nil => intro _ _ x hx; simp at hx
  | cons y xs ih =>
    intro pv h x hx
    rw [riseB, Bool.and_eq_true] at h
    rcases List.mem_cons.1 hx with rfl | hx
    · have h3 := h.1
      simp only [lineB, Bool.and_eq_true, decide_eq_true_eq] at h3
      omega
    · exact ih _ h.2 x hx
theorem deckOk_of (n : List Int) (ys : List (List Int)) (s : ByteArray) (hg : GoodDeck n ys) (h : codeD n ys s = 0) : DeckOk n ys (bytesOf s) := by
  unfold codeD at h
  split at h
  · rename_i hd
    split at h
    · rename_i hst
      simp only [deckB, Bool.and_eq_true, decide_eq_true_eq] at hd
      simp only [stateB, Bool.and_eq_true, decide_eq_true_eq, List.all_eq_true, fastB, Bool.or_eq_true] at hst
      have hbl := bytes_length s
      refine ⟨by omega, by omega, fun i hi => needs_of n [] _ rfl hd.2.2.1 i (by simp) hi, ⟨hg.2.1, fun r hr => ⟨(hg.2.2 r hr).1, ?_⟩⟩, hst.2⟩
      have hy := List.all_eq_true.1 hd.2.2.2 r hr
      rw [yardB, Bool.and_eq_true] at hy
      exact rise_of _ r none hy.2
    · simp at h
  · simp at h
end Go.Proofs.YtfkiamccipoioaaB
end

section
/- HeldBy, LooseYards, ChangesOf, of both. -/
namespace Go.Proofs.YtfkiamccipoioaaB
open Go.RowKit Go.Proofs.YtfkiamccipoioaaW.PrintWords Go.Proofs.YtfkiamccipoioaaW.PrintLast Go.Proofs.YtfkiamccipoioaaW.PrintMore Go.Proofs.Ytfkiamccipoioaa.P

section
variable {n : List Int} {ys : List (List Int)} {s : ByteArray} (hok : DeckOk n ys (bytesOf s))
include hok
theorem DeckOk.size : s.size = n.length := by rw [← hok.len]; exact (bytes_length s).symm
end
/-- The lines that may change. -/
def chF (n : List Int) (ys : List (List Int)) (l : List Int) : Nat → Nat → List Int
  | 0, _ => []
  | d + 1, i => if changeC n ys l (i : Int) = 0 then (i : Int) :: chF n ys l d (i + 1) else chF n ys l d (i + 1)
theorem chF_length (n : List Int) (ys : List (List Int)) (l : List Int) : ∀ (d i : Nat), (chF n ys l d i).length ≤ d := by
  intro d
  induction d with
  | zero => intro i; exact Nat.le_refl _
  | succ d ih =>
    intro i
    have := ih (i + 1)
    rw [chF]
    split
    · rw [List.length_cons]; omega
    · omega
section
variable {n : List Int} {ys : List (List Int)} {s : ByteArray} (hok : DeckOk n ys (bytesOf s))
include hok
theorem changes_impl : ∀ (d i : Nat) (acc : List Int), i + d = n.length → acc.length ≤ i → Ev (fun k => impl_ChangesOf.l0 k s acc (n.length : Int) (i : Int) n ys) (acc ++ chF n ys (bytesOf s) d i, 0) := by
  have hfew := hok.few
  have hsz := hok.size
  intro d
  induction d with
  | zero =>
    intro i acc hi _
    refine Ev.step (fun k => by rw [impl_ChangesOf.l0]) (ev_neg (by omega) (ev_of (Ev.now _) ?_))
    rw [chF, List.append_nil]
  | succ d ih =>
    intro i acc hi ha
    have hw : wrap64 ((i : Int) + 1) = ((i + 1 : Nat) : Int) := by rw [wrap_small (by omega) (by omega)]; omega
    refine Ev.step (fun k => by rw [impl_ChangesOf.l0]) (ev_pos (by omega) (Ev.bind (set_ev s (by omega)) (Ev.bind (impl_change hok (i : Int) (by omega) (by omega)) ?_)))
    rw [hw]
    by_cases h2 : changeC n ys (bytesOf s) (i : Int) = 0
    · have h3 := ih (i + 1) (acc ++ [(i : Int)]) (by omega) (by rw [List.length_append, List.length_singleton]; omega)
      rw [List.append_assoc, List.singleton_append] at h3
      rw [show chF n ys (bytesOf s) (d + 1) i = (i : Int) :: chF n ys (bytesOf s) d (i + 1) by rw [chF, if_pos h2]]
      exact ev_pos h2 (ev_pos (by omega) h3)
    · rw [show chF n ys (bytesOf s) (d + 1) i = chF n ys (bytesOf s) d (i + 1) by rw [chF, if_neg h2]]
      exact ev_neg h2 (ih (i + 1) acc (by omega) (by omega))
end
end Go.Proofs.YtfkiamccipoioaaB
end

section
/- All states that are reached, of both: the same states in the same order. -/
namespace Go.Proofs.YtfkiamccipoioaaB
open Go.RowKit Go.Proofs.YtfkiamccipoioaaW.PrintWords Go.Proofs.YtfkiamccipoioaaW.PrintLast Go.Proofs.YtfkiamccipoioaaW.PrintMore Go.Proofs.Ytfkiamccipoioaa.P

def Fast (l : List Int) : Prop := ∀ c ∈ l, c = 70 ∨ c = 76
theorem setN_inj : ∀ (a b : List Int), a.length = b.length → Fast a → Fast b → setN a = setN b → a = b := by
  intro a
  induction a with
  | nil => intro b hl _ _ _; exact (List.length_eq_zero_iff.1 hl.symm).symm
  | cons x a ih =>
    intro b hl ha hb h
    cases b with
    | nil => simp at hl
    | cons y b =>
      rw [List.length_cons, List.length_cons] at hl
      rw [setN, setN] at h
      have hx := ha x List.mem_cons_self
      have hy := hb y List.mem_cons_self
      have hxy : x = y ∧ setN a = setN b := by
        rcases hx with rfl | rfl <;> rcases hy with rfl | rfl <;> simp at h ⊢ <;> omega
      rw [hxy.1, ih b (by omega) (fun c hc => ha c (List.mem_cons_of_mem _ hc)) (fun c hc => hb c (List.mem_cons_of_mem _ hc)) hxy.2]
/-- The number of a state, as the reference tells it. -/
def numN (l : List Int) : Nat := setN l.reverse
theorem numN_lt (l : List Int) : numN l < 2 ^ l.length := by
  have := setN_lt l.reverse
  rw [List.length_reverse] at this
  exact this
theorem numN_inj {a b : List Int} (hl : a.length = b.length) (ha : Fast a) (hb : Fast b) (h : numN a = numN b) : a = b := by
  have := setN_inj a.reverse b.reverse (by rw [List.length_reverse, List.length_reverse]; exact hl) (fun c hc => ha c (List.mem_reverse.1 hc)) (fun c hc => hb c (List.mem_reverse.1 hc)) h
  exact List.reverse_inj.1 this
theorem nodup_bound : ∀ (N : Nat) (l : List Nat), l.Nodup → (∀ x ∈ l, x < N) → l.length ≤ N := by
  intro N
  induction N with
  | zero =>
    intro l _ h
    cases l with
    | nil => exact Nat.le_refl _
    | cons x l => exact absurd (h x List.mem_cons_self) (by omega)
  | succ N ih =>
    intro l hd h
    by_cases hm : N ∈ l
    · have h1 := List.length_erase_of_mem hm
      have h2 := ih (l.erase N) (hd.erase N) (fun x hx => by
        have h3 := (List.Nodup.mem_erase_iff hd).1 hx
        have := h x h3.2
        have := h3.1
        omega)
      have := List.length_pos_of_mem hm
      omega
    · have := ih l hd (fun x hx => by
        have := h x hx
        have : x ≠ N := fun e => hm (e ▸ hx)
        omega)
      omega
end Go.Proofs.YtfkiamccipoioaaB
end

section
/- The search of both sides: one step, one row, all. -/
namespace Go.Proofs.YtfkiamccipoioaaB
open Go.RowKit Go.Proofs.YtfkiamccipoioaaW.PrintWords Go.Proofs.YtfkiamccipoioaaW.PrintLast Go.Proofs.YtfkiamccipoioaaW.PrintMore Go.Proofs.Ytfkiamccipoioaa.P

def eX (L : List (List Int)) : List Int := L.map fun l => ((setN l : Nat) : Int)
structure AllInv (n : List Int) (ys : List (List Int)) (L : List (List Int)) (P : List (Int × Int)) (W : List (List Int)) : Prop where
  ok : ∀ l ∈ L, DeckOk n ys l
  nd : (L.map numN).Nodup
  pl : P.length = L.length
  wl : W.length = L.length
  zero : W.getD 0 [] = []
  way : ∀ t : Nat, (W.getD t []).length ≤ t
  path : ∀ t : Nat, 0 < t → t < L.length → ∃ b : Nat, b < t ∧ (P.getD t (0, 0)).1 = (b : Int) ∧ W.getD t [] = W.getD b [] ++ [(P.getD t (0, 0)).2]
section
variable {n : List Int} {ys L : List (List Int)} {P : List (Int × Int)} {W : List (List Int)}
theorem AllInv.few (h : AllInv n ys L P W) : L.length ≤ 256 := by
  have := nodup_bound 256 (L.map numN) h.nd (fun x hx => by
    obtain ⟨l, hl, rfl⟩ := List.mem_map.1 hx
    have h1 := numN_lt l
    have h2 := h.ok l hl
    have h3 : 2 ^ l.length ≤ 2 ^ 8 := Nat.pow_le_pow_right (by decide) (by rw [h2.len]; exact h2.few)
    have h4 : (2 : Nat) ^ 8 = 256 := by decide
    omega)
  rwa [List.length_map] at this
theorem rd_eX {i : Nat} {l : List Int} (hi : L[i]? = some l) : rd (eX L) (i : Int) = ((setN l : Nat) : Int) := by
  show (eX L).getD ((i : Int)).toNat 0 = _
  rw [Int.toNat_natCast, List.getD_eq_getElem?_getD]
  unfold eX
  rw [List.getElem?_map, hi]
  rfl
theorem contains_eX (hok : ∀ l ∈ L, DeckOk n ys l) {q : List Int} (hq : DeckOk n ys q) : (eX L).contains ((setN q : Nat) : Int) = decide (numN q ∈ L.map numN) := by
  rw [Bool.eq_iff_iff, List.contains_iff_mem, decide_eq_true_iff]
  unfold eX
  rw [List.mem_map, List.mem_map]
  constructor
  · rintro ⟨l, hl, h⟩
    have h2 := hok l hl
    exact ⟨l, hl, by rw [setN_inj l q (by rw [h2.len, hq.len]) h2.fast hq.fast (by exact_mod_cast h)]⟩
  · rintro ⟨l, hl, h⟩
    have h2 := hok l hl
    exact ⟨l, hl, by rw [numN_inj (by rw [h2.len, hq.len]) h2.fast hq.fast h]⟩
theorem wf_set {q : List Int} (h : q.length ≤ 61) : (Lit.int .i64 ((setN q : Nat) : Int)).wf = true := by
  have := setN_small h
  have h2 : (2 : Nat) ^ 62 = 4611686018427387904 := by decide
  simp [Lit.wf, IntKind.min, IntKind.max, IntKind.signed, IntKind.bits]
  omega
theorem AllInv.push (h : AllInv n ys L P W) {i : Nat} {q : List Int} (hi : i < L.length) (hq : DeckOk n ys q) (hnew : numN q ∉ L.map numN) (j : Int) :
    AllInv n ys (L ++ [q]) (P ++ [((i : Int), j)]) (W ++ [W.getD i [] ++ [j]]) := by
  have hp := h.pl
  have hw := h.wl
  have hWi := h.way i
  refine ⟨fun l hl => ?_, ?_, by simp [hp], by simp [hw], ?_, fun t => ?_, fun t h0 ht => ?_⟩
  · rcases List.mem_append.1 hl with hl | hl
    · exact h.ok l hl
    · rw [List.mem_singleton.1 hl]; exact hq
  · rw [List.map_append, List.map_cons, List.map_nil, List.nodup_append]
    exact ⟨h.nd, by simp, fun a ha b hb e => by rw [List.mem_singleton.1 hb] at e; exact hnew (e ▸ ha)⟩
  · rw [List.getD_eq_getElem?_getD, List.getElem?_append_left (by omega), ← List.getD_eq_getElem?_getD]; exact h.zero
  · by_cases ht : t < W.length
    · rw [List.getD_eq_getElem?_getD, List.getElem?_append_left ht, ← List.getD_eq_getElem?_getD]; exact h.way t
    · rw [List.getD_eq_getElem?_getD, List.getElem?_append_right (by omega)]
      by_cases h1 : t = W.length
      · rw [h1, Nat.sub_self]
        simp only [List.getElem?_cons_zero, Option.getD_some, List.length_append, List.length_singleton]
        omega
      · rw [List.getElem?_eq_none (by simp; omega)]
        simp
  · rw [List.length_append, List.length_singleton] at ht
    by_cases h1 : t < L.length
    · obtain ⟨b, hb, h2, h3⟩ := h.path t h0 h1
      refine ⟨b, hb, ?_, ?_⟩
      · rw [List.getD_eq_getElem?_getD, List.getElem?_append_left (by omega), ← List.getD_eq_getElem?_getD]; exact h2
      · rw [List.getD_eq_getElem?_getD, List.getElem?_append_left (by omega), ← List.getD_eq_getElem?_getD, List.getD_eq_getElem?_getD (l := W ++ _) (i := b), List.getElem?_append_left (by omega), ← List.getD_eq_getElem?_getD, List.getD_eq_getElem?_getD (l := P ++ _), List.getElem?_append_left (by omega), ← List.getD_eq_getElem?_getD]
        exact h3
    · have e : t = L.length := by omega
      subst e
      refine ⟨i, hi, ?_, ?_⟩
      · rw [List.getD_eq_getElem?_getD, ← hp, List.getElem?_append_right (Nat.le_refl _), Nat.sub_self]; rfl
      · rw [List.getD_eq_getElem?_getD (l := P ++ _), List.getD_eq_getElem?_getD (l := W ++ _) (i := i), List.getElem?_append_left (by omega), ← List.getD_eq_getElem?_getD (l := W) (i := i), List.getD_eq_getElem?_getD]
        conv => lhs; rw [← hw, List.getElem?_append_right (Nat.le_refl _), Nat.sub_self]
        conv => rhs; rw [← hp, List.getElem?_append_right (Nat.le_refl _), Nat.sub_self]
        rfl
end
theorem getD_of {W : List (List Int)} {i : Nat} : rd_L1 W (i : Int) = W.getD i [] := by
  unfold rd_L1
  rw [Int.toNat_natCast]
end Go.Proofs.YtfkiamccipoioaaB
end

section
-- Written by gprint.py (own program, over the printer of the kit) out of the translation. Lean checks it.
namespace Go.Proofs.Ytfkiamccipoioaa.P
open Go.RowKit Go.Proofs.YtfkiamccipoioaaW.PrintWords Go.Proofs.YtfkiamccipoioaaW.PrintLast Go.Proofs.YtfkiamccipoioaaW.PrintMore Go.Proofs.YtfkiamccipoioaaW.Pk
open Bool renaming true → T_, false → F_
open List renaming setIfInBounds_toArray → sT_, set_cons_zero → s0_, set_cons_succ → sS_
attribute [local go_sem] max2_int min2_int max_two min_two max_three min_three max_four min_four   -- for this text's walks alone
set_option linter.unusedVariables false
set_option linter.unusedSimpArgs false

/-! ### slices_Index_int_int: function 70 -/
/-! ### impl_ShortestSteps: function 40 -/
-- (by hand)
open Go.Proofs.YtfkiamccipoioaaW.Hand
def rd40.T4 : Bool × List (List Nat × List Nat) := (true, [([], []), ([], []), ([1], [1]), ([0, 2, 2], [0, 2]), ([3], [3]), ([4], [4]), ([4], [4]), ([5, 3, 0, 1, 2, 3, 4, 5], [5]), ([6, 7, 0, 1, 2, 3, 4, 5, 6, 7], [6])])
def rd40.B4 : List Nat := [0, 0, 2, 7, 15, 31, 31, 63, 255]
theorem rd40.tab4 : rtab .any (opsOf Try.f40 4) = rd40.T4 := by kernel_rfl
theorem rd40.bits4 : waitsOk rd40.T4.2 rd40.B4 = true := by kernel_rfl
end Go.Proofs.Ytfkiamccipoioaa.P
end

section
/- RunSteps and ChangeLine, of both. -/
namespace Go.Proofs.YtfkiamccipoioaaB
open Go.RowKit Go.Proofs.YtfkiamccipoioaaW.PrintWords Go.Proofs.YtfkiamccipoioaaW.PrintLast Go.Proofs.YtfkiamccipoioaaW.PrintMore Go.Proofs.Ytfkiamccipoioaa.P

/-- The lines of a state, told by its set. -/
theorem tell_loop (l : List Int) (hl : l.length ≤ 61) (hf : ∀ c ∈ l, c = 70 ∨ c = 76) : ∀ (xs p : List Int), l = p ++ xs → Ev (fun k => impl_RunSteps.l1 k ((setN l : Nat) : Int) p (l.length : Int) (p.length : Int)) (strOfNums l, 0) := by
  intro xs
  induction xs with
  | nil =>
    intro p hp
    have e : l = p := by rw [hp, List.append_nil]
    refine Ev.step (fun k => by rw [impl_RunSteps.l1]) ?_
    refine ev_neg (by rw [e]; omega) (ev_of (Ev.now _) ?_)
    rw [e]
  | cons x xs ih =>
    intro p hp
    have hpl : (p.length : Int) + (xs.length + 1) = l.length := by rw [hp]; simp
    have hx : rd l (p.length : Int) = x := by rw [hp]; exact rd_mid p x xs
    have hw : wrap64 ((p.length : Int) + 1) = ((p ++ [x]).length : Int) := wrap_next p x (by omega)
    have hi := ih (p ++ [x]) (by rw [hp]; simp)
    have hxf := hf x (by rw [hp]; simp)
    refine Ev.step (fun k => by rw [impl_RunSteps.l1]) ?_
    rw [bit_rd l hl _ (by omega) (by omega), hx, hw]
    refine ev_pos (by omega) (ev_pos (by omega) ?_)
    rcases hxf with rfl | rfl
    · exact ev_pos (by decide) (ev_pos (by decide) (ev_pos (by omega) hi))
    · exact ev_pos (by decide) (ev_pos (by decide) (ev_pos (by omega) hi))
/-- What the steps xs lead to: the state, or a code. -/
def runR (n : List Int) (ys : List (List Int)) : List Int → List Int → ByteArray × Int
  | l, [] => (strOfNums l, 0)
  | l, x :: xs => if changeC n ys l x = 0 then runR n ys (flipL l x) xs else ((⟨#[]⟩ : ByteArray), changeC n ys l x)
section
variable (n : List Int) (ys : List (List Int)) (st : List Int) (hst : st.length ≤ 1048576) (hin : ∀ x ∈ st, 0 ≤ x ∧ x < (n.length : Int))
include hst hin
theorem impl_steps : ∀ (xs p l : List Int), st = p ++ xs → DeckOk n ys l → Ev (fun k => impl_RunSteps.l0 k ((setN l : Nat) : Int) st (st.length : Int) (p.length : Int) n ys) (runR n ys l xs) := by
  intro xs
  induction xs with
  | nil =>
    intro p l hp h
    have hfew := h.few
    have hlen := h.len
    refine Ev.step (fun k => by rw [impl_RunSteps.l0]) ?_
    refine ev_neg (by rw [hp, List.append_nil]; omega) ?_
    rw [runR, ← hlen]
    exact tell_loop l (by omega) h.fast l [] rfl
  | cons x xs ih =>
    intro p l hp h
    have hfew := h.few
    have hlen := h.len
    have hpl : (p.length : Int) + (xs.length + 1) = st.length := by rw [hp]; simp
    have hx : rd st (p.length : Int) = x := by rw [hp]; exact rd_mid p x xs
    have hw : wrap64 ((p.length : Int) + 1) = ((p ++ [x]).length : Int) := wrap_next p x (by omega)
    have hxi := hin x (by rw [hp]; simp)
    refine Ev.step (fun k => by rw [impl_RunSteps.l0]) ?_
    refine ev_pos (by omega) (ev_pos (by omega) (ev_pos (by omega) ?_))
    rw [hx, hw, runR]
    refine Ev.bind (impl_change h x hxi.1 hxi.2) (ev_ite (fun h2 => ?_) (fun h2 => ?_))
    · rw [if_pos h2, flip_bits l (by omega) x hxi.1 (by omega)]
      exact ev_pos hxi.1 (ih (p ++ [x]) (flipL l x) (by rw [hp]; simp) (h.flip x))
    · rw [if_neg h2]
      exact Ev.now _
end
def inD (n x : Int) : Bool := decide (0 ≤ x) && decide (x ≤ n - 1)
theorem areD_loop (n : Int) (st : List Int) (hst : st.length ≤ 1048576) : ∀ (xs p : List Int), st = p ++ xs → Ev (fun k => impl_areIn.l0 k 0 (n - 1) st (st.length : Int) (p.length : Int)) (xs.all (inD n)) := by
  intro xs
  induction xs with
  | nil =>
    intro p hp
    refine Ev.step (fun k => by rw [impl_areIn.l0]) ?_
    exact ev_neg (by rw [hp, List.append_nil]; omega) (Ev.now _)
  | cons x xs ih =>
    intro p hp
    have hpl : (p.length : Int) + (xs.length + 1) = st.length := by rw [hp]; simp
    have hx : rd st (p.length : Int) = x := by rw [hp]; exact rd_mid p x xs
    have hw : wrap64 ((p.length : Int) + 1) = ((p ++ [x]).length : Int) := wrap_next p x (by omega)
    have hi := ih (p ++ [x]) (by rw [hp]; simp)
    refine Ev.step (fun k => by rw [impl_areIn.l0]) ?_
    refine ev_pos (by omega) (ev_pos (by omega) (ev_pos (by omega) ?_))
    rw [hx, hw, List.all_cons]
    refine ev_bind0 (within_some _ _ _) (ev_ite (fun h => ?_) (fun h => ?_))
    · refine ev_of hi ?_
      rw [inD, h, Bool.true_and]
    · refine ev_of (Ev.now _) ?_
      simp only [Bool.not_eq_true] at h
      rw [inD, h, Bool.false_and]
end Go.Proofs.YtfkiamccipoioaaB
end
